/- The abstract machine, part 0: PxA PxB PxC PxD PxE PxF. -/
import GoSem.Dispatch
import GoSem.Core.Machine
import Derived.RangeFuncLeaves
import Derived.RangeFuncRecord
import Derived.Below
import Derived.Deep.AppendSrc
import Derived.Deep.MidRow
import Derived.Laws.IdiomCopy
import Derived.WalkKit
import Derived.Lib.Strings
import Derived.Laws.Tables
import Derived.Laws.StructEq
import Derived.ChangeKeysEq
import Derived.Great.BuildSlice
import Derived.MapKept
import Derived.Laws.Append
import Derived.Laws.AppendOwn
set_option linter.unusedVariables false
namespace Go.Px
inductive AV where
 | undef
 | bool (b : Bool)
 | int (k : IntKind) (n : Int)
 | str (s : List Nat)
 | sl (n : Nat) (cells : List AV) (full : Bool)
 | own (nm off n sz : Nat)
 | agg (cells : List AV)
 | tup (vs : List AV)
 | clo (f : FuncId) (caps : List AV)
 | yield (l : Nat)
 | nilFunc
 | nilIface
 | iface (t : TypeId) (v : AV)
 | ref (cells : List AV)
 | loc (nm off : Nat)
 | nilptr
 | map (nm : Nat)
 | nilmap
 
 | res (k : IntKind) (r M : Nat)
 deriving Inhabited
inductive TD where
 | bool | int (k : IntKind) | str | ptr (e : Nat) | slice (e : Nat) | array (n e : Nat) | map (k v : Nat)
 | struct (fs : List (Nat × Nat)) | func | iface | other
 deriving Inhabited
structure TyI where
 desc : TD
 size : Nat
 bytes : Nat
 zero : List AV
 deriving Inhabited
def TD.isAgg : TD → Bool
 | .array .. | .struct _ => true
 | _ => false
inductive AO where
 | dead
 | row (e : TypeId) (cs : List AV) (fr : Bool)
 | loop (state : LoopState) (pending : Option Code) (tmps : List AV) (params : List Nat) (assign body : Code)
 
 | map (kt vt : TypeId) (es : List (AV × AV)) (bs : List Nat) (ck : Nat)
 
 | iter (mp : Option Nat) (since : Nat) (seen : List Nat) (last : Nat)
 deriving Inhabited
abbrev Heap := List AO
inductive Tgt where
 | func (f : FuncId)
 | yield (l : Nat)
 deriving Inhabited
structure Acc where
 rd : List Nat
 wr : List Nat
 all : Bool
 deriving Inhabited
def Acc.none : Acc := ⟨[], [], false⟩
def Acc.read (nm : Nat) : Acc := ⟨[nm], [], false⟩
inductive Eff where
 | val (v : AV)
 | new (o : AO) (v : Nat → AV)
 | put (nm : Nat) (o : AO) (v : AV)
 | app (nm : Nat) (o : AO) (n sz : Nat)
 | call (t : Tgt) (args : List AV)
structure Env where
 ty : Nat → Option TyI
 fn : Nat → Option Func
 pure : Nat → Bool
 
 prim : Nat → List AV → Option (Heap → Option (Eff × Acc))
def ofVal1 : Value → AV
 | .bool b => .bool b
 | .int k n => .int k n
 | .string s => .str (s.data.toList.map UInt8.toNat)
 | .slice Option.none 0 0 => .sl 0 [] true
 | .pointer Option.none => .nilptr
 | .nilFunc => .nilFunc
 | .nilIface => .nilIface
 | .map Option.none => .nilmap
 | .iface t (.int k n) => .iface t (.int k n)
 | .iface t (.string s) => .iface t (.str (s.data.toList.map UInt8.toNat))
 | _ => .undef
def one : AV → Bool
 | .undef | .agg _ | .tup _ => false
 | _ => true
def ofVal : Value → AV
 | .agg cs => if (cs.toList.map ofVal1).all one then .agg (cs.toList.map ofVal1) else .undef
 | v => ofVal1 v
def cellsOf : AV → List AV
 | .agg cs => cs
 | .undef => []
 | .tup _ => []
 | v => [v]
def mkV (agg : Bool) (cs : List AV) : Option AV :=
 if agg then some (.agg cs) else match cs with
  | [v] => some v
  | _ => Option.none
def opA (tm : List AV) : Operand → AV
 | .tmp t => tm.getD t .undef
 | .const v => ofVal v
 | .func f => .clo f []
 | .global _ => .undef
def loadA (E : Env) (H : Heap) (t : TypeId) (p : AV) : Option (AV × Acc) := do
 let i ← E.ty t
 match p with
 | .ref cs => if i.size ≤ cs.length then return (← mkV i.desc.isAgg (cs.take i.size), Acc.none) else Option.none
 | .loc nm off =>
  match H[nm]? with
  | some (.row e cs _) => if off + i.size ≤ cs.length then return (← mkV i.desc.isAgg ((cs.drop off).take i.size), Acc.read nm) else Option.none
  | _ => Option.none
 | _ => Option.none
def lay (xs : List AV) (off : Nat) (ys : List AV) : List AV := xs.take off ++ ys ++ xs.drop (off + ys.length)
def storeA (E : Env) (H : Heap) (t : TypeId) (p v : AV) : Option (Eff × Acc) := do
 let i ← E.ty t
 match p with
 | .loc nm off =>
  match H[nm]? with
  | some (.row e cs false) =>
   if (cellsOf v).length = i.size ∧ off + i.size ≤ cs.length ∧ i.size ≠ 0 then return (.put nm (.row e (lay cs off (cellsOf v)) false) (.tup []), ⟨[], [nm], false⟩) else Option.none
  | _ => Option.none
 | _ => Option.none
def fieldAddrA (E : Env) (t : TypeId) (p : AV) (k : Nat) : Option AV := do
 let i ← E.ty t
 let .struct fs := i.desc | Option.none
 let (off, ft) ← fs[k]?
 let fi ← E.ty ft
 if fi.size = 0 then Option.none else
 match p with
 | .ref cs => if off < cs.length then return .ref (cs.drop off) else Option.none
 | .loc nm o => return .loc nm (o + off)
 | _ => Option.none
def indexAddrA (E : Env) (t : TypeId) (x ix : AV) : Option AV := do
 let i ← E.ty t
 let .int _ n := ix | Option.none
 match i.desc, x with
 | .slice e, .sl len cs _ =>
  let ei ← E.ty e
  if 0 ≤ n ∧ n < len ∧ n.toNat * ei.size < cs.length then return .ref (cs.drop (n.toNat * ei.size)) else Option.none
 | .slice e, .own nm off len sz =>
  let ei ← E.ty e
  if 0 ≤ n ∧ n < len ∧ sz = ei.size then return .loc nm (off + n.toNat * ei.size) else Option.none
 | .array len e, .ref cs =>
  let ei ← E.ty e
  if 0 ≤ n ∧ n < len ∧ n.toNat * ei.size < cs.length then return .ref (cs.drop (n.toNat * ei.size)) else Option.none
 | .array len e, .loc nm off =>
  let ei ← E.ty e
  if 0 ≤ n ∧ n < len then return .loc nm (off + n.toNat * ei.size) else Option.none
 | _, _ => Option.none
def fieldA (E : Env) (t : TypeId) (x : AV) (k : Nat) : Option AV := do
 let i ← E.ty t
 let .struct fs := i.desc | Option.none
 let (off, ft) ← fs[k]?
 let fi ← E.ty ft
 let .agg cs := x | Option.none
 if off + fi.size ≤ cs.length then mkV fi.desc.isAgg ((cs.drop off).take fi.size) else Option.none
def indexA (E : Env) (t : TypeId) (x ix : AV) : Option AV := do
 let i ← E.ty t
 let .int _ n := ix | Option.none
 match i.desc, x with
 | .str, .str s => if 0 ≤ n then (s[n.toNat]?).map fun (b : Nat) => AV.int .u8 b else Option.none
 | .array len e, .agg cs =>
  let ei ← E.ty e
  if 0 ≤ n ∧ n < len ∧ n.toNat * ei.size + ei.size ≤ cs.length then mkV ei.desc.isAgg ((cs.drop (n.toNat * ei.size)).take ei.size) else Option.none
 | _, _ => Option.none
def boundA (x : Option AV) (dflt most : Nat) : Option Nat :=
 match x with
 | Option.none => some dflt
 | some (.int _ n) => if 0 ≤ n ∧ n ≤ most then some n.toNat else Option.none
 | _ => Option.none
def sliceA (E : Env) (t : TypeId) (x : AV) (lo hi mx : Option AV) : Option AV := do
 let i ← E.ty t
 match i.desc, x with
 | .str, .str s =>
  if mx.isSome then Option.none else
  let h ← boundA hi s.length s.length
  let l ← boundA lo 0 h
  return .str ((s.take h).drop l)
 | .slice e, .sl n cs full =>
  let ei ← E.ty e
  if cs.length ≠ n * ei.size then Option.none else
  match mx with
  | Option.none =>
   let h ← boundA hi n n
   let l ← boundA lo 0 h
   return .sl (h - l) ((cs.take (h * ei.size)).drop (l * ei.size)) (full && h == n)
  | some m =>
   let m ← boundA (some m) 0 n
   let h ← boundA hi 0 m
   if hi.isNone then Option.none else
   let l ← boundA lo 0 h
   return .sl (h - l) ((cs.take (h * ei.size)).drop (l * ei.size)) (h == m)
 | .slice e, .own nm off n sz =>
  let ei ← E.ty e
  if mx.isSome ∨ sz ≠ ei.size then Option.none else
  let h ← boundA hi n n
  let l ← boundA lo 0 h
  return .own nm (off + l * ei.size) (h - l) sz
 | _, _ => Option.none
def byteV (b : Nat) : AV := .int .u8 b
def contentA (H : Heap) (sz : Nat) : AV → Option (Nat × List AV × Acc)
 | .sl n cs _ => if cs.length = n * sz then some (n, cs, Acc.none) else Option.none
 | .own nm off n sz' =>
  match H[nm]? with
  | some (.row e cs _) => if sz' = sz ∧ off + n * sz ≤ cs.length then some (n, (cs.drop off).take (n * sz), Acc.read nm) else Option.none
  | _ => Option.none
 | .str s => if sz = 1 then some (s.length, s.map byteV, Acc.none) else Option.none
 | _ => Option.none
def mostBytes : Nat := 35184372088832
def appendA0 (E : Env) (H : Heap) (t : TypeId) (s x : AV) : Option (Eff × Acc) := do
 let i ← E.ty t
 let .slice e := i.desc | Option.none
 let ei ← E.ty e
 let (k, new, acc) ← contentA H ei.size x
 if ei.size = 0 then Option.none else
 if k = 0 then
  match s with
  | .sl n cs f => return (.val (.sl n cs f), acc)
  | .own nm off n sz => return (.val (.own nm off n sz), acc)
  | _ => Option.none
 else match s with
  | .sl n cs true =>
   if cs.length = n * ei.size ∧ (n + k) * ei.bytes ≤ mostBytes ∧ n + k ≤ mostBytes then return (.new (.row e (cs ++ new) false) (fun nm => .own nm 0 (n + k) ei.size), acc) else Option.none
  | .own nm off n sz =>
   if sz ≠ ei.size ∨ off ≠ 0 then Option.none else
   match H[nm]? with
   | some (.row e' cs fr) =>
    if e' = e ∧ off + n * ei.size = cs.length ∧ (n + k) * ei.bytes ≤ mostBytes ∧ n + k ≤ mostBytes then
     return (.app nm (.row e (cs.drop off ++ new) fr) (n + k) ei.size, ⟨acc.rd, [nm], false⟩)
    else Option.none
   | _ => Option.none
  | _ => Option.none
def countA : AV → Nat
 | .sl n _ _ => n
 | .own _ _ n _ => n
 | .str s => s.length
 | _ => 0
def appendA (E : Env) (H : Heap) (t : TypeId) (s x : AV) : Option (Eff × Acc) :=
 if countA x = 0 then appendA0 E H t s x else
 match s with
 | .own nm off n sz => match H[nm]? with
  | some (.row e cs false) => if off + n * sz < cs.length then appendA0 E (H.set nm (.row e (cs.take (off + n * sz)) false)) t s x else appendA0 E H t s x
  | _ => appendA0 E H t s x
 | _ => appendA0 E H t s x
def fillA (place : Nat → Option (Nat × Nat)) (cells : List AV) : List (Nat × AV) → Option (List AV)
 | [] => some cells
 | (i, v) :: rest =>
  match place i with
  | Option.none => Option.none
  | some (off, size) => if (cellsOf v).length ≠ size ∨ off + size > cells.length ∨ size = 0 then Option.none else fillA place (lay cells off (cellsOf v)) rest
def buildA (E : Env) (t : TypeId) (parts : List (Nat × AV)) : Option AV := do
 let i ← E.ty t
 match i.desc with
 | .struct fs => return .agg (← fillA (fun k => do let (off, ft) ← fs[k]?; let fi ← E.ty ft; return (off, fi.size)) i.zero parts)
 | .array _ e =>
  let ei ← E.ty e
  return .agg (← fillA (fun k => some (k * ei.size, ei.size)) i.zero parts)
 | _ => Option.none
def zerosA (zero : List AV) : Nat → List AV
 | 0 => []
 | n + 1 => zero ++ zerosA zero n
def buildSliceA (E : Env) (t : TypeId) (len : Nat) (parts : List (Nat × AV)) : Option Eff := do
 let i ← E.ty t
 let .slice e := i.desc | Option.none
 let ei ← E.ty e
 if len * ei.size > 65536 ∨ ei.size = 0 then Option.none else
 let cs ← fillA (fun k => some (k * ei.size, ei.size)) (zerosA ei.zero len) parts
 return .new (.row e cs false) (fun nm => .own nm 0 len ei.size)
def intBin (op : BinOp) (k : IntKind) (a b : Int) : Option AV :=
 match op with
 | .add => some (.int k (k.wrap (a + b)))
 | .sub => some (.int k (k.wrap (a - b)))
 | .mul => some (.int k (k.wrap (a * b)))
 | .quo => if b = 0 then Option.none else some (.int k (k.wrap (a.tdiv b)))
 | .rem => if b = 0 then Option.none else some (.int k (a.tmod b))
 | .and => some (.int k (k.wrap (BitVec.ofInt k.bits a &&& BitVec.ofInt k.bits b).toNat))
 | .or => some (.int k (k.wrap (BitVec.ofInt k.bits a ||| BitVec.ofInt k.bits b).toNat))
 | .xor => some (.int k (k.wrap (BitVec.ofInt k.bits a ^^^ BitVec.ofInt k.bits b).toNat))
 | .andNot => some (.int k (k.wrap (BitVec.ofInt k.bits a &&& ~~~ BitVec.ofInt k.bits b).toNat))
 | .eql => some (.bool (a == b))
 | .neq => some (.bool (a != b))
 | .lss => some (.bool (a < b))
 | .leq => some (.bool (a ≤ b))
 | .gtr => some (.bool (a > b))
 | .geq => some (.bool (a ≥ b))
 | _ => Option.none
def lessN : List Nat → List Nat → Bool
 | _, [] => false
 | [], _ :: _ => true
 | a :: x, b :: y => Nat.blt a b || (Nat.beq a b && lessN x y)
def strBin (op : BinOp) (x y : List Nat) : Option AV :=
 match op with
 | .add => if x.length + y.length ≤ mostBytes then some (.str (x ++ y)) else Option.none
 | .eql => some (.bool (x == y))
 | .neq => some (.bool !(x == y))
 | .lss => some (.bool (lessN x y))
 | .leq => some (.bool (lessN x y || x == y))
 | .gtr => some (.bool !(lessN x y || x == y))
 | .geq => some (.bool !(lessN x y))
 | _ => Option.none
def eqFs (E : Env) (eq : TypeId → AV → AV → Option Bool) (xs ys : List AV) : List (Nat × Nat) → Option Bool
 | [] => some true
 | (off, ft) :: fs => do
  let fi ← E.ty ft
  if off + fi.size ≤ xs.length ∧ off + fi.size ≤ ys.length then
   let a ← mkV fi.desc.isAgg ((xs.drop off).take fi.size)
   let b ← mkV fi.desc.isAgg ((ys.drop off).take fi.size)
   if ← eq ft a b then eqFs E eq xs ys fs else some false
  else Option.none
def plainT (E : Env) : Nat → TypeId → Bool
 | 0, _ => false
 | d + 1, t => match E.ty t with
  | some i => match i.desc with
   | .struct fs => fs.all fun f => plainT E d f.2
   | .array _ e => plainT E d e
   | .iface | .other => false
   | _ => true
  | Option.none => false
def eqA (E : Env) : Nat → TypeId → AV → AV → Option Bool
 | 0, _, _, _ => Option.none
 | d + 1, t, x, y => do
  let i ← E.ty t
  match i.desc, x, y with
  | .bool, .bool a, .bool b => some (a == b)
  | .int _, .int k a, .int k' b => if k = k' then some (a == b) else Option.none
  | .str, .str a, .str b => some (a == b)
  | .ptr _, .nilptr, .nilptr => some true
  | .ptr _, .nilptr, .ref _ => some false
  | .ptr _, .nilptr, .loc _ _ => some false
  | .ptr _, .ref _, .nilptr => some false
  | .ptr _, .loc _ _, .nilptr => some false
  | .func, .nilFunc, .nilFunc => some true
  | .func, .nilFunc, .clo _ _ => some false
  | .func, .clo _ _, .nilFunc => some false
  | .iface, .nilIface, .nilIface => some true
  | .iface, .nilIface, .iface _ _ => some false
  | .iface, .iface _ _, .nilIface => some false
  | .iface, .iface tx vx, .iface ty vy =>
   if tx ≠ ty then some false else match (E.ty tx).map TyI.desc, vx, vy with
    | some (.int _), .int k a, .int k' b => if k = k' then some (a == b) else Option.none
    | _, _, _ => Option.none
  | .struct fs, .agg xs, .agg ys => if plainT E 8 t = true then eqFs E (eqA E d) xs ys fs else Option.none
  | .array n e, .agg xs, .agg ys => (E.ty e).bind fun ei => match ei.desc with
   | .int _ => eqFs E (eqA E d) xs ys ((List.range n).map fun k => (k * ei.size, e))
   | _ => Option.none
  | _, _, _ => Option.none
def isConstO : Operand → Bool
 | .const _ => true
 | _ => false
def resA (op : BinOp) (k : IntKind) (r M : Nat) : AV → Option AV
 | .int k' c => match op with
  | .shr => if 0 ≤ c ∧ M % 2 ^ c.toNat = 0 ∧ c.toNat ≤ k.bits then some (.res k (r / 2 ^ c.toNat) (M / 2 ^ c.toNat)) else Option.none
  | .and => if k = k' ∧ (c = 1 ∧ M % 2 = 0 ∨ c = 3 ∧ M % 4 = 0) then some (.int k ((r % (c.toNat + 1) : Nat) : Int)) else Option.none
  | .rem => if k = k' ∧ 0 < c ∧ M % c.toNat = 0 then some (.int k ((r % c.toNat : Nat) : Int)) else Option.none
  | _ => Option.none
 | _ => Option.none
def binA0 (E : Env) (op : BinOp) (t : TypeId) (xo yo : Operand) (x y : AV) : Option AV :=
 match op, x, y with
 | .shl, .int k a, .int _ b => if b < 0 then Option.none else some (.int k (k.wrap (a * 2 ^ (min b.toNat k.bits))))
 | .shr, .int k a, .int _ b => if b < 0 then Option.none else some (.int k (a.fdiv (2 ^ (min b.toNat k.bits))))
 | _, .int k a, .int k' b => if k = k' then intBin op k a b else Option.none
 | _, .str a, .str b => strBin op a b
 | .eql, .nilIface, .nilIface => if isConstO xo || isConstO yo then (eqA E 20 t .nilIface .nilIface).map .bool else Option.none
 | .neq, .nilIface, .nilIface => if isConstO xo || isConstO yo then (eqA E 20 t .nilIface .nilIface).map fun b => .bool !b else Option.none
 | .eql, x, y => (eqA E 20 t x y).map .bool
 | .neq, x, y => (eqA E 20 t x y).map fun b => .bool !b
 | _, _, _ => Option.none
def binA (E : Env) (op : BinOp) (t : TypeId) (xo yo : Operand) (x y : AV) : Option AV :=
 match x with
 | .res k r M => resA op k r M y
 | x => binA0 E op t xo yo x y
def unA (op : UnOp) (x : AV) : Option AV :=
 match op, x with
 | .not, .bool b => some (.bool !b)
 | .neg, .int k n => some (.int k (k.wrap (0 - n)))
 | _, _ => Option.none
def bytesA : List AV → Option (List Nat)
 | [] => some []
 | .int .u8 n :: l => if 0 ≤ n ∧ n < 256 then (bytesA l).map (n.toNat :: ·) else Option.none
 | _ => Option.none
def bstrA (E : Env) (H : Heap) (e : TypeId) (x : AV) : Option (Eff × Acc) :=
 match (E.ty e).map TyI.desc, contentA H 1 x with
 | some (.int .u8), some (_, cs, acc) => (bytesA cs).map fun l => (.val (.str l), acc)
 | _, _ => Option.none
def convA (E : Env) (H : Heap) (src dst : TypeId) (x : AV) : Option (Eff × Acc) := do
 let i ← E.ty src
 let j ← E.ty dst
 match i.desc, j.desc, x with
 | .int _, .int k, .int _ n => return (.val (.int k (k.wrap n)), Acc.none)
 | .str, .str, .str s => return (.val (.str s), Acc.none)
 | .slice e, .str, .sl n cs f => bstrA E H e (.sl n cs f)
 | .slice e, .str, .own nm off n sz => bstrA E H e (.own nm off n sz)
 | _, _, _ => Option.none
def assertA (E : Env) (x : AV) (asserted : TypeId) (ok : Bool) : Option AV := do
 let j ← E.ty asserted
 match j.desc, x with
 | .iface, _ => Option.none
 | _, .iface t v => if t = asserted then return (if ok then .tup [v, .bool true] else v) else if ok then return .tup [← mkV j.desc.isAgg j.zero, .bool false] else Option.none
 | _, .nilIface => if ok then return .tup [← mkV j.desc.isAgg j.zero, .bool false] else Option.none
 | _, _ => Option.none
def keyEq : TD → AV → AV → Option Bool
 | .int _, .int j a, .int k b => if j = k then some (a == b) else Option.none
 | .str, .str a, .str b => some (a == b)
 | .bool, .bool a, .bool b => some (a == b)
 | _, _, _ => Option.none
def findA (d : TD) (k : AV) : List (AV × AV) → Nat → Option (Option (Nat × AV))
 | [], _ => some Option.none
 | (q, v) :: es, i => match keyEq d k q with
  | some true => some (some (i, v))
  | some false => findA d k es (i + 1)
  | Option.none => Option.none
def simpleKey : TD → Bool
 | .int _ | .str | .bool => true
 | _ => false
def lookupA (E : Env) (H : Heap) (t : TypeId) (m k : AV) (ok : Bool) : Option (AV × Acc) := do
 let i ← E.ty t
 let .map kt vt := i.desc | Option.none
 let ki ← E.ty kt
 let vi ← E.ty vt
 if !simpleKey ki.desc then Option.none else
 let (es, acc) ← match m with
  | .nilmap => some ([], Acc.none)
  | .map nm => match H[nm]? with
   | some (.map kt' _ es _ _) => if kt' = kt then some (es, Acc.read nm) else Option.none
   | _ => Option.none
  | _ => Option.none
 match ← findA ki.desc k es 0 with
 | some (_, v) => return (if ok then .tup [v, .bool true] else v, acc)
 | Option.none =>
  let z ← mkV vi.desc.isAgg vi.zero
  return (if ok then .tup [z, .bool false] else z, acc)
def updateA (E : Env) (H : Heap) (t : TypeId) (m k v : AV) : Option (Eff × Acc) :=
 (E.ty t).bind fun i => match i.desc with
 | .map kt _ => (E.ty kt).bind fun ki =>
  if simpleKey ki.desc then match m with
   | .map nm => match H[nm]? with
    | some (.map kt' vt' es bs ck) => if kt' = kt then
      match findA ki.desc k es 0 with
      | some (some (j, _)) => some (.put nm (.map kt' vt' (es.set j (k, v)) bs ck) (.tup []), ⟨[], [nm], false⟩)
      | some Option.none => some (.put nm (.map kt' vt' (es ++ [(k, v)]) (bs ++ [ck]) (ck + 1)) (.tup []), ⟨[], [nm], false⟩)
      | Option.none => Option.none
     else Option.none
    | _ => Option.none
   | _ => Option.none
  else Option.none
 | _ => Option.none
def lenA (E : Env) (H : Heap) (t : TypeId) (x : AV) : Option (AV × Acc) := do
 let i ← E.ty t
 match i.desc, x with
 | .str, .str s => return (.int .i64 s.length, Acc.none)
 | .slice _, .sl n _ _ => return (.int .i64 n, Acc.none)
 | .slice _, .own _ _ n _ => return (.int .i64 n, Acc.none)
 | .map _ _, .nilmap => return (.int .i64 0, Acc.none)
 | .map _ _, .map nm => match H[nm]? with
  | some (.map _ _ es _ _) => return (.int .i64 es.length, Acc.read nm)
  | _ => Option.none
 | _, _ => Option.none
def most2 (big : Bool) : AV → AV → Option AV
 | .int k p, .int _ q => some (.int k (if big then (if q > p then q else p) else (if q < p then q else p)))
 | _, _ => Option.none
def mostA (big : Bool) : List AV → Option AV
 | [] => Option.none
 | x :: rest => rest.foldlM (most2 big) x
inductive XK where
 | range (t : TypeId) | next (isS : Bool) | entry | mapEntry (t : TypeId) | entryStore | delete (t : TypeId) | makeSlice (t : TypeId) | cap (t : TypeId) | clear (t : TypeId)
 
 | appendZ (t : TypeId)
 deriving Inhabited
def xRange (E : Env) (H : Heap) (t : TypeId) : List AV → Option (Eff × Acc)
 | [.nilmap] => (E.ty t).bind fun i => match i.desc with
  | .map _ _ => some (.new (.iter Option.none 0 [] 0) (fun nm => .loc nm 0), Acc.none)
  | _ => Option.none
 | [.map m] => (E.ty t).bind fun i => match i.desc, H[m]? with
  | .map _ _, some (.map _ _ _ _ ck) => some (.new (.iter (some m) ck [] ck) (fun nm => .loc nm 0), ⟨[], [m], false⟩)
  | _, _ => Option.none
 | _ => Option.none
def leftA (seen : List Nat) : List (AV × AV) → List Nat → List (AV × AV × Nat)
 | (k, v) :: es, b :: bs => if seen.any fun x => Nat.beq x b then leftA seen es bs else (k, v, b) :: leftA seen es bs
 | _, _ => []
def xNext (H : Heap) : List AV → Option (Eff × Acc)
 | [.loc nm 0] => match H[nm]? with
  | some (.iter Option.none _ _ _) => some (.val (.tup [.bool false]), ⟨[], [nm], false⟩)
  | some (.iter (some mn) since seen last) => match H[mn]? with
   | some (.map _ _ es bs ck) =>
    if !seen.isEmpty && !bs.isEmpty && bs.all (fun b => Nat.ble last b) then Option.none else
    match leftA seen es bs with
    | [] => some (.val (.tup [.bool false]), ⟨[], [nm, mn], false⟩)
    | [(k, v, b)] => if Nat.blt b since then some (.put nm (.iter (some mn) since (seen ++ [b]) ck) (.tup [.bool true, k, v]), ⟨[], [nm, mn], false⟩) else Option.none
    | _ => Option.none
   | _ => Option.none
  | _ => Option.none
 | _ => Option.none
def bornA (stamp : Nat) : List (AV × AV) → List Nat → Nat → Option (Nat × AV × AV)
 | (k, v) :: es, b :: bs, i => if Nat.beq b stamp then some (i, k, v) else bornA stamp es bs (i + 1)
 | _, _, _ => Option.none
def xEntry (H : Heap) : List AV → Option (Eff × Acc)
 | [.loc nm 0] => match H[nm]? with
  | some (.iter (some mn) _ seen last) => match H[mn]?, seen.getLast? with
   | some (.map _ _ es bs ck), some stamp => if Nat.beq ck last then (bornA stamp es bs 0).map fun (_, k, v) => (.val (.tup [k, v]), ⟨[], [nm, mn], false⟩) else Option.none
   | _, _ => Option.none
  | _ => Option.none
 | _ => Option.none
def xMapEntry (E : Env) (H : Heap) (t : TypeId) : List AV → Option (Eff × Acc)
 | [.map nm, k] => (E.ty t).bind fun i => match i.desc with
  | .map kt vt => (E.ty kt).bind fun ki => (E.ty vt).bind fun vi => if simpleKey ki.desc then match H[nm]? with
   | some (.map kt' vt' es bs ck) => if kt' = kt then match findA ki.desc k es 0 with
     | some (some (j, v)) => some (.put nm (.map kt' vt' (es.set j (k, v)) bs ck) (.tup [v, .int .i64 (bs.getD j 0 : Nat)]), ⟨[], [nm], false⟩)
     | some Option.none => (mkV vi.desc.isAgg vi.zero).bind fun z => some (.put nm (.map kt' vt' (es ++ [(k, z)]) (bs ++ [ck]) (ck + 1)) (.tup [z, .int .i64 (ck : Nat)]), ⟨[], [nm], false⟩)
     | Option.none => Option.none
    else Option.none
   | _ => Option.none
   else Option.none
  | _ => Option.none
 | _ => Option.none
def xEntryStore (H : Heap) : List AV → Option (Eff × Acc)
 | [.map nm, .int _ n, v] => match H[nm]? with
  | some (.map kt vt es bs ck) => if 0 ≤ n then (bornA n.toNat es bs 0).map fun (j, k, _) => (.put nm (.map kt vt (es.set j (k, v)) bs ck) (.tup []), ⟨[], [nm], false⟩) else Option.none
  | _ => Option.none
 | _ => Option.none
def xDelete (E : Env) (H : Heap) (t : TypeId) : List AV → Option (Eff × Acc)
 | [.map nm, k] => (E.ty t).bind fun i => match i.desc with
  | .map kt vt => (E.ty kt).bind fun ki => if simpleKey ki.desc then match H[nm]? with
   | some (.map kt' vt' es bs ck) => if kt' = kt then match findA ki.desc k es 0 with
     | some (some (j, _)) => some (.put nm (.map kt' vt' (es.eraseIdx j) (bs.eraseIdx j) ck) (.tup []), ⟨[], [nm], false⟩)
     | some Option.none => some (.put nm (.map kt' vt' es bs ck) (.tup []), ⟨[], [nm], false⟩)
     | Option.none => Option.none
    else Option.none
   | _ => Option.none
   else Option.none
  | _ => Option.none
 | _ => Option.none
def xMakeSlice (E : Env) (t : TypeId) : List AV → Option (Eff × Acc)
 | [.int _ n, .int _ c] => (E.ty t).bind fun i => match i.desc with
  | .slice e => (E.ty e).bind fun ei => if 0 ≤ n ∧ n ≤ c ∧ c * ei.bytes ≤ mostBytes ∧ c ≤ mostBytes ∧ ei.size ≠ 0 then
    some (.new (.row e (zerosA ei.zero c.toNat) false) (fun nm => .own nm 0 n.toNat ei.size), Acc.none) else Option.none
  | _ => Option.none
 | _ => Option.none
def xCap (E : Env) (t : TypeId) : List AV → Option (Eff × Acc)
 | [.sl n _ true] => (E.ty t).bind fun i => match i.desc with
  | .slice _ => some (.val (.int .i64 n), Acc.none)
  | _ => Option.none
 | _ => Option.none
def xClear (E : Env) (H : Heap) (t : TypeId) : List AV → Option (Eff × Acc)
 | [.sl 0 _ _] => (E.ty t).bind fun i => match i.desc with
  | .slice _ => some (.val (.tup []), Acc.none)
  | _ => Option.none
 | [.own nm off n sz] => (E.ty t).bind fun i => match i.desc with
  | .slice e => (E.ty e).bind fun ei => if n = 0 then some (.val (.tup []), Acc.none) else match H[nm]? with
   | some (.row e' cs false) => if sz = ei.size ∧ off + n * sz ≤ cs.length ∧ ei.size ≠ 0 then some (.put nm (.row e' (lay cs off (zerosA ei.zero n)) false) (.tup []), ⟨[], [nm], false⟩) else Option.none
   | _ => Option.none
  | _ => Option.none
 | _ => Option.none
def xAppendZ (E : Env) (t : TypeId) : List AV → Option (Eff × Acc)
 | [.sl 0 [] true, .int _ n] => (E.ty t).bind fun i => match i.desc with
  | .slice e => (E.ty e).bind fun ei => if 0 < n ∧ n * ei.bytes ≤ mostBytes ∧ n ≤ mostBytes ∧ ei.size ≠ 0 then
    some (.new (.row e (zerosA ei.zero n.toNat) false) (fun nm => .own nm 0 n.toNat ei.size), Acc.none) else Option.none
  | _ => Option.none
 | _ => Option.none
def extA (E : Env) (H : Heap) (k : XK) (xs : List AV) : Option (Eff × Acc) :=
 match k with
 | .range t => xRange E H t xs
 | .next isS => if isS then Option.none else xNext H xs
 | .entry => xEntry H xs
 | .mapEntry t => xMapEntry E H t xs
 | .entryStore => xEntryStore H xs
 | .delete t => xDelete E H t xs
 | .makeSlice t => xMakeSlice E t xs
 | .cap t => xCap E t xs
 | .clear t => xClear E H t xs
 | .appendZ t => xAppendZ E t xs
def builtinX (b : Builtin) (t : TypeId) : Option XK :=
 match b with
 | .delete => some (.delete t)
 | .cap => some (.cap t)
 | .clear => some (.clear t)
 | _ => Option.none
def calleeA (tm : List AV) : Operand → Option (Tgt × List AV)
 | .func f => some (.func f, [])
 | x => match opA tm x with
  | .clo f caps => some (.func f, caps)
  | .yield l => some (.yield l, [])
  | _ => Option.none
def evalOp (E : Env) (tm : List AV) (H : Heap) (o : Oper) : Option (Eff × Acc) :=
 let ρ := opA tm
 let v (x : Option AV) : Option (Eff × Acc) := x.map fun x => (.val x, Acc.none)
 let va (x : Option (AV × Acc)) : Option (Eff × Acc) := x.map fun (x, a) => (.val x, a)
 match o.op with
 | .move x | .assign x => v (some (ρ x))
 | .pick c a b => match ρ c with
  | .bool c => v (some (if c then ρ a else ρ b))
  | _ => Option.none
 | .alloc t => (E.ty t).bind fun i => some (.new (.row t i.zero false) (fun nm => .loc nm 0), Acc.none)
 | .box t x => (E.ty t).bind fun _ => some (.new (.row t (cellsOf (ρ x)) false) (fun nm => .loc nm 0), Acc.none)
 | .build t parts => v (buildA E t (parts.toList.map fun (i, x) => (i, ρ x)))
 | .buildSlice t len parts => (buildSliceA E t len (parts.toList.map fun (i, x) => (i, ρ x))).map (·, Acc.none)
 | .load t a => va (loadA E H t (ρ a))
 | .store t a x => storeA E H t (ρ a) (ρ x)
 | .nilCheck x => match ρ x with
  | .ref cs => v (some (.ref cs))
  | .loc nm off => v (some (.loc nm off))
  | .clo f caps => v (some (.clo f caps))
  | _ => Option.none
 | .binOp op t x y _ => v (binA E op t x y (ρ x) (ρ y))
 | .unOp op _ x => v (unA op (ρ x))
 | .convert src dst x => convA E H src dst (ρ x)
 | .makeInterface t x => (E.ty t).bind fun i => match i.desc with
  | .iface => Option.none
  | _ => v (some (.iface t (ρ x)))
 | .makeFunc (.func f) first captured => if first.size = 0 then v (some (.clo f (captured.toList.map ρ))) else Option.none
 | .makeMap t Option.none => (E.ty t).bind fun i => match i.desc with
  | .map k e => some (.new (.map k e [] [] 0) (fun nm => .map nm), Acc.none)
  | _ => Option.none
 | .slice t x lo hi mx => v (sliceA E t (ρ x) (lo.map ρ) (hi.map ρ) (mx.map ρ))
 | .fieldAddr t x k => v (fieldAddrA E t (ρ x) k)
 | .field t x k => v (fieldA E t (ρ x) k)
 | .indexAddr t x i => v (indexAddrA E t (ρ x) (ρ i))
 | .index t x i => v (indexA E t (ρ x) (ρ i))
 | .lookup t x i ok => va (lookupA E H t (ρ x) (ρ i) ok)
 | .mapUpdate t x i y => updateA E H t (ρ x) (ρ i) (ρ y)
 | .typeAssert x _ t ok => v (assertA E (ρ x) t ok)
 | .extract t i => match ρ t with
  | .tup vs => v (vs[i]?)
  | _ => Option.none
 | .call c =>
  match c.callee with
  | .value f => (calleeA tm f).map fun (t, caps) => (.call t (c.args.toList.map ρ ++ caps), Acc.none)
  | .builtin .len => match c.argTypes.toList, c.args.toList with
   | [t], [x] => va (lenA E H t (ρ x))
   | _, _ => Option.none
  | .builtin .append => match c.argTypes.toList, c.args.toList with
   | [t, t2], [s, x] => (E.ty t2).bind fun i => match i.desc with
    | .slice _ | .str => appendA E H t (ρ s) (ρ x)
    | .int _ => extA E H (.appendZ t) [ρ s, ρ x]
    | _ => Option.none
   | _, _ => Option.none
  | .builtin .min => v (mostA false (c.args.toList.map ρ))
  | .builtin .max => v (mostA true (c.args.toList.map ρ))
  | .builtin b => match c.argTypes.toList with
   | t :: _ => (builtinX b t).bind fun k => extA E H k (c.args.toList.map ρ)
   | [] => Option.none
  | _ => Option.none
 | .range t x => extA E H (.range t) [ρ x]
 | .next x isS => extA E H (.next isS) [ρ x]
 | .entry x => extA E H .entry [ρ x]
 | .mapEntry t x k => extA E H (.mapEntry t) [ρ x, ρ k]
 | .entryStore _ x k y => extA E H .entryStore [ρ x, ρ k, ρ y]
 | .makeSlice t n c => extA E H (.makeSlice t) [ρ n, ρ c]
 | _ => Option.none
section force
variable {α : Type}
def fN (n : Nat) (c : Nat → α) : α := match n with
 | 0 => c 0
 | m + 1 => c (m + 1)
def fI (n : Int) (c : Int → α) : α := match n with
 | .ofNat m => fN m fun m => c (.ofNat m)
 | .negSucc m => fN m fun m => c (.negSucc m)
def fB (b : Bool) (c : Bool → α) : α := match b with
 | true => c true
 | false => c false
def fLN : List Nat → (List Nat → α) → α
 | [], c => c []
 | n :: l, c => fN n fun n => fLN l fun l => c (n :: l)
def fS {β : Type} : List β → (List β → α) → α
 | [], c => c []
 | x :: l, c => fS l fun l => c (x :: l)
mutual
def fV : AV → (AV → α) → α
 | .undef, c => c .undef
 | .bool b, c => fB b fun b => c (.bool b)
 | .int k n, c => fI n fun n => c (.int k n)
 | .str s, c => fLN s fun s => c (.str s)
 | .sl n cs f, c => fN n fun n => fL cs fun cs => fB f fun f => c (.sl n cs f)
 | .own nm off n sz, c => fN nm fun nm => fN off fun off => fN n fun n => fN sz fun sz => c (.own nm off n sz)
 | .agg cs, c => fL cs fun cs => c (.agg cs)
 | .tup cs, c => fL cs fun cs => c (.tup cs)
 | .clo f cs, c => fN f fun f => fL cs fun cs => c (.clo f cs)
 | .yield l, c => fN l fun l => c (.yield l)
 | .nilFunc, c => c .nilFunc
 | .nilIface, c => c .nilIface
 | .iface t v, c => fV v fun v => c (.iface t v)
 | .ref cs, c => fL cs fun cs => c (.ref cs)
 | .loc nm off, c => fN nm fun nm => fN off fun off => c (.loc nm off)
 | .nilptr, c => c .nilptr
 | .map nm, c => fN nm fun nm => c (.map nm)
 | .nilmap, c => c .nilmap
 | .res k r M, c => fN r fun r => fN M fun M => c (.res k r M)
def fL : List AV → (List AV → α) → α
 | [], c => c []
 | v :: l, c => fV v fun v => fL l fun l => c (v :: l)
end
def fW (v : AV) (c : AV → α) : α := match v with
 | .agg cs => fS cs fun cs => c (.agg cs)
 | .tup cs => fS cs fun cs => c (.tup cs)
 | .ref cs => fS cs fun cs => c (.ref cs)
 | .sl n cs f => fN n fun n => fS cs fun cs => fB f fun f => c (.sl n cs f)
 | .loc nm off => fN nm fun nm => fN off fun off => c (.loc nm off)
 | .own nm off n sz => fN nm fun nm => fN off fun off => fN n fun n => fN sz fun sz => c (.own nm off n sz)
 | v => c v
def fO (o : AO) (c : AO → α) : α := match o with
 | .row e cs fr => fL cs fun cs => fB fr fun fr => c (.row e cs fr)
 | o => c o
end force
structure St where
 tm : List AV
 H : Heap
 deriving Inhabited
def putT (tm : List AV) : Option Tmp → AV → List AV
 | some d, v => tm.set d v
 | Option.none, _ => tm
abbrev CallT := Tgt → List AV → Heap → Option (AV × Heap × Acc)
def layNew (slot : Option Nat) (H : Heap) (o : AO) : Nat × Heap :=
 match slot with
 | some nm => (nm, H.set nm o)
 | Option.none => (H.length, H ++ [o])
def lightOp : Op → Bool
 | .move _ | .assign _ | .load .. | .extract .. | .pick .. | .nilCheck _ | .fieldAddr .. | .indexAddr .. | .field .. => true
 | _ => false
def done (o : Oper) (tm : List AV) (H : Heap) (acc : Acc) (v : AV) : Option (St × Acc) :=
 fS (putT tm o.dst v) fun tm => fS H fun H => some (⟨tm, H⟩, acc)
def Acc.add (acc : Acc) : Option Nat → Acc
 | some nm => ⟨acc.rd, nm :: nm :: nm :: acc.wr, acc.all⟩
 | Option.none => acc
def applyEff (call : CallT) (slot : Option Nat) (o : Oper) (st : St) (acc : Acc) : Eff → Option (St × Acc)
 | .val v => (if lightOp o.op then fW v else fV v) fun v => fS (putT st.tm o.dst v) fun tm => some (⟨tm, st.H⟩, acc)
 | .new ob f => fO ob fun ob => fV (f (layNew slot st.H ob).1) fun v => done o st.tm (layNew slot st.H ob).2 (acc.add slot) v
 | .put nm ob v => fO ob fun ob => fV v fun v => done o st.tm (st.H.set nm ob) acc v
 | .app nm ob n sz => fO ob fun ob => fV (.own (layNew slot (st.H.set nm .dead) ob).1 0 n sz) fun v => done o st.tm (layNew slot (st.H.set nm .dead) ob).2 (acc.add slot) v
 | .call t args => fS args fun args => match call t args st.H with
  | some (r, H, acc') => fV r fun r => done o st.tm H acc' r
  | Option.none => Option.none
def primEff (E : Env) (H : Heap) (x : Eff × Acc) : Option (Eff × Acc) :=
 match x.1 with
 | .call (.func f) args => fS args fun args => match E.prim f args with
  | some p => p H
  | Option.none => some (.call (.func f) args, x.2)
 | _ => some x
def runOp (E : Env) (call : CallT) (slot : Option Nat) (o : Oper) (st : St) : Option (St × Acc) :=
 match evalOp E st.tm st.H o with
 | some x => match primEff E st.H x with
  | some (eff, acc) => applyEff call slot o st acc eff
  | Option.none => Option.none
 | Option.none => Option.none
def wantedA (ops : List Oper) (tm : List AV) (o : Oper) : Option Bool :=
 match o.guard with
 | Option.none => some true
 | some (j, want) => match (ops[j]?).bind (·.dst) with
  | some d => match tm.getD d .undef with
   | .bool b => some (b == want)
   | .tup _ => some false
   | _ => Option.none
  | Option.none => Option.none
def runOpG (E : Env) (call : CallT) (ops : List Oper) (slot : Option Nat) (o : Oper) (st : St) : Option (St × Acc) :=
 match wantedA ops st.tm o with
 | some true => runOp E call slot o st
 | some false => fS (putT st.tm o.dst (.tup [])) fun tm => some (⟨tm, st.H⟩, Acc.none)
 | Option.none => Option.none
def runOps (E : Env) (call : CallT) (ops : List Oper) : List Oper → St → Option St
 | [], st => some st
 | o :: rest, st => do
  let (st', _) ← runOpG E call ops Option.none o st
  runOps E call ops rest st'
def fzL (f : AV → Option (AV × List Nat)) : List AV → Option (List AV × List Nat)
 | [] => some ([], [])
 | v :: vs => do
  let (x, ns) ← f v
  let (xs, ms) ← fzL f vs
  return (x :: xs, ns ++ ms)
def fz (E : Env) (H : Heap) : Nat → AV → Option (AV × List Nat)
 | 0, _ => Option.none
 | k + 1, v =>
  match v with
  | .own nm off n sz =>
   match H[nm]? with
   | some (.row _ cs _) =>
    if off + n * sz ≤ cs.length then do
     let (l, ns) ← fzL (fz E H k) cs
     return (.sl n ((l.drop off).take (n * sz)) false, nm :: ns)
    else Option.none
   | _ => Option.none
  | .loc nm off =>
   match H[nm]? with
   | some (.row _ cs _) =>
    if off < cs.length then do
     let (l, ns) ← fzL (fz E H k) cs
     return (.ref (l.drop off), nm :: ns)
    else Option.none
   | _ => Option.none
  | .agg cs => do let (l, ns) ← fzL (fz E H k) cs; return (.agg l, ns)
  | .tup cs => do let (l, ns) ← fzL (fz E H k) cs; return (.tup l, ns)
  | .clo f cs => do let (l, ns) ← fzL (fz E H k) cs; return (.clo f l, ns)
  | .iface t x => do let (x, ns) ← fz E H k x; return (.iface t x, ns)
  | .yield _ | .map _ | .undef => Option.none
  | v => some (v, [])
def flat1 : AV → Bool
 | .bool _ | .int _ _ | .str _ | .nilFunc | .nilIface | .nilptr | .nilmap | .res .. => true
 | _ => false
def flat : AV → Bool
 | .tup vs => vs.all flat1
 | .agg vs => vs.all flat1
 | .iface _ v => flat1 v
 | v => flat1 v
def markOne (H : Heap) (nm : Nat) : Heap :=
 match H[nm]? with
 | some (.row e cs _) => H.set nm (.row e cs true)
 | _ => H
def markAll (H : Heap) (ns : List Nat) : Heap := ns.foldl markOne H
def fzDeep : Nat := 60
mutual
def eqW : AV → AV → Bool
 | .undef, .undef => true
 | .bool a, .bool b => a == b
 | .int j a, .int k b => decide (j = k) && decide (a = b)
 | .str a, .str b => decide (a = b)
 | .sl n a f, .sl m b g => decide (n = m) && f == g && eqWL a b
 | .own a b c d, .own e f g h => decide (a = e) && decide (b = f) && decide (c = g) && decide (d = h)
 | .agg a, .agg b => eqWL a b
 | .tup a, .tup b => eqWL a b
 | .clo f a, .clo g b => decide (f = g) && eqWL a b
 | .yield a, .yield b => decide (a = b)
 | .nilFunc, .nilFunc => true
 | .nilIface, .nilIface => true
 | .iface t a, .iface u b => decide (t = u) && eqW a b
 | .ref a, .ref b => eqWL a b
 | .loc a b, .loc c d => decide (a = c) && decide (b = d)
 | .nilptr, .nilptr => true
 | .map a, .map b => decide (a = b)
 | .nilmap, .nilmap => true
 | .res j a b, .res k c d => decide (j = k) && decide (a = c) && decide (b = d)
 | _, _ => false
def eqWL : List AV → List AV → Bool
 | [], [] => true
 | a :: l, b :: m => eqW a b && eqWL l m
 | _, _ => false
end
def sameO : AO → AO → Bool
 | .dead, .dead => true
 | .row e cs f, .row e' cs' f' => decide (e = e') && f == f' && eqWL cs cs'
 | .map k v es bs ck, .map k' v' es' bs' ck' => decide (k = k') && decide (v = v') && eqWL (es.map (·.1)) (es'.map (·.1)) && eqWL (es.map (·.2)) (es'.map (·.2)) && decide (bs = bs') && decide (ck = ck')
 | .iter m s l k, .iter m' s' l' k' => decide (m = m') && decide (s = s') && decide (l = l') && decide (k = k')
 | _, _ => false
def unchG : Heap → Heap → Nat → List Nat
 | a :: H, b :: H2, i => if sameO a b then i :: unchG H H2 (i + 1) else unchG H H2 (i + 1)
 | _, _, _ => []
def rawAcc (H H2 : Heap) : Acc := ⟨unchG H H2 0, [], true⟩
def befStep (acc : List Nat) (o : Oper) : List Nat :=
 fS (acc ++ [o.after.toList.foldl (fun m e => if Region.binds .any e then Nat.lor m (Nat.lor (Nat.pow 2 e.on) (acc.getD e.on 0)) else m) 0]) fun l => l
def beforeA (ops : List Oper) : List Nat := ops.foldl befStep []
def Acc.idle (a : Acc) : Bool := !a.all && a.rd.isEmpty && a.wr.isEmpty
def hitL (a b : List Nat) : Bool := a.any fun x => b.any fun y => Nat.beq x y
def hasN (l : List Nat) (x : Nat) : Bool := l.any fun y => Nat.beq y x
def Acc.fresh (a : Acc) : Bool := !a.all && a.rd.isEmpty && Nat.beq a.wr.length 3
def Acc.quiet (a : Acc) : Bool := !a.all && a.wr.isEmpty && Nat.ble a.rd.length 1
def Acc.meets (a b : Acc) : Bool :=
 if a.all then !(b.idle || b.fresh || (b.quiet && b.rd.all (hasN a.rd)))
 else if b.all then !(a.idle || (a.quiet && a.rd.all (hasN b.rd)))
 else hitL a.wr b.rd || hitL a.wr b.wr || hitL b.wr a.rd
def looksL (ops : List Oper) (o : Oper) : List Nat :=
  (o.op.operands.toList.filterMap fun x => match x with
    | .tmp t => some t
    | _ => Option.none) ++
  (match o.guard with
   | some (g, _) => ((ops[g]?).bind (·.dst)).toList
   | Option.none => [])
def hitO : Option Nat → List Nat → Bool
 | some d, l => l.any fun x => Nat.beq x d
 | Option.none, _ => false
def sepA (ops : List Oper) (x y : Oper) : Bool :=
 !hitO x.dst (looksL ops y) && !hitO y.dst (looksL ops x) && !hitO x.dst y.dst.toList
def drawOk (ops : List Oper) : Bool :=
 let bef := beforeA ops
 (List.range ops.length).all fun i => match ops[i]? with
  | some o => o.after.toList.all (fun e => !Region.binds .any e || Nat.blt e.on i) && (List.range i).all fun j => match ops[j]? with
   | some q => (bef.getD i 0).testBit j || sepA ops o q
   | Option.none => true
  | Option.none => true
def apartA (bef : List Nat) (accs : List Acc) : Bool :=
 (List.range accs.length).all fun i => (List.range i).all fun j =>
  !(accs.getD j Acc.none).meets (accs.getD i Acc.none) || (bef.getD i 0).testBit j
def mayLay : Op → Bool
 | .alloc _ | .box .. | .buildSlice .. | .makeMap .. | .range .. | .makeSlice .. => true
 | .call c => match c.callee with
  | .builtin .append => true
  | .builtin _ => false
  | _ => true
 | _ => false
def rankA (ops : List Oper) (i : Nat) : Nat := ((ops.take i).filter fun o => mayLay o.op).length
def slotA (n0 : Nat) (ops : List Oper) (i : Nat) : Option Nat :=
 match ops[i]? with
 | some o => if mayLay o.op then some (n0 + rankA ops i) else Option.none
 | Option.none => Option.none
def runDraw (E : Env) (call : CallT) (ops : List Oper) (n0 : Nat) : List Oper → Nat → St → List Acc → Option (St × List Acc)
 | [], _, st, accs => some (st, accs)
 | o :: rest, i, st, accs => do
  let (st', acc) ← runOpG E call ops (slotA n0 ops i) o st
  runDraw E call ops n0 rest (i + 1) st' (accs ++ [acc])
def runRegion (E : Env) (call : CallT) (ops : List Oper) (draw : Bool) (st : St) : Option St :=
 if !draw then runOps E call ops ops st else do
  let n0 := st.H.length
  let (st', accs) ← runDraw E call ops n0 ops 0 { st with H := st.H ++ List.replicate (rankA ops ops.length) .dead } []
  if drawOk ops && apartA (beforeA ops) accs then return st' else Option.none
def memN (l : List Nat) (x : Nat) : Bool := l.any fun y => Nat.beq y x
def addN (l : List Nat) (x : Nat) : List Nat := if memN l x then l else l ++ [x]
def exposed (ops : List Oper) : List Oper → List Nat → List Nat → List Nat × List Nat
 | [], W, X => (W, X)
 | o :: rest, W, X => exposed ops rest (match o.dst with
  | some d => d :: W
  | none => W) ((looksL ops o).foldl (fun X t => if memN W t then X else addN X t) X)
def varsC : Code → List Nat → List Nat → List Nat × List Nat
 | .region _ ops _, _, X => exposed ops.toList ops.toList [] X
 | .seq a b, W, X => match varsC a W X with
  | (W, X) => varsC b W X
 | .cond c a b, W, X => match varsC a W (match c with
   | .tmp t => if memN W t then X else addN X t
   | _ => X) with
  | (_, X) => match varsC b W X with
   | (_, X) => ([], X)
 | .block _ b, W, X => match varsC b W X with
  | (_, X) => ([], X)
 | .loop b, _, X => match varsC b [] X with
  | (_, X) => ([], X)
 | _, W, X => (W, X)
def meetW : Option (List Nat) → Option (List Nat) → Option (List Nat)
 | some a, some b => some (a.filter (memN b))
 | some a, Option.none => some a
 | Option.none, b => b
def expC : Code → List Nat → List Nat → Option (List Nat) × List Nat
 | .region _ ops _, W, X => match exposed ops.toList ops.toList W X with
  | (W, X) => (some W, X)
 | .seq a b, W, X => match expC a W X with
  | (some W, X) => expC b W X
  | (Option.none, X) => (Option.none, X)
 | .cond c a b, W, X => match expC a W (match c with
   | .tmp t => if memN W t then X else addN X t
   | _ => X) with
  | (Wa, X) => match expC b W X with
   | (Wb, X) => (meetW Wa Wb, X)
 | .block _ b, W, X => match expC b W X with
  | (_, X) => (some W, X)
 | .loop b, W, X => match expC b W X with
  | (_, X) => (Option.none, X)
 | .exit _, _, X => (Option.none, X)
 | .ret, _, X => (Option.none, X)
 | .rangeFunc f ps asg body, W, X => match expC asg (ps.toList ++ W) (match f with
   | .tmp t => if memN W t then X else addN X t
   | _ => X) with
  | (some W1, X) => match expC body W1 X with
   | (_, X) => (some W, X)
  | (Option.none, X) => (some W, X)
 | _, W, X => (some W, X)
def liveC (ps : List Nat) (asg body : Code) : List Nat := match expC asg ps [] with
 | (some W, X) => (expC body W X).2
 | (Option.none, X) => X
def maskT (live : List Nat) : Nat → List AV → List AV
 | _, [] => []
 | i, x :: l => (if memN live i then x else .undef) :: maskT live (i + 1) l
inductive AExit where
 | normal
 | exit (id : Nat)
 | ret
 deriving Inhabited
def loopN (f : St → Option (AExit × St)) : Nat → St → Option (AExit × St)
 | 0, _ => Option.none
 | k + 1, st => do
  let (e, st') ← f st
  match e with
  | .normal => loopN f k st'
  | e => return (e, st')
def evalC (E : Env) (call : CallT) (k : Nat) : Code → St → Option (AExit × St)
 | .skip, st => some (.normal, st)
 | .label _, st => some (.normal, st)
 | .region _ ops draw, st => (runRegion E call ops.toList draw st).map (.normal, ·)
 | .seq a b, st => do
  let (e, st') ← evalC E call k a st
  match e with
  | .normal => evalC E call k b st'
  | e => return (e, st')
 | .cond c a b, st => match opA st.tm c with
  | .bool true => evalC E call k a st
  | .bool false => evalC E call k b st
  | _ => Option.none
 | .block id b, st => do
  let (e, st') ← evalC E call k b st
  match e with
  | .exit i => if i = id then return (.normal, st') else return (.exit i, st')
  | e => return (e, st')
 | .loop b, st => loopN (evalC E call k b) k st
 | .exit id, st => some (.exit id, st)
 | .ret, st => some (.ret, st)
 | .rangeFunc f params assign body, st =>
  match opA st.tm f with
  | .clo g caps => do
   let l := st.H.length
   let (_, H, _) ← call (.func g) (.yield l :: caps) (st.H ++ [.loop .ready Option.none (maskT (liveC params.toList assign body) 0 st.tm) params.toList assign body])
   match H[l]? with
   | some (.loop s pend tm ps asg bd) =>
    if s == .busy then Option.none else
    let st' : St := ⟨st.tm, H.set l (.loop .exhausted pend tm ps asg bd)⟩
    match pend with
    | Option.none => return (.normal, st')
    | some .ret => return (.ret, st')
    | some (.exit id) => return (.exit id, st')
    | _ => Option.none
   | _ => Option.none
  | _ => Option.none
 | _, _ => Option.none
def resultA (E : Env) (st : St) : ResultVar → Option AV
 | .tmp t => some (st.tm.getD t .undef)
 | .cell a t => (loadA E st.H t (st.tm.getD a .undef)).map (·.1)
def resOf : List AV → AV
 | [r] => r
 | rs => .tup rs
def runBody (E : Env) (call : CallT) (k : Nat) (fn : Func) (args : List AV) (H : Heap) : Option (AV × Heap) := do
 let body ← fn.body
 let (e, st) ← evalC E call k body ⟨args ++ List.replicate (fn.ntmps - args.length) .undef, H⟩
 match e with
 | .exit _ => Option.none
 | _ =>
  let rs ← fn.results.toList.mapM (resultA E st)
  return (resOf rs, st.H)
def setAll (tm : List AV) : List Nat → List AV → List AV
 | p :: ps, v :: vs => setAll (tm.set p v) ps vs
 | _, _ => tm
def jumpOf : AExit → Option Code
 | .normal => Option.none
 | .exit id => some (.exit id)
 | .ret => some .ret
def callA (E : Env) : Nat → CallT
 | 0, _, _, _ => Option.none
 | k + 1, .func f, args, H =>
  do
  let fn ← E.fn f
  if E.pure f then
   let (fargs, ns) ← fzL (fz E H fzDeep) args
   let (r, H2) ← fL fargs fun fargs => runBody E (callA E k) k fn fargs []
   let (r', _) ← fz E H2 fzDeep r
   return (r', if flat r' then H else markAll H ns, ⟨ns ++ ns, [], false⟩)
  else
   let (r, H2) ← runBody E (callA E k) k fn args H
   return (r, H2, rawAcc H H2)
 | k + 1, .yield l, args, H =>
  match H[l]? with
  | some (.loop .ready _ tm ps asg body) =>
   if args.length ≠ ps.length then Option.none else do
   let (e1, st1) ← evalC E (callA E k) k asg ⟨setAll tm ps args, H⟩
   match e1, st1.H[l]? with
   | .normal, some (.loop .ready pend tm' ps' asg' body') =>
    let (e2, st2) ← evalC E (callA E k) k body ⟨st1.tm, st1.H.set l (.loop .busy pend tm' ps' asg' body')⟩
    match st2.H[l]? with
    | some (.loop _ _ tm'' ps'' asg'' body'') =>
     let jump := jumpOf e2
     return (.bool jump.isNone, st2.H.set l (.loop (if jump.isNone then .ready else .done) jump tm'' ps'' asg'' body''), rawAcc H (st2.H.set l (.loop (if jump.isNone then .ready else .done) jump tm'' ps'' asg'' body'')))
    | _ => Option.none
   | _, _ => Option.none
  | _ => Option.none
end Go.Px
set_option linter.unusedVariables false
namespace Go.Px
open Go Go.RowKit
abbrev Sett := Nat → Nat → Prop
abbrev Mu := Nat → Option (Nat × Nat)
def Shape (w : World) (b : Nat) (e : TypeId) (n : Nat) : Prop := ∃ arr rng, w.heap[b]? = some (.cells arr e rng) ∧ arr.size = n
section rep
variable (m : Mu) (S : Sett) (w : World)
mutual
inductive Rep : Bool → Value → AV → Prop
 | undef (v : Value) : Rep false v .undef
 | bool (nf b) : Rep nf (.bool b) (.bool b)
 | int (nf k n) : Rep nf (.int k n) (.int k n)
 | str (nf) (s : ByteArray) (l : List Nat) (h : s.data.toList.map UInt8.toNat = l) : Rep nf (.string s) (.str l)
 | nilsl (nf full) : Rep nf (.slice none 0 0) (.sl 0 [] full)
 | sl (nf a n c cells full) (h1 : n ≤ c) (h2 : full = true → c = n) (h3 : Row a cells) : Rep nf (.slice (some a) n c) (.sl n cells full)
 | own (nm off n sz c b o) (h1 : m nm = some (b, o)) (h2 : n ≤ c) (h3 : ∃ e k, Shape w b e k ∧ o + off + c * sz ≤ k) : Rep false (.slice (some ⟨b, o + off, none⟩) n c) (.own nm off n sz)
 | own0 (nm off sz b o a) (h1 : m nm = some (b, o)) : Rep false (.slice a 0 0) (.own nm off 0 sz)
 | agg (nf cs xs) (h : RepL nf cs xs) (h1 : ∀ x ∈ xs, one x = true) : Rep nf (.agg cs.toArray) (.agg xs)
 | tup (nf cs xs) (h : RepL nf cs xs) : Rep nf (.tuple cs.toArray) (.tup xs)
 | clo (nf f cs xs) (h : RepL nf cs xs) : Rep nf (.func (.func f) #[] cs.toArray) (.clo f xs)
 | yield (l b) (h : m l = some (b, 0)) : Rep false (.func (.yield b) #[] #[]) (.yield l)
 | nilFunc (nf) : Rep nf .nilFunc .nilFunc
 | nilIface (nf) : Rep nf .nilIface .nilIface
 | iface (nf t v x) (h : Rep nf v x) : Rep nf (.iface t v) (.iface t x)
 | ref (nf a cells) (h : Row a cells) (h1 : cells ≠ []) : Rep nf (.pointer (some a)) (.ref cells)
 | loc (nm off b o) (h : m nm = some (b, o)) : Rep false (.pointer (some ⟨b, o + off, none⟩)) (.loc nm off)
 | nilptr (nf) : Rep nf (.pointer none) .nilptr
 | map (nm b) (h : m nm = some (b, 0)) : Rep false (.map (some b)) (.map nm)
 | nilmap (nf) : Rep nf (.map none) .nilmap
 | res (nf k n r M) (h0 : 0 ≤ n) (h1 : n.toNat % M = r) : Rep nf (.int k n) (.res k r M)
inductive RepL : Bool → List Value → List AV → Prop
 | nil (nf) : RepL nf [] []
 | cons (nf v x vs xs) (h : Rep nf v x) (t : RepL nf vs xs) : RepL nf (v :: vs) (x :: xs)
inductive Row : Addr → List AV → Prop
 | nil (a) : Row a []
 | cons (b off v x xs) (h1 : S b off) (h2 : w.cell? ⟨b, off, none⟩ = some v) (h3 : Rep true v x) (h4 : one x = true) (t : Row ⟨b, off + 1, none⟩ xs) : Row ⟨b, off, none⟩ (x :: xs)
end
end rep
def live (H : Heap) (nm : Nat) : Prop := ∃ o, H[nm]? = some o ∧ o ≠ .dead
structure RowIn (P : Program) (base : Nat) (m : Mu) (S : Sett) (w : World) (nm : Nat) (e : TypeId) (cs : List AV) (fr : Bool) (b o n : Nat) (i : TypeInfo) : Prop where
 mu : m nm = some (b, o)
 base : base ≤ b
 shape : Shape w b e n
 fits : o + cs.length ≤ n
 free : ∀ j, fr = false ∨ o + cs.length ≤ j → w.frozen? ⟨b, j, none⟩ = false
 ord : ∀ arr e' lo hi, w.heap[b]? = some (.cells arr e' (lo, hi)) → lo ≤ hi
 cells : ∀ j x, cs[j]? = some x → ∃ v, w.cell? ⟨b, o + j, none⟩ = some v ∧ Rep m S w false v x ∧ one x = true
 info : P.info? e = some i
 setl : fr = true → ∀ j, j < cs.length → S b (o + j)
 uns : fr = false → ∀ j, ¬ S b j
 top : ∀ j, S b j → j < o + cs.length
 z : o = 0
def LoopIn (P : Program) (base : Nat) (m : Mu) (S : Sett) (w : World) (nm : Nat) (st : LoopState) (pd : Option Code) (tm : List AV) (ps : List Nat) (asg bd : Code) : Prop :=
 ∃ b r, m nm = some (b, 0) ∧ base ≤ b ∧ w.heap[b]? = some (.loop r) ∧ r.state = st ∧ r.pending = pd ∧ r.params.toList = ps ∧ r.assign = asg ∧ r.body = bd ∧ RepL m S w false r.tmps.toList tm
def MapIn (P : Program) (base : Nat) (m : Mu) (S : Sett) (w : World) (nm : Nat) (es : List (AV × AV)) (bs : List Nat) (ck : Nat) : Prop :=
 ∃ b es', m nm = some (b, 0) ∧ base ≤ b ∧ w.heap[b]? = some (.map es' ck) ∧
  RepL m S w false (es'.toList.map (·.key)) (es.map (·.1)) ∧ RepL m S w false (es'.toList.map (·.val)) (es.map (·.2)) ∧ es'.toList.map (·.born) = bs
def MpOk (m : Mu) : Option Nat → Option Nat → Prop
 | none, mb => mb = none
 | some mn, mb => ∃ c, m mn = some (c, 0) ∧ mb = some c
def IterIn (base : Nat) (m : Mu) (w : World) (nm : Nat) (mp : Option Nat) (since : Nat) (seen : List Nat) (last : Nat) : Prop :=
 ∃ b mb, m nm = some (b, 0) ∧ base ≤ b ∧ w.heap[b]? = some (.mapIter mb since seen.toArray last) ∧ MpOk m mp mb
def ObjIn (P : Program) (base : Nat) (m : Mu) (S : Sett) (w : World) (nm : Nat) : AO → Prop
 | .dead => True
 | .row e cs fr => ∃ b o n i, RowIn P base m S w nm e cs fr b o n i
 | .loop st pd tm ps asg bd => LoopIn P base m S w nm st pd tm ps asg bd
 | .map _ _ es bs ck => MapIn P base m S w nm es bs ck
 | .iter mp since seen last => IterIn base m w nm mp since seen last
structure Rel (P : Program) (base : Nat) (m : Mu) (S : Sett) (H : Heap) (w : World) : Prop where
 size : base ≤ w.heap.size
 dom : ∀ nm p, m nm = some p → nm < H.length
 obj : ∀ nm o, H[nm]? = some o → ObjIn P base m S w nm o
 inj : ∀ nm nm' b o o', live H nm → live H nm' → m nm = some (b, o) → m nm' = some (b, o') → nm = nm'
 sett : ∀ b j, S b j → (w.cell? ⟨b, j, none⟩).isSome = true
structure Ext (m : Mu) (S : Sett) (H : Heap) (w : World) (m' : Mu) (S' : Sett) (w' : World) : Prop where
 mu : ∀ nm p, m nm = some p → m' nm = some p
 sub : ∀ b j, S b j → S' b j
 cell : ∀ b j, S b j → w'.cell? ⟨b, j, none⟩ = w.cell? ⟨b, j, none⟩
 shape : ∀ b e n, Shape w b e n → Shape w' b e n
 other : ∀ b, b < w.heap.size → (∀ nm o, live H nm → m nm ≠ some (b, o)) → w'.heap[b]? = w.heap[b]?
 size : w.heap.size ≤ w'.heap.size
 os : w'.os = w.os
 tape : w'.tape = w.tape
 output : w'.output = w.output
 loop : ∀ (b : Nat) (r : Loop), w.heap[b]? = some (Obj.loop r) → ∃ r', w'.heap[b]? = some (Obj.loop r')
theorem Ext.refl (m : Mu) (S : Sett) (H : Heap) (w : World) : Ext m S H w m S w :=
 ⟨fun _ _ h => h, fun _ _ h => h, fun _ _ _ => rfl, fun _ _ _ h => h, fun _ _ _ => rfl, Nat.le_refl _, rfl, rfl, rfl, fun _ r h => ⟨r, h⟩⟩
section keep
variable {m m' : Mu} {S S' : Sett} {w w' : World}
mutual
theorem Rep.keep (hm : ∀ nm p, m nm = some p → m' nm = some p) (hS : ∀ b j, S b j → S' b j) (hc : ∀ b j, S b j → w'.cell? ⟨b, j, none⟩ = w.cell? ⟨b, j, none⟩)
  (hs : ∀ b e n, Shape w b e n → Shape w' b e n) : ∀ {nf : Bool} {v : Value} {x : AV}, Rep m S w nf v x → Rep m' S' w' nf v x
 | _, _, _, .undef v => .undef v
 | _, _, _, .bool nf b => .bool nf b
 | _, _, _, .int nf k n => .int nf k n
 | _, _, _, .str nf s l h => .str nf s l h
 | _, _, _, .nilsl nf f => .nilsl nf f
 | _, _, _, .sl nf a n c cells full h1 h2 h3 => .sl nf a n c cells full h1 h2 (Row.keep hm hS hc hs h3)
 | _, _, _, .own nm off n sz c b o h1 h2 h3 => .own nm off n sz c b o (hm _ _ h1) h2 (by obtain ⟨e, k, a, c'⟩ := h3; exact ⟨e, k, hs _ _ _ a, c'⟩)
 | _, _, _, .own0 nm off sz b o a h1 => .own0 nm off sz b o a (hm _ _ h1)
 | _, _, _, .agg nf cs xs h h1 => .agg nf cs xs (RepL.keep hm hS hc hs h) h1
 | _, _, _, .tup nf cs xs h => .tup nf cs xs (RepL.keep hm hS hc hs h)
 | _, _, _, .clo nf f cs xs h => .clo nf f cs xs (RepL.keep hm hS hc hs h)
 | _, _, _, .yield l b h => .yield l b (hm _ _ h)
 | _, _, _, .nilFunc nf => .nilFunc nf
 | _, _, _, .nilIface nf => .nilIface nf
 | _, _, _, .iface nf t v x h => .iface nf t v x (Rep.keep hm hS hc hs h)
 | _, _, _, .ref nf a cells h h1 => .ref nf a cells (Row.keep hm hS hc hs h) h1
 | _, _, _, .loc nm off b o h => .loc nm off b o (hm _ _ h)
 | _, _, _, .nilptr nf => .nilptr nf
 | _, _, _, .map nm b h => .map nm b (hm _ _ h)
 | _, _, _, .nilmap nf => .nilmap nf
 | _, _, _, .res nf k n r M h0 h1 => .res nf k n r M h0 h1
theorem RepL.keep (hm : ∀ nm p, m nm = some p → m' nm = some p) (hS : ∀ b j, S b j → S' b j) (hc : ∀ b j, S b j → w'.cell? ⟨b, j, none⟩ = w.cell? ⟨b, j, none⟩)
  (hs : ∀ b e n, Shape w b e n → Shape w' b e n) : ∀ {nf : Bool} {v : List Value} {x : List AV}, RepL m S w nf v x → RepL m' S' w' nf v x
 | _, _, _, .nil nf => .nil nf
 | _, _, _, .cons nf v x vs xs h t => .cons nf v x vs xs (Rep.keep hm hS hc hs h) (RepL.keep hm hS hc hs t)
theorem Row.keep (hm : ∀ nm p, m nm = some p → m' nm = some p) (hS : ∀ b j, S b j → S' b j) (hc : ∀ b j, S b j → w'.cell? ⟨b, j, none⟩ = w.cell? ⟨b, j, none⟩)
  (hs : ∀ b e n, Shape w b e n → Shape w' b e n) : ∀ {a : Addr} {x : List AV}, Row m S w a x → Row m' S' w' a x
 | _, _, .nil a => .nil a
 | _, _, .cons b off v x xs h1 h2 h3 h4 t => .cons b off v x xs (hS _ _ h1) ((hc _ _ h1).trans h2) (Rep.keep hm hS hc hs h3) h4 (Row.keep hm hS hc hs t)
end
mutual
theorem Rep.plain (hS : ∀ b j, S b j → S' b j) (hc : ∀ b j, S b j → w'.cell? ⟨b, j, none⟩ = w.cell? ⟨b, j, none⟩) (nf' : Bool) : ∀ {v : Value} {x : AV}, Rep m S w true v x → Rep m' S' w' nf' v x
 | _, _, .bool _ b => .bool _ b
 | _, _, .int _ k n => .int _ k n
 | _, _, .str _ s l h => .str _ s l h
 | _, _, .nilsl _ f => .nilsl _ f
 | _, _, .sl _ a n c cells full h1 h2 h3 => .sl _ a n c cells full h1 h2 (Row.plain hS hc h3)
 | _, _, .agg _ cs xs h h1 => .agg _ cs xs (RepL.plain hS hc nf' h) h1
 | _, _, .tup _ cs xs h => .tup _ cs xs (RepL.plain hS hc nf' h)
 | _, _, .clo _ f cs xs h => .clo _ f cs xs (RepL.plain hS hc nf' h)
 | _, _, .nilFunc _ => .nilFunc _
 | _, _, .nilIface _ => .nilIface _
 | _, _, .iface _ t v x h => .iface _ t v x (Rep.plain hS hc nf' h)
 | _, _, .ref _ a cells h h1 => .ref _ a cells (Row.plain hS hc h) h1
 | _, _, .nilptr _ => .nilptr _
 | _, _, .nilmap _ => .nilmap _
 | _, _, .res _ k n r M h0 h1 => .res _ k n r M h0 h1
theorem RepL.plain (hS : ∀ b j, S b j → S' b j) (hc : ∀ b j, S b j → w'.cell? ⟨b, j, none⟩ = w.cell? ⟨b, j, none⟩) (nf' : Bool) : ∀ {v : List Value} {x : List AV}, RepL m S w true v x → RepL m' S' w' nf' v x
 | _, _, .nil _ => .nil _
 | _, _, .cons _ v x vs xs h t => .cons _ v x vs xs (Rep.plain hS hc nf' h) (RepL.plain hS hc nf' t)
theorem Row.plain (hS : ∀ b j, S b j → S' b j) (hc : ∀ b j, S b j → w'.cell? ⟨b, j, none⟩ = w.cell? ⟨b, j, none⟩) : ∀ {a : Addr} {x : List AV}, Row m S w a x → Row m' S' w' a x
 | _, _, .nil a => .nil a
 | _, _, .cons b off v x xs h1 h2 h3 h4 t => .cons b off v x xs (hS _ _ h1) ((hc _ _ h1).trans h2) (Rep.plain hS hc true h3) h4 (Row.plain hS hc t)
end
end keep
theorem Rep.ext {m m' : Mu} {S S' : Sett} {H : Heap} {w w' : World} (h : Ext m S H w m' S' w') {nf : Bool} {v : Value} {x : AV} (r : Rep m S w nf v x) : Rep m' S' w' nf v x :=
 Rep.keep h.mu h.sub h.cell h.shape r
theorem RepL.ext {m m' : Mu} {S S' : Sett} {H : Heap} {w w' : World} (h : Ext m S H w m' S' w') {nf : Bool} {v : List Value} {x : List AV} (r : RepL m S w nf v x) : RepL m' S' w' nf v x :=
 RepL.keep h.mu h.sub h.cell h.shape r
theorem Row.ext {m m' : Mu} {S S' : Sett} {H : Heap} {w w' : World} (h : Ext m S H w m' S' w') {a : Addr} {x : List AV} (r : Row m S w a x) : Row m' S' w' a x :=
 Row.keep h.mu h.sub h.cell h.shape r
theorem Ext.trans {m m' m'' : Mu} {S S' S'' : Sett} {H H' : Heap} {w w' w'' : World} (h : Ext m S H w m' S' w') (k : Ext m' S' H' w' m'' S'' w'')
  (hn : ∀ nm b o, live H' nm → m' nm = some (b, o) → b < w.heap.size → ∃ nm o, live H nm ∧ m nm = some (b, o)) : Ext m S H w m'' S'' w'' where
 mu nm p e := k.mu _ _ (h.mu _ _ e)
 sub b j e := k.sub _ _ (h.sub _ _ e)
 cell b j e := (k.cell _ _ (h.sub _ _ e)).trans (h.cell _ _ e)
 shape b e n s := k.shape _ _ _ (h.shape _ _ _ s)
 other b hb hno := by
  refine (k.other b (Nat.lt_of_lt_of_le hb h.size) (fun nm o hl e => ?_)).trans (h.other b hb hno)
  obtain ⟨nm1, o1, hl1, e1⟩ := hn nm b o hl e hb
  exact hno nm1 o1 hl1 e1
 size := Nat.le_trans h.size k.size
 os := k.os.trans h.os
 tape := k.tape.trans h.tape
 output := k.output.trans h.output
 loop b r e := let ⟨r1, e1⟩ := h.loop b r e; k.loop b r1 e1
section lists
variable {m : Mu} {S : Sett} {w : World}
theorem RepL.length {nf : Bool} : ∀ {vs : List Value} {xs : List AV}, RepL m S w nf vs xs → vs.length = xs.length
 | _, _, .nil _ => rfl
 | _, _, .cons _ _ _ _ _ _ t => by simp [RepL.length t]
theorem RepL.get {nf : Bool} : ∀ {vs : List Value} {xs : List AV}, RepL m S w nf vs xs → ∀ {i : Nat} {x : AV}, xs[i]? = some x → ∃ v, vs[i]? = some v ∧ Rep m S w nf v x
 | _, _, .nil _, i, x, h => by simp at h
 | _, _, .cons _ v y vs ys h t, 0, x, e => by simp at e; subst e; exact ⟨v, rfl, h⟩
 | _, _, .cons _ v y vs ys h t, i + 1, x, e => by simpa using RepL.get t (i := i) (by simpa using e)
theorem RepL.append {nf : Bool} : ∀ {vs us : List Value} {xs ys : List AV}, RepL m S w nf vs xs → RepL m S w nf us ys → RepL m S w nf (vs ++ us) (xs ++ ys)
 | _, _, _, _, .nil _, k => k
 | _, _, _, _, .cons _ v y vs ys h t, k => .cons _ _ _ _ _ h (RepL.append t k)
theorem RepL.take {nf : Bool} : ∀ {vs : List Value} {xs : List AV}, RepL m S w nf vs xs → ∀ n, RepL m S w nf (vs.take n) (xs.take n)
 | _, _, .nil _, n => by simpa using RepL.nil nf
 | _, _, .cons _ v y vs ys h t, 0 => .nil _
 | _, _, .cons _ v y vs ys h t, n + 1 => .cons _ _ _ _ _ h (RepL.take t n)
theorem RepL.drop {nf : Bool} : ∀ {vs : List Value} {xs : List AV}, RepL m S w nf vs xs → ∀ n, RepL m S w nf (vs.drop n) (xs.drop n)
 | _, _, .nil _, n => by simpa using RepL.nil nf
 | _, _, h@(.cons _ _ _ _ _ _ _), 0 => h
 | _, _, .cons _ v y vs ys h t, n + 1 => RepL.drop t n
theorem RepL.set {nf : Bool} : ∀ {vs : List Value} {xs : List AV}, RepL m S w nf vs xs → ∀ (i : Nat) {v : Value} {x : AV}, Rep m S w nf v x → RepL m S w nf (vs.set i v) (xs.set i x)
 | _, _, .nil _, _, _, _, _ => .nil _
 | _, _, .cons _ v y vs ys h t, 0, _, _, r => .cons _ _ _ _ _ r t
 | _, _, .cons _ v y vs ys h t, i + 1, _, _, r => .cons _ _ _ _ _ h (RepL.set t i r)
theorem RepL.of_get {nf : Bool} : ∀ {vs : List Value} {xs : List AV}, vs.length = xs.length → (∀ (i : Nat) (x : AV), xs[i]? = some x → ∃ v, vs[i]? = some v ∧ Rep m S w nf v x) → RepL m S w nf vs xs
 | [], [], _, _ => .nil _
 | v :: vs, x :: xs, hl, h => by
  obtain ⟨v', e, r⟩ := h 0 x rfl
  simp at e; subst e
  exact .cons _ _ _ _ _ r (RepL.of_get (by simpa using hl) (fun i y e => by simpa using h (i + 1) y (by simpa using e)))
 | [], _ :: _, hl, _ => by simp at hl
 | _ :: _, [], hl, _ => by simp at hl
theorem RepL.undefs (n : Nat) : RepL m S w false (List.replicate n Go.undef) (List.replicate n .undef) := by
 induction n with
 | zero => exact .nil _
 | succ n ih => exact .cons _ _ _ _ _ (.undef _) ih
theorem RepL.getD {vs : List Value} {xs : List AV} (h : RepL m S w false vs xs) (i : Nat) : Rep m S w false (vs.getD i Go.undef) (xs.getD i .undef) := by
 simp only [List.getD_eq_getElem?_getD]
 cases hx : xs[i]? with
 | none => exact .undef _
 | some x =>
  obtain ⟨v, e, r⟩ := h.get hx
  rw [e]; exact r
theorem Rep.weak {nf : Bool} {v : Value} {x : AV} (h : Rep m S w nf v x) : Rep m S w false v x := by
 cases nf
 ·exact h
 ·exact Rep.plain (fun _ _ h => h) (fun _ _ _ => rfl) false h
theorem RepL.mask (live : List Nat) : ∀ (i : Nat) {vs : List Value} {xs : List AV}, RepL m S w false vs xs → RepL m S w false vs (maskT live i xs)
 | _, _, _, .nil _ => .nil _
 | i, _, _, .cons _ v x vs xs h t => by
  unfold maskT
  refine .cons _ _ _ _ _ ?_ (RepL.mask live (i + 1) t)
  split
  ·exact h
  ·exact .undef v
theorem RepL.weak {nf : Bool} {v : List Value} {x : List AV} (h : RepL m S w nf v x) : RepL m S w false v x := by
 cases nf
 ·exact h
 ·exact RepL.plain (fun _ _ h => h) (fun _ _ _ => rfl) false h
theorem Row.get : ∀ {a : Addr} {xs : List AV}, Row m S w a xs → ∀ {i : Nat} {x : AV}, xs[i]? = some x → S a.block (a.off + i) ∧ a.spot = none ∧ ∃ v, w.cell? ⟨a.block, a.off + i, none⟩ = some v ∧ Rep m S w true v x ∧ one x = true
 | _, _, .nil _, i, x, h => by simp at h
 | _, _, .cons b off v y ys h1 h2 h3 h4 t, 0, x, e => by simp at e; subst e; exact ⟨h1, rfl, v, h2, h3, h4⟩
 | _, _, .cons b off v y ys h1 h2 h3 h4 t, i + 1, x, e => by
  obtain ⟨g1, _, v', g2, g3, g4⟩ := Row.get t (i := i) (by simpa using e)
  have e1 : off + 1 + i = off + (i + 1) := by omega
  exact ⟨e1 ▸ g1, rfl, v', e1 ▸ g2, g3, g4⟩
theorem Row.of_get : ∀ {xs : List AV} {b off : Nat}, (∀ (i : Nat) (x : AV), xs[i]? = some x → S b (off + i) ∧ ∃ v, w.cell? ⟨b, off + i, none⟩ = some v ∧ Rep m S w true v x ∧ one x = true) → Row m S w ⟨b, off, none⟩ xs
 | [], _, _, _ => .nil _
 | x :: xs, b, off, h => by
  obtain ⟨h1, v, h2, h3, h4⟩ := h 0 x rfl
  refine .cons b off v x xs h1 h2 h3 h4 (Row.of_get fun i y e => ?_)
  have e1 : off + (i + 1) = off + 1 + i := by omega
  have := h (i + 1) y (by simpa using e)
  rwa [e1] at this
theorem Row.addr {a : Addr} {xs : List AV} (h : Row m S w a xs) (hne : xs ≠ []) : a = ⟨a.block, a.off, none⟩ := by
 cases h with
 | nil => exact absurd rfl hne
 | cons => rfl
theorem Row.drop {a : Addr} {xs : List AV} (h : Row m S w a xs) (n : Nat) : Row m S w (a.add n) (xs.drop n) := by
 rcases Nat.eq_zero_or_pos n with rfl | hn
 ·simpa [Addr.add] using h
 ·rcases Nat.lt_or_ge n xs.length with hlt | hge
  ·have e : a.add n = ⟨a.block, a.off + n, none⟩ := by simp [Addr.add, show n ≠ 0 by omega]
   rw [e]
   refine Row.of_get fun i x hx => ?_
   rw [List.getElem?_drop] at hx
   obtain ⟨g1, _, g2⟩ := h.get hx
   have e1 : a.off + (n + i) = a.off + n + i := by omega
   rw [e1] at g1 g2
   exact ⟨g1, g2⟩
  ·rw [List.drop_of_length_le hge]; exact .nil _
theorem Row.take {a : Addr} {xs : List AV} (h : Row m S w a xs) (n : Nat) : Row m S w a (xs.take n) := by
 by_cases hne : xs = []
 ·subst hne; simpa using h
 ·rw [h.addr hne]
  refine Row.of_get fun i x hx => ?_
  rw [List.getElem?_take] at hx
  split at hx
  ·obtain ⟨g1, _, g2⟩ := h.get hx
   exact ⟨g1, g2⟩
  ·cases hx
end lists
theorem ObjIn.keep {P : Program} {base : Nat} {m m' : Mu} {S S' : Sett} {w w' : World} {nm : Nat} {o : AO} (h : ObjIn P base m S w nm o)
  (hm : ∀ nm p, m nm = some p → m' nm = some p) (hS : ∀ b j, S b j → S' b j) (hc : ∀ b j, S b j → w'.cell? ⟨b, j, none⟩ = w.cell? ⟨b, j, none⟩)
  (hs : ∀ b e n, Shape w b e n → Shape w' b e n)
  (hb : ∀ b q, m nm = some (b, q) → w'.heap[b]? = w.heap[b]? ∧ ∀ j, S' b j → S b j) : ObjIn P base m' S' w' nm o := by
 cases o with
 | dead => trivial
 | row e cs fr =>
  obtain ⟨b, q, n, i, r⟩ := h
  obtain ⟨hh, hns⟩ := hb _ _ r.mu
  have hcell : ∀ j, w'.cell? ⟨b, j, none⟩ = w.cell? ⟨b, j, none⟩ := fun j => by simp [World.cell?, hh]
  exact ⟨b, q, n, i, hm _ _ r.mu, r.base, hs _ _ _ r.shape, r.fits, fun j hq => by have := r.free j hq; simpa [World.frozen?, hh] using this, fun arr e' lo hi h => r.ord arr e' lo hi (by rw [← hh]; exact h),
   fun j x hx => by obtain ⟨v, h1, h2, h3⟩ := r.cells j x hx; exact ⟨v, (hcell _).trans h1, Rep.keep hm hS hc hs h2, h3⟩,
   r.info, fun hf j hj => hS _ _ (r.setl hf j hj), fun hf j hj => r.uns hf j (hns j hj), fun j hj => r.top j (hns j hj), r.z⟩
 | loop st pd tm ps asg bd =>
  obtain ⟨b, r, h1, h2, h3, h4, h5, h6, h7, h8, h9⟩ := h
  exact ⟨b, r, hm _ _ h1, h2, (hb _ _ h1).1.trans h3, h4, h5, h6, h7, h8, RepL.keep hm hS hc hs h9⟩
 | map kt vt es bs ck =>
  obtain ⟨b, es', h1, h2, h3, h4, h5, h6⟩ := h
  exact ⟨b, es', hm _ _ h1, h2, (hb _ _ h1).1.trans h3, RepL.keep hm hS hc hs h4, RepL.keep hm hS hc hs h5, h6⟩
 | iter mp since seen last =>
  obtain ⟨b, mb, h1, h2, h3, h4⟩ := h
  refine ⟨b, mb, hm _ _ h1, h2, (hb _ _ h1).1.trans h3, ?_⟩
  cases mp with
  | none => exact h4
  | some mn => obtain ⟨c, h5, h6⟩ := h4; exact ⟨c, hm _ _ h5, h6⟩
theorem ObjIn.mu {P : Program} {base : Nat} {m : Mu} {S : Sett} {w : World} {nm : Nat} {o : AO} (h : ObjIn P base m S w nm o) (hne : o ≠ .dead) : ∃ b q, m nm = some (b, q) ∧ base ≤ b ∧ b < w.heap.size := by
 cases o with
 | dead => exact absurd rfl hne
 | row e cs fr =>
  obtain ⟨b, q, n, i, r⟩ := h
  obtain ⟨arr, rng, hh, _⟩ := r.shape
  exact ⟨b, q, r.mu, r.base, (Array.getElem?_eq_some_iff.1 hh).1⟩
 | loop st pd tm ps asg bd =>
  obtain ⟨b, r, h1, h2, h3, _⟩ := h
  exact ⟨b, 0, h1, h2, (Array.getElem?_eq_some_iff.1 h3).1⟩
 | map kt vt es bs ck =>
  obtain ⟨b, es', h1, h2, h3, _⟩ := h
  exact ⟨b, 0, h1, h2, (Array.getElem?_eq_some_iff.1 h3).1⟩
 | iter mp since seen last =>
  obtain ⟨b, mb, h1, h2, h3, _⟩ := h
  exact ⟨b, 0, h1, h2, (Array.getElem?_eq_some_iff.1 h3).1⟩
structure Step (P : Program) (base : Nat) (m : Mu) (S : Sett) (H : Heap) (w : World) (m' : Mu) (S' : Sett) (H' : Heap) (w' : World) : Prop where
 rel : Rel P base m' S' H' w'
 ext : Ext m S H w m' S' w'
 back : ∀ nm b o, live H' nm → m' nm = some (b, o) → b < w.heap.size → ∃ nm0 o0, live H nm0 ∧ m nm0 = some (b, o0)
 len : H.length ≤ H'.length
 grow : ∀ b j, S' b j → S b j ∨ base ≤ b
theorem Step.refl {P : Program} {base : Nat} {m : Mu} {S : Sett} {H : Heap} {w : World} (h : Rel P base m S H w) : Step P base m S H w m S H w :=
 ⟨h, Ext.refl _ _ _ _, fun nm b o hl e _ => ⟨nm, o, hl, e⟩, Nat.le_refl _, fun _ _ h => .inl h⟩
theorem Step.trans {P : Program} {base : Nat} {m m' m'' : Mu} {S S' S'' : Sett} {H H' H'' : Heap} {w w' w'' : World} (h : Step P base m S H w m' S' H' w') (k : Step P base m' S' H' w' m'' S'' H'' w'') :
  Step P base m S H w m'' S'' H'' w'' where
 rel := k.rel
 ext := h.ext.trans k.ext (fun nm b o hl e hb => h.back nm b o hl e hb)
 back nm b o hl e hb := by
  obtain ⟨nm0, o0, hl0, e0⟩ := k.back nm b o hl e (Nat.lt_of_lt_of_le hb h.ext.size)
  exact h.back nm0 b o0 hl0 e0 hb
 len := Nat.le_trans h.len k.len
 grow b j e := (k.grow b j e).elim (h.grow b j) .inr
structure Lay (H : Heap) (nm : Nat) (o : AO) (H' : Heap) : Prop where
 new : H'[nm]? = some o
 old : ∀ k, k ≠ nm → H'[k]? = H[k]?
 was : ¬ live H nm
 len : H.length ≤ H'.length
 lt : nm < H'.length
theorem Lay.append (H : Heap) (o : AO) : Lay H H.length o (H ++ [o]) where
 new := by simp
 old k hk := by
  rcases Nat.lt_or_ge k H.length with h | h
  ·rw [List.getElem?_append_left h]
  ·rw [List.getElem?_append_right h, List.getElem?_eq_none (by simp; omega), List.getElem?_eq_none (by omega)]
 was := fun ⟨o, h, _⟩ => by simp at h
 len := by simp
 lt := by simp
theorem Lay.set {H : Heap} {nm : Nat} (h : H[nm]? = some .dead) (o : AO) : Lay H nm o (H.set nm o) := by
 have hlt : nm < H.length := (List.getElem?_eq_some_iff.1 h).1
 exact ⟨by simp [hlt], fun k hk => by rw [List.getElem?_set_ne (Ne.symm hk)], fun ⟨o', e, hne⟩ => by rw [h] at e; cases e; exact hne rfl, by simp, by simpa using hlt⟩
structure Born (w w' : World) : Prop where
 size : w'.heap.size = w.heap.size + 1
 old : ∀ b, b < w.heap.size → w'.heap[b]? = w.heap[b]?
 os : w'.os = w.os
 tape : w'.tape = w.tape
 output : w'.output = w.output
 froz : ∀ a : Addr, w'.frozen? a = w.frozen? a
theorem Born.cell {w w' : World} (h : Born w w') {b : Nat} (hb : b < w.heap.size) (j : Nat) : w'.cell? ⟨b, j, none⟩ = w.cell? ⟨b, j, none⟩ := by simp [World.cell?, h.old b hb]
theorem Born.shape {w w' : World} (h : Born w w') {b : Nat} {e : TypeId} {n : Nat} (hs : Shape w b e n) : Shape w' b e n := by
 obtain ⟨arr, rng, hh, hn⟩ := hs
 exact ⟨arr, rng, (h.old b (Array.getElem?_eq_some_iff.1 hh).1).trans hh, hn⟩
theorem cell_lt {w : World} {b j : Nat} (h : (w.cell? ⟨b, j, none⟩).isSome = true) : b < w.heap.size := by
 obtain ⟨v, hv⟩ := Option.isSome_iff_exists.1 h
 exact World.block_lt_of_cell? w _ hv
def muPut (m : Mu) (nm b o : Nat) : Mu := fun k => if k = nm then some (b, o) else m k
theorem Rel.born {P : Program} {base : Nat} {m : Mu} {S S' : Sett} {H H' : Heap} {w w' : World} {nm : Nat} {o : AO} (h : Rel P base m S H w) (hl : Lay H nm o H') (hm : m nm = none) (hb : Born w w')
  (hne : o ≠ .dead) (hS1 : ∀ b j, S b j → S' b j) (hS2 : ∀ b j, S' b j → b < w.heap.size → S b j) (hS3 : ∀ j, S' w.heap.size j → (w'.cell? ⟨w.heap.size, j, none⟩).isSome = true) (hS4 : ∀ b j, S' b j → b ≤ w.heap.size)
  (ho : ObjIn P base (muPut m nm w.heap.size 0) S' w' nm o) : Step P base m S H w (muPut m nm w.heap.size 0) S' H' w' := by
 have hmu : ∀ k p, m k = some p → muPut m nm w.heap.size 0 k = some p := fun k p e => by
  unfold muPut; split
  ·rename_i hk; subst hk; rw [hm] at e; cases e
  ·exact e
 have hcell : ∀ b j, S b j → w'.cell? ⟨b, j, none⟩ = w.cell? ⟨b, j, none⟩ := fun b j hs => hb.cell (cell_lt (h.sett b j hs)) j
 have hshape : ∀ b e n, Shape w b e n → Shape w' b e n := fun _ _ _ hs => hb.shape hs
 have hlive : ∀ k, k ≠ nm → live H' k → live H k := fun k hk ⟨o, e, hne⟩ => ⟨o, (hl.old k hk) ▸ e, hne⟩
 have hlt : ∀ k, live H k → ∀ b q, m k = some (b, q) → b < w.heap.size := fun k ⟨o, e, hne⟩ b q e2 => by
  obtain ⟨b', q', e3, _, h4⟩ := (h.obj k o e).mu hne
  rw [e2] at e3; cases e3; exact h4
 refine ⟨⟨by have := h.size; have := hb.size; omega, ?_, ?_, ?_, ?_⟩, ⟨hmu, hS1, hcell, hshape, fun b hb' _ => hb.old b hb', by have := hb.size; omega, hb.os, hb.tape, hb.output, fun b r e => ⟨r, (hb.old b (Array.getElem?_eq_some_iff.1 e).1).trans e⟩⟩, ?_, hl.len, fun b j e => (Nat.lt_or_ge b w.heap.size).imp (hS2 b j e) (Nat.le_trans h.size)⟩
 ·intro k p e
  unfold muPut at e; split at e
  ·rename_i hk; subst hk; exact hl.lt
  ·exact Nat.lt_of_lt_of_le (h.dom k p e) hl.len
 ·intro k o' e
  by_cases hk : k = nm
  ·subst hk; rw [hl.new] at e; cases e; exact ho
  ·rw [hl.old k hk] at e
   by_cases hd : o' = .dead
   ·subst hd; trivial
   ·refine (h.obj k o' e).keep hmu hS1 hcell hshape fun b q e2 => ⟨hb.old b (hlt k ⟨o', e, hd⟩ b q e2), fun j hj => hS2 b j hj (hlt k ⟨o', e, hd⟩ b q e2)⟩
 ·intro k k' b q q' hk hk' e e'
  by_cases h1 : k = nm <;> by_cases h2 : k' = nm
  ·rw [h1, h2]
  ·subst h1
   simp only [muPut, if_true, if_neg h2] at e e'
   cases e
   exact absurd (hlt k' (hlive k' h2 hk') _ _ e') (Nat.lt_irrefl _)
  ·subst h2
   simp only [muPut, if_true, if_neg h1] at e e'
   cases e'
   exact absurd (hlt k (hlive k h1 hk) _ _ e) (Nat.lt_irrefl _)
  ·simp only [muPut, if_neg h1, if_neg h2] at e e'
   exact h.inj k k' b q q' (hlive k h1 hk) (hlive k' h2 hk') e e'
 ·intro b j hs
  rcases Nat.lt_or_ge b w.heap.size with hlt' | hge
  ·have hs' := hS2 b j hs hlt'
   rw [hcell b j hs']; exact h.sett b j hs'
  ·have : b = w.heap.size := Nat.le_antisymm (hS4 b j hs) hge
   subst this; exact hS3 j hs
 ·intro k b q hk e hlt'
  by_cases h1 : k = nm
  ·subst h1; simp only [muPut, if_true] at e; cases e; omega
  ·simp only [muPut, if_neg h1] at e
   exact ⟨k, q, hlive k h1 hk, e⟩
theorem Rel.touch {P : Program} {base : Nat} {m : Mu} {S : Sett} {H H' : Heap} {w w' : World} {nm b q : Nat} (h : Rel P base m S H w) (hlv : live H nm) (hmu : m nm = some (b, q))
  (hH : ∀ k, k ≠ nm → H'[k]? = H[k]?) (hlen : H'.length = H.length) (hlv' : ∀ o, H'[nm]? = some o → ObjIn P base m S w' nm o)
  (hw : ∀ b', b' ≠ b → w'.heap[b']? = w.heap[b']?) (hsz : w'.heap.size = w.heap.size) (hshape : ∀ b e n, Shape w b e n → Shape w' b e n)
  (hcell : ∀ b j, S b j → w'.cell? ⟨b, j, none⟩ = w.cell? ⟨b, j, none⟩) (hos : w'.os = w.os) (ht : w'.tape = w.tape) (hout : w'.output = w.output) (hlp : ∀ (b : Nat) (r : Loop), w.heap[b]? = some (Obj.loop r) → ∃ r', w'.heap[b]? = some (Obj.loop r')) (hfz : ∀ a : Addr, w'.frozen? a = w.frozen? a) : Step P base m S H w m S H' w' := by
 have hlive : ∀ k, live H' k → live H k := fun k ⟨o, e, hne⟩ => by
  by_cases hk : k = nm
  ·subst hk; exact hlv
  ·exact ⟨o, (hH k hk) ▸ e, hne⟩
 refine ⟨⟨by have := h.size; omega, fun k p e => by rw [hlen]; exact h.dom k p e, ?_, fun k k' b q q' hk hk' => h.inj k k' b q q' (hlive k hk) (hlive k' hk'), fun b j hs => by rw [hcell b j hs]; exact h.sett b j hs⟩,
  ⟨fun _ _ e => e, fun _ _ e => e, hcell, hshape, fun b' _ hno => hw b' (fun e => hno nm q hlv (e ▸ hmu)), by omega, hos, ht, hout, hlp⟩, fun k b q hk e _ => ⟨k, q, hlive k hk, e⟩, by omega, fun _ _ h => .inl h⟩
 intro k o e
 by_cases hk : k = nm
 ·subst hk; exact hlv' o e
 ·rw [hH k hk] at e
  by_cases hd : o = .dead
  ·subst hd; trivial
  ·refine (h.obj k o e).keep (fun _ _ e => e) (fun _ _ e => e) hcell hshape fun b' q' e2 => ⟨hw b' (fun eb => hk (h.inj k nm b q' q ⟨o, e, hd⟩ hlv (eb ▸ e2) hmu)), fun _ e => e⟩
theorem Rel.kill {P : Program} {base : Nat} {m : Mu} {S : Sett} {H : Heap} {w : World} (h : Rel P base m S H w) (nm : Nat) : Step P base m S H w m S (H.set nm .dead) w := by
 have hlive : ∀ k, live (H.set nm .dead) k → live H k := fun k ⟨o, e, hne⟩ => by
  by_cases hk : k = nm
  ·subst hk
   rw [List.getElem?_set_self' ] at e
   cases h2 : H[k]? with
   | none => simp [h2] at e
   | some y => simp [h2] at e; exact absurd e.symm hne
  ·rw [List.getElem?_set_ne (Ne.symm hk)] at e; exact ⟨o, e, hne⟩
 refine ⟨⟨h.size, fun k p e => by simpa using h.dom k p e, ?_, fun k k' b q q' hk hk' => h.inj k k' b q q' (hlive k hk) (hlive k' hk'), h.sett⟩, Ext.refl _ _ _ _, fun k b q hk e _ => ⟨k, q, hlive k hk, e⟩, by simp, fun _ _ h => .inl h⟩
 intro k o e
 by_cases hd : o = .dead
 ·subst hd; trivial
 ·obtain ⟨o', e', hne'⟩ := hlive k ⟨o, e, hd⟩
  by_cases hk : k = nm
  ·subst hk
   rw [List.getElem?_set_self', e'] at e
   simp at e; exact absurd e.symm hd
  ·rw [List.getElem?_set_ne (Ne.symm hk)] at e
   exact h.obj k o e
theorem Rel.heir {P : Program} {base : Nat} {m : Mu} {S S' : Sett} {H H' : Heap} {w w' : World} {nm nm' b q q' : Nat} {o : AO} (h : Rel P base m S H w) (hlv : live H nm) (hmu : m nm = some (b, q))
  (hl : Lay (H.set nm .dead) nm' o H') (hm : m nm' = none) (hne : o ≠ .dead)
  (hS1 : ∀ b j, S b j → S' b j) (hS2 : ∀ b' j, S' b' j → b' ≠ b → S b' j) (hS3 : ∀ j, S' b j → (w'.cell? ⟨b, j, none⟩).isSome = true)
  (ho : ObjIn P base (muPut m nm' b q') S' w' nm' o)
  (hw : ∀ b', b' ≠ b → w'.heap[b']? = w.heap[b']?) (hsz : w'.heap.size = w.heap.size) (hshape : ∀ b e n, Shape w b e n → Shape w' b e n)
  (hcell : ∀ b j, S b j → w'.cell? ⟨b, j, none⟩ = w.cell? ⟨b, j, none⟩) (hos : w'.os = w.os) (ht : w'.tape = w.tape) (hout : w'.output = w.output) (hlp : ∀ (b : Nat) (r : Loop), w.heap[b]? = some (Obj.loop r) → ∃ r', w'.heap[b]? = some (Obj.loop r')) (hfz : ∀ a : Addr, w'.frozen? a = w.frozen? a) : Step P base m S H w (muPut m nm' b q') S' H' w' := by
 have hk0 := h.kill nm
 have hnn : nm' ≠ nm := fun e => by rw [e, hmu] at hm; cases hm
 have hmu' : ∀ k p, m k = some p → muPut m nm' b q' k = some p := fun k p e => by
  unfold muPut; split
  ·rename_i hk; subst hk; rw [hm] at e; cases e
  ·exact e
 have hlive : ∀ k, k ≠ nm' → live H' k → live (H.set nm .dead) k := fun k hk ⟨o, e, hne⟩ => ⟨o, (hl.old k hk) ▸ e, hne⟩
 have hliveH : ∀ k, live (H.set nm .dead) k → live H k ∧ k ≠ nm := fun k ⟨o, e, hne⟩ => by
  by_cases hk : k = nm
  ·subst hk
   rw [List.getElem?_set_self'] at e
   cases h2 : H[k]? with
   | none => simp [h2] at e
   | some y => simp [h2] at e; exact absurd e.symm hne
  ·rw [List.getElem?_set_ne (Ne.symm hk)] at e; exact ⟨⟨o, e, hne⟩, hk⟩
 have hapart : ∀ k, live (H.set nm .dead) k → ∀ b' q1, m k = some (b', q1) → b' ≠ b := fun k hk b' q1 e eb => by
  obtain ⟨h1, h2⟩ := hliveH k hk
  subst eb
  exact h2 (h.inj k nm _ q1 q h1 hlv e hmu)
 refine ⟨⟨by have := h.size; omega, ?_, ?_, ?_, ?_⟩, ⟨hmu', hS1, hcell, hshape, fun b' _ hno => hw b' (fun e => hno nm q hlv (e ▸ hmu)), by omega, hos, ht, hout, hlp⟩, ?_, by have := hl.len; simpa using this, fun b' j e => (Decidable.em (b' = b)).elim (fun q => .inr (by subst q; obtain ⟨o0, e0, ne0⟩ := hlv; obtain ⟨b1, q1, m1, l1, _⟩ := (h.obj nm o0 e0).mu ne0; rw [hmu] at m1; cases m1; exact l1)) (fun q => .inl (hS2 b' j e q))⟩
 ·intro k p e
  unfold muPut at e; split at e
  ·rename_i hk; subst hk; exact hl.lt
  ·exact Nat.lt_of_lt_of_le (hk0.rel.dom k p e) hl.len
 ·intro k o' e
  by_cases hk : k = nm'
  ·subst hk; rw [hl.new] at e; cases e; exact ho
  ·rw [hl.old k hk] at e
   by_cases hd : o' = .dead
   ·subst hd; trivial
   ·have hkl : live (H.set nm .dead) k := ⟨o', e, hd⟩
    refine (hk0.rel.obj k o' e).keep hmu' hS1 hcell hshape fun b' q1 e2 => ⟨hw b' (hapart k hkl b' q1 e2), fun j hj => hS2 b' j hj (hapart k hkl b' q1 e2)⟩
 ·intro k k' b1 q1 q2 hk hk' e e'
  by_cases h1 : k = nm' <;> by_cases h2 : k' = nm'
  ·rw [h1, h2]
  ·subst h1
   simp only [muPut, if_true, if_neg h2] at e e'
   cases e
   exact absurd rfl (hapart k' (hlive k' h2 hk') _ _ e')
  ·subst h2
   simp only [muPut, if_true, if_neg h1] at e e'
   cases e'
   exact absurd rfl (hapart k (hlive k h1 hk) _ _ e)
  ·simp only [muPut, if_neg h1, if_neg h2] at e e'
   exact h.inj k k' b1 q1 q2 (hliveH k (hlive k h1 hk)).1 (hliveH k' (hlive k' h2 hk')).1 e e'
 ·intro b' j hs
  by_cases hb' : b' = b
  ·subst hb'; exact hS3 j hs
  ·have := hS2 b' j hs hb'
   rw [hcell b' j this]; exact h.sett b' j this
 ·intro k b1 q1 hk e hlt'
  by_cases h1 : k = nm'
  ·subst h1; simp only [muPut, if_true] at e; cases e; exact ⟨nm, q, hlv, hmu⟩
  ·simp only [muPut, if_neg h1] at e
   exact ⟨k, q1, (hliveH k (hlive k h1 hk)).1, e⟩
end Go.Px
set_option linter.unusedVariables false
namespace Go.Px
open Go Go.RowKit
def descA : TypeDesc → TD
 | .bool => .bool
 | .int k => .int k
 | .string => .str
 | .pointer e => .ptr e
 | .slice e => .slice e
 | .array n e => .array n e
 | .map k v => .map k v
 | .struct fs => .struct (fs.toList.map fun f => (f.offset, f.type))
 | .func _ _ _ => .func
 | .interface _ => .iface
 | _ => .other
def TyOk (P : Program) (t : TypeId) (i : TyI) : Prop :=
 ∃ d info z, P.underlying t = some d ∧ P.info? t = some info ∧ i.desc = descA d ∧ info.size = i.size ∧ info.bytes = i.bytes ∧ info.zero = some z ∧
  z.cells.toList.map ofVal = i.zero ∧ (∀ x ∈ i.zero, one x = true) ∧ i.zero.length = i.size ∧ (i.desc.isAgg = true → ∃ cs, z = .agg cs) ∧ (i.desc.isAgg = false → i.size = 1 ∧ z.cells = #[z]) ∧
  (∀ fs, d = .struct fs → (∀ f ∈ fs.toList, (P.info? f.type).isSome = true ∧ f.name ≠ "_") ∧ P.stoodInHeld t = false) ∧ (∀ k, d = .int k → info.comparable = true)
structure EnvOk (P : Program) (E : Env) : Prop where
 ty : ∀ t i, E.ty t = some i → TyOk P t i
 fn : ∀ f g, E.fn f = some g → P.funcs[f]? = some g ∧ (g.name == "runtime.NumGoroutine") = false
theorem isAgg_descA (d : TypeDesc) : (descA d).isAgg = d.isRow := by cases d <;> rfl
section ops
variable {P : Program} {E : Env} {base : Nat} {m : Mu} {S : Sett} {H : Heap} {w : World}
theorem Row.vals : ∀ {a : Addr} {xs : List AV}, Row m S w a xs → ∃ vs, RepL m S w true vs xs ∧ (∀ x ∈ xs, one x = true) ∧ w.rangeAt a.block a.off vs
 | _, _, .nil a => ⟨[], .nil _, (fun _ h => by cases h), (fun j v h => by simp at h)⟩
 | _, _, .cons b off v x xs h1 h2 h3 h4 t => by
  obtain ⟨vs, g1, g2, g3⟩ := Row.vals t
  refine ⟨v :: vs, .cons _ _ _ _ _ h3 g1, fun y hy => ?_, fun j u hj => ?_⟩
  ·rcases List.mem_cons.1 hy with rfl | hy
   ·exact h4
   ·exact g2 y hy
  ·cases j with
   | zero => simp at hj; subst hj; simpa using h2
   | succ j =>
    have := g3 j u (by simpa using hj)
    have e1 : off + 1 + j = off + (j + 1) := by omega
    simpa [e1] using this
theorem RowIn.vals {nm : Nat} {e : TypeId} {cs : List AV} {fr : Bool} {b o n : Nat} {i : TypeInfo} (h : RowIn P base m S w nm e cs fr b o n i) (off k : Nat) :
  ∃ vs, RepL m S w false vs ((cs.drop off).take k) ∧ (∀ x ∈ (cs.drop off).take k, one x = true) ∧ w.rangeAt b (o + off) vs := by
 have key : ∀ (l : List AV) (q : Nat), (∀ j x, l[j]? = some x → ∃ v, w.cell? ⟨b, q + j, none⟩ = some v ∧ Rep m S w false v x ∧ one x = true) →
   ∃ vs, RepL m S w false vs l ∧ (∀ x ∈ l, one x = true) ∧ w.rangeAt b q vs := by
  intro l
  induction l with
  | nil => exact fun q _ => ⟨[], .nil _, (fun _ h => by cases h), (fun j v h => by simp at h)⟩
  | cons x l ih =>
   intro q hq
   obtain ⟨v, g1, g2, g3⟩ := hq 0 x rfl
   obtain ⟨vs, k1, k2, k3⟩ := ih (q + 1) (fun j y hy => by
    have := hq (j + 1) y (by simpa using hy)
    have e1 : q + (j + 1) = q + 1 + j := by omega
    rwa [e1] at this)
   refine ⟨v :: vs, .cons _ _ _ _ _ g2 k1, fun y hy => ?_, fun j u hj => ?_⟩
   ·rcases List.mem_cons.1 hy with rfl | hy
    ·exact g3
    ·exact k2 y hy
   ·cases j with
    | zero => simp at hj; subst hj; simpa using g1
    | succ j =>
     have := k3 j u (by simpa using hj)
     have e1 : q + 1 + j = q + (j + 1) := by omega
     simpa [e1] using this
 refine key _ _ fun j x hx => ?_
 rw [List.getElem?_take] at hx
 split at hx
 ·rw [List.getElem?_drop] at hx
  have := h.cells (off + j) x hx
  have e1 : o + (off + j) = o + off + j := by omega
  rwa [e1] at this
 ·cases hx
theorem run_isAgg_false {t : TypeId} {d : TypeDesc} (hu : P.underlying t = some d) (hd : d.isRow = false) (w : World) : (isAgg t).run P w = .ok false w := by
 unfold isAgg
 rw [Sem.run_bind, run_underlying hu w]
 cases d <;> simp_all
theorem mkV_some {agg : Bool} {cs : List AV} {x : AV} (h : mkV agg cs = some x) : (agg = true ∧ x = .agg cs) ∨ (agg = false ∧ cs = [x]) := by
 unfold mkV at h
 cases agg with
 | true => simp at h; exact .inl ⟨rfl, h.symm⟩
 | false =>
  simp at h
  match cs, h with
  | [v], h => simp at h; subst h; exact .inr ⟨rfl, rfl⟩
theorem run_load_range {t : TypeId} {i : TyI} (ht : TyOk P t i) {b o : Nat} {vs : List Value} {xs : List AV} {x : AV} (hr : w.rangeAt b o vs) (hx : RepL m S w false vs xs) (h1 : ∀ y ∈ xs, one y = true)
  (hl : xs.length = i.size) (hk : mkV i.desc.isAgg xs = some x) : ∃ v', (Instr.loadAt t (.pointer (some ⟨b, o, none⟩))).run P w = .ok v' w ∧ Rep m S w false v' x := by
 obtain ⟨d, info, z, hu, hi, hd, hs, _⟩ := ht
 have hd' : i.desc.isAgg = d.isRow := by rw [hd, isAgg_descA]
 rcases mkV_some hk with ⟨ha, rfl⟩ | ⟨ha, rfl⟩
 ·refine ⟨_, run_loadAt_mid w b o t vs d hr hu (hd' ▸ ha) ?_, .agg _ _ _ hx h1⟩
  simp [hi, hs, ← hl, hx.length]
 ·cases hx with
  | cons _ v _ vs' _ h t' =>
   cases t'
   refine ⟨v, ?_, h⟩
   have hc := hr 0 v rfl
   simp only [Nat.add_zero] at hc
   simp [Instr.loadAt, Instr.sureAddr, loadVar, Sem.run_bind, run_isAgg_false hu (hd' ▸ ha) w, load, Sem.run, hc]
theorem load_ok (hE : EnvOk P E) (hR : Rel P base m S H w) {t : TypeId} {p' : Value} {p x : AV} {acc : Acc} (hp : Rep m S w false p' p) (h : loadA E H t p = some (x, acc)) :
  ∃ v', (Instr.loadAt t p').run P w = .ok v' w ∧ Rep m S w false v' x := by
 unfold loadA at h
 cases hi : E.ty t with
 | none => simp [hi] at h
 | some i =>
  simp only [hi, Option.bind_eq_bind, Option.bind_some] at h
  cases hp with
  | ref _ a cs hrow hne =>
   simp only at h
   split at h
   ·rename_i hle
    cases hk : mkV i.desc.isAgg (cs.take i.size) with
    | none => simp [hk] at h
    | some y =>
     simp [hk] at h
     obtain ⟨rfl, _⟩ := h
     obtain ⟨vs, g1, g2, g3⟩ := (hrow.take i.size).vals
     have ha := hrow.addr hne
     rw [ha]
     exact run_load_range (hE.ty t i hi) g3 g1.weak g2 (by simp [hle]) hk
   ·cases h
  | loc nm off b o hm =>
   simp only at h
   split at h
   ·rename_i e cs fr hrow
    split at h
    ·rename_i hle
     cases hk : mkV i.desc.isAgg ((cs.drop off).take i.size) with
     | none => simp [hk] at h
     | some y =>
      simp [hk] at h
      obtain ⟨rfl, _⟩ := h
      obtain ⟨b', o', n, info, r⟩ := hR.obj nm _ hrow
      have hmu := r.mu
      rw [hm] at hmu; cases hmu
      obtain ⟨vs, g1, g2, g3⟩ := r.vals off i.size
      exact run_load_range (hE.ty t i hi) g3 g1 g2 (by simp; omega) hk
    ·cases h
   ·cases h
  | _ => simp at h
theorem desc_struct {d : TypeDesc} {fs : List (Nat × Nat)} (h : descA d = .struct fs) : ∃ fields, d = .struct fields ∧ fs = fields.toList.map fun f => (f.offset, f.type) := by
 cases d <;> simp [descA] at h
 exact ⟨_, rfl, h.symm⟩
theorem desc_slice {d : TypeDesc} {e : Nat} (h : descA d = .slice e) : d = .slice e := by
 cases d <;> simp [descA] at h
 rw [h]
theorem desc_array {d : TypeDesc} {n e : Nat} (h : descA d = .array n e) : d = .array n e := by
 cases d <;> simp [descA] at h
 rw [h.1, h.2]
theorem desc_str {d : TypeDesc} (h : descA d = .str) : d = .string := by
 cases d <;> simp [descA] at h
 rfl
theorem desc_map {d : TypeDesc} {k v : Nat} (h : descA d = .map k v) : d = .map k v := by
 cases d <;> simp [descA] at h
 rw [h.1, h.2]
theorem desc_int {d : TypeDesc} {k : IntKind} (h : descA d = .int k) : d = .int k := by
 cases d <;> simp [descA] at h
 rw [h]
theorem run_sizeOf {t : TypeId} {i : TyI} (ht : TyOk P t i) (w : World) : (sizeOf t).run P w = .ok i.size w := by
 obtain ⟨d, info, z, hu, hi, hd, hs, _⟩ := ht
 simp [sizeOf, typeInfo, hi, hs]
theorem addr_add (b o n : Nat) : (⟨b, o, none⟩ : Addr).add n = ⟨b, o + n, none⟩ := by
 unfold Addr.add; split <;> simp_all
theorem fieldAddr_ok (hE : EnvOk P E) {t : TypeId} {p' : Value} {p x : AV} {k : Nat} (hp : Rep m S w false p' p) (h : fieldAddrA E t p k = some x) :
  ∃ v', (Instr.fieldAt t p' k).run P w = .ok v' w ∧ Rep m S w false v' x := by
 unfold fieldAddrA at h
 cases hi : E.ty t with
 | none => simp [hi] at h
 | some i =>
  simp only [hi, Option.bind_eq_bind, Option.bind_some] at h
  split at h
  ·rename_i fs hfs
   cases hk : fs[k]? with
   | none => simp [hk] at h
   | some q =>
    obtain ⟨off, ft⟩ := q
    simp only [hk, Option.bind_some] at h
    cases hfi : E.ty ft with
    | none => simp [hfi] at h
    | some fi =>
     simp only [hfi, Option.bind_some] at h
     split at h
     ·cases h
     ·rename_i hsz
      obtain ⟨d, info, z, hu, hinf, hd, _⟩ := hE.ty t i hi
      obtain ⟨fields, rfl, hff⟩ := desc_struct (hd.symm.trans hfs)
      have hso := run_sizeOf (hE.ty ft fi hfi) w
      subst hff
      rw [List.getElem?_map] at hk
      cases hf : fields.toList[k]? with
      | none => simp [hf] at hk
      | some f =>
       simp [hf] at hk
       obtain ⟨rfl, rfl⟩ := hk
       have hfa : fields[k]? = some f := by rw [← Array.getElem?_toList]; exact hf
       cases hp with
       | ref _ a cs hrow hne =>
        simp only at h
        split at h
        ·rename_i hlt
         simp at h; subst h
         refine ⟨.pointer (some (a.add f.offset)), ?_, .ref _ _ _ (hrow.drop _) (by simp; omega)⟩
         simp [Instr.fieldAt, run_underlying hu, hfa, Instr.sureAddr, fieldPlace, Sem.run_bind, hso, hsz]
        ·cases h
       | loc nm off' b o hm =>
        simp at h; subst h
        refine ⟨.pointer (some ⟨b, o + (off' + f.offset), none⟩), ?_, .loc _ _ _ _ hm⟩
        simp [Instr.fieldAt, run_underlying hu, hfa, Instr.sureAddr, fieldPlace, Sem.run_bind, hso, hsz, addr_add, Nat.add_assoc]
       | _ => simp at h
  ·cases h
theorem rep_int {nf : Bool} {v : Value} {k : IntKind} {n : Int} (h : Rep m S w nf v (.int k n)) : v = .int k n := by cases h; rfl
theorem rep_bool {nf : Bool} {v : Value} {b : Bool} (h : Rep m S w nf v (.bool b)) : v = .bool b := by cases h; rfl
theorem indexAddr_ok (hE : EnvOk P E) {t : TypeId} {x' i' : Value} {x ix y : AV} (hx : Rep m S w false x' x) (hi' : Rep m S w false i' ix) (h : indexAddrA E t x ix = some y) :
  ∃ v', (Instr.indexAt t x' i').run P w = .ok v' w ∧ Rep m S w false v' y := by
 unfold indexAddrA at h
 cases hi : E.ty t with
 | none => simp [hi] at h
 | some i =>
  simp only [hi, Option.bind_eq_bind, Option.bind_some] at h
  split at h
  ·rename_i k n
   obtain rfl := rep_int hi'
   obtain ⟨d, info, z, hu, hinf, hd, _⟩ := hE.ty t i hi
   split at h
   ·rename_i e len cs full hds
    obtain rfl := desc_slice (hd.symm.trans hds)
    cases hei : E.ty e with
    | none => simp [hei] at h
    | some ei =>
     have hso := run_sizeOf (hE.ty e ei hei) w
     simp only [hei, Option.bind_some] at h
     split at h
     ·rename_i hc
      simp at h; subst h
      cases hx with
      | nilsl => simp at hc
      | sl _ a _ c _ _ h1 h2 h3 =>
       refine ⟨.pointer (some (a.add (n.toNat * ei.size))), ?_, .ref _ _ _ (h3.drop _) (by simp; omega)⟩
       simp [Instr.indexAt, asIntOf, run_underlying hu, Sem.run_bind, hc.1, hc.2.1, hso]
     ·cases h
   ·rename_i e nm off len sz hds
    obtain rfl := desc_slice (hd.symm.trans hds)
    cases hei : E.ty e with
    | none => simp [hei] at h
    | some ei =>
     have hso := run_sizeOf (hE.ty e ei hei) w
     simp only [hei, Option.bind_some] at h
     split at h
     ·rename_i hc
      simp at h; subst h
      cases hx with
      | own0 => simp at hc; omega
      | own _ _ _ _ c b o h1 h2 h3 =>
       refine ⟨.pointer (some ⟨b, o + (off + n.toNat * ei.size), none⟩), ?_, .loc _ _ _ _ h1⟩
       simp [Instr.indexAt, asIntOf, run_underlying hu, Sem.run_bind, hc.1, hc.2.1, hso, addr_add, Nat.add_assoc]
     ·cases h
   ·rename_i len e cs hds
    obtain rfl := desc_array (hd.symm.trans hds)
    cases hei : E.ty e with
    | none => simp [hei] at h
    | some ei =>
     have hso := run_sizeOf (hE.ty e ei hei) w
     simp only [hei, Option.bind_some] at h
     split at h
     ·rename_i hc
      simp at h; subst h
      cases hx with
      | ref _ a _ h3 hne =>
       refine ⟨.pointer (some (a.add (n.toNat * ei.size))), ?_, .ref _ _ _ (h3.drop _) (by simp; omega)⟩
       simp [Instr.indexAt, asIntOf, run_underlying hu, Sem.run_bind, Instr.sureAddr, hc.1, hc.2.1, hso]
     ·cases h
   ·rename_i len e nm off hds
    obtain rfl := desc_array (hd.symm.trans hds)
    cases hei : E.ty e with
    | none => simp [hei] at h
    | some ei =>
     have hso := run_sizeOf (hE.ty e ei hei) w
     simp only [hei, Option.bind_some] at h
     split at h
     ·rename_i hc
      simp at h; subst h
      cases hx with
      | loc _ _ b o h1 =>
       refine ⟨.pointer (some ⟨b, o + (off + n.toNat * ei.size), none⟩), ?_, .loc _ _ _ _ h1⟩
       simp [Instr.indexAt, asIntOf, run_underlying hu, Sem.run_bind, Instr.sureAddr, hc.1, hc.2, hso, addr_add, Nat.add_assoc]
     ·cases h
   ·cases h
  ·cases h
theorem run_part {t : TypeId} {i : TyI} (ht : TyOk P t i) {vs : List Value} {cs : List AV} {x : AV} {off : Nat} (hr : RepL m S w false vs cs) (h1 : ∀ y ∈ cs, one y = true) (hl : off + i.size ≤ cs.length)
  (hk : mkV i.desc.isAgg ((cs.drop off).take i.size) = some x) (w2 : World) : ∃ v', (part t vs.toArray off).run P w2 = .ok v' w2 ∧ Rep m S w false v' x := by
 have hso := run_sizeOf ht w2
 obtain ⟨d, info, z, hu, hi, hd, hs, _⟩ := ht
 have hd' : i.desc.isAgg = d.isRow := by rw [hd, isAgg_descA]
 have hr2 := (hr.drop off).take i.size
 rcases mkV_some hk with ⟨ha, rfl⟩ | ⟨ha, e⟩
 ·refine ⟨.agg ((vs.drop off).take i.size).toArray, ?_, .agg _ _ _ hr2 fun y hy => h1 y (List.mem_of_mem_drop (List.mem_of_mem_take hy))⟩
  have hagg : (isAgg t).run P w2 = .ok true w2 := by
   unfold isAgg
   rw [Sem.run_bind, run_underlying hu w2]
   rw [hd'] at ha
   cases d <;> simp_all
  simp only [part, Sem.run_bind, hagg, Result.andThen_ok, if_true, hso, Sem.run_pure]
  congr 2
  apply Array.ext'
  simp
 ·rw [e] at hr2
  have hsz : i.size = 1 ∨ 1 < i.size ∨ i.size = 0 := by omega
  have hlen : ((cs.drop off).take i.size).length = 1 := by rw [e]; rfl
  have hs1 : i.size = 1 := by simp at hlen; omega
  have hg : cs[off]? = some x := by
   have : ((cs.drop off).take i.size)[0]? = some x := by rw [e]; rfl
   rw [hs1, List.getElem?_take] at this
   simpa using this
  obtain ⟨v, hv, hrv⟩ := hr.get hg
  refine ⟨v, ?_, hrv⟩
  simp [part, Sem.run_bind, run_isAgg_false hu (hd' ▸ ha) w2, hv]
theorem field_ok (hE : EnvOk P E) {t : TypeId} {p' : Value} {p x : AV} {k : Nat} (hp : Rep m S w false p' p) (h : fieldA E t p k = some x) :
  ∃ v', (Instr.field t p' k).run P w = .ok v' w ∧ Rep m S w false v' x := by
 unfold fieldA at h
 cases hi : E.ty t with
 | none => simp [hi] at h
 | some i =>
  simp only [hi, Option.bind_eq_bind, Option.bind_some] at h
  split at h
  ·rename_i fs hfs
   cases hk : fs[k]? with
   | none => simp [hk] at h
   | some q =>
    obtain ⟨off, ft⟩ := q
    simp only [hk, Option.bind_some] at h
    cases hfi : E.ty ft with
    | none => simp [hfi] at h
    | some fi =>
     simp only [hfi, Option.bind_some] at h
     split at h
     ·rename_i cs
      split at h
      ·rename_i hle
       obtain ⟨d, info, z, hu, hinf, hd, _⟩ := hE.ty t i hi
       obtain ⟨fields, rfl, hff⟩ := desc_struct (hd.symm.trans hfs)
       subst hff
       rw [List.getElem?_map] at hk
       cases hf : fields.toList[k]? with
       | none => simp [hf] at hk
       | some f =>
        simp [hf] at hk
        obtain ⟨rfl, rfl⟩ := hk
        have hfa : fields[k]? = some f := by rw [← Array.getElem?_toList]; exact hf
        cases hp with
        | agg _ vs _ hr h1 =>
         obtain ⟨v', g1, g2⟩ := run_part (hE.ty _ fi hfi) hr h1 hle h w
         exact ⟨v', by simp [Instr.field, run_underlying hu, hfa, asAgg, g1], g2⟩
      ·cases h
     ·cases h
  ·cases h
theorem rep_str {nf : Bool} {v : Value} {l : List Nat} (h : Rep m S w nf v (.str l)) : ∃ s : ByteArray, v = .string s ∧ s.data.toList.map UInt8.toNat = l := by
 cases h with
 | str _ s _ h => exact ⟨s, rfl, h⟩
theorem str_size {s : ByteArray} {l : List Nat} (h : s.data.toList.map UInt8.toNat = l) : s.size = l.length := by
 rw [← h, List.length_map, Array.length_toList]; rfl
theorem str_get {s : ByteArray} {l : List Nat} (h : s.data.toList.map UInt8.toNat = l) (i : Nat) : (s[i]?).map UInt8.toNat = l[i]? := by
 subst h
 rw [List.getElem?_map]
 congr 1
 have : s[i]? = s.data[i]? := by
  by_cases hi : i < s.size
  ·rw [ByteArray.getElem?_lt' s i hi]
   have : i < s.data.size := hi
   rw [Array.getElem?_eq_getElem this]; rfl
  ·have h1 : ¬ i < s.data.size := hi
   rw [Array.getElem?_eq_none (by omega)]
   simp [hi]
 rw [this, Array.getElem?_toList]
theorem index_ok (hE : EnvOk P E) {t : TypeId} {x' i' : Value} {x ix y : AV} (hx : Rep m S w false x' x) (hi' : Rep m S w false i' ix) (h : indexA E t x ix = some y) :
  ∃ v', (Instr.index t x' i').run P w = .ok v' w ∧ Rep m S w false v' y := by
 unfold indexA at h
 cases hi : E.ty t with
 | none => simp [hi] at h
 | some i =>
  simp only [hi, Option.bind_eq_bind, Option.bind_some] at h
  split at h
  ·rename_i k n
   obtain rfl := rep_int hi'
   obtain ⟨d, info, z, hu, hinf, hd, _⟩ := hE.ty t i hi
   split at h
   ·rename_i l hds
    obtain rfl := desc_str (hd.symm.trans hds)
    obtain ⟨s, rfl, hs⟩ := rep_str hx
    split at h
    ·rename_i h0
     cases hg : l[n.toNat]? with
     | none => simp [hg] at h
     | some c =>
      simp [hg] at h; subst h
      have := str_get hs n.toNat
      rw [hg] at this
      cases hb : s[n.toNat]? with
      | none => simp [hb] at this
      | some b =>
       simp [hb] at this; subst this
       exact ⟨_, by simp [Instr.index, asIntOf, run_underlying hu, Sem.run_bind, h0, hb], .int _ _ _⟩
    ·cases h
   ·rename_i len e cs hds
    obtain rfl := desc_array (hd.symm.trans hds)
    cases hei : E.ty e with
    | none => simp [hei] at h
    | some ei =>
     have hso := run_sizeOf (hE.ty e ei hei) w
     simp only [hei, Option.bind_some] at h
     split at h
     ·rename_i hc
      cases hx with
      | agg _ vs _ hr h1 =>
       obtain ⟨v', g1, g2⟩ := run_part (hE.ty _ ei hei) hr h1 hc.2.2 h w
       exact ⟨v', by simp [Instr.index, asIntOf, run_underlying hu, Sem.run_bind, hc.1, hc.2.1, hso, g1], g2⟩
     ·cases h
   ·cases h
  ·cases h
theorem bound_cases {x : Option AV} {x' : Option Value} {dflt most r : Nat} (hx : ∀ y, x = some y → ∃ v, x' = some v ∧ Rep m S w false v y) (hn : x = none → x' = none) (h : boundA x dflt most = some r) :
  (x' = none ∧ r = dflt) ∨ (∃ k, x' = some (.int k r) ∧ r ≤ most) := by
 unfold boundA at h
 split at h
 ·simp at h; exact .inl ⟨hn rfl, h.symm⟩
 ·rename_i k n
  split at h
  ·rename_i hc
   simp at h
   obtain ⟨v, hv, hr⟩ := hx _ rfl
   obtain rfl := rep_int hr
   obtain ⟨q, rfl⟩ := Int.eq_ofNat_of_zero_le hc.1
   simp at h; subst h
   exact .inr ⟨k, hv, by omega⟩
  ·cases h
 ·cases h
theorem bounds2_run {lo hi : Option AV} {lo' hi' : Option Value} {len cap l h : Nat} (isS : Bool) (hlo : ∀ y, lo = some y → ∃ v, lo' = some v ∧ Rep m S w false v y) (hlo' : lo = none → lo' = none)
  (hhi : ∀ y, hi = some y → ∃ v, hi' = some v ∧ Rep m S w false v y) (hhi' : hi = none → hi' = none) (hlc : len ≤ cap)
  (e1 : boundA hi len len = some h) (e2 : boundA lo 0 h = some l) (w2 : World) : (Instr.sliceBounds isS len cap lo' hi' none).run P w2 = .ok (l, h, cap) w2 ∧ l ≤ h ∧ h ≤ len := by
 rcases bound_cases hhi hhi' e1 with ⟨rfl, rfl⟩ | ⟨k, rfl, a1⟩ <;> rcases bound_cases hlo hlo' e2 with ⟨rfl, rfl⟩ | ⟨k2, rfl, b1⟩
 ·exact ⟨by simp [Instr.sliceBounds], by omega, by omega⟩
 ·exact ⟨by simp [Instr.sliceBounds, Instr.sliceBound, asIntOf, b1], by omega, by omega⟩
 ·have c : h ≤ cap := by omega
  exact ⟨by simp [Instr.sliceBounds, Instr.sliceBound, asIntOf, c], by omega, by omega⟩
 ·have c : h ≤ cap := by omega
  exact ⟨by simp [Instr.sliceBounds, Instr.sliceBound, asIntOf, c, b1], by omega, by omega⟩
theorem bounds3_run {lo hi : Option AV} {mx : AV} {lo' hi' : Option Value} {mx' : Value} {len cap l h k : Nat} (hlo : ∀ y, lo = some y → ∃ v, lo' = some v ∧ Rep m S w false v y) (hlo' : lo = none → lo' = none)
  (hhi : ∀ y, hi = some y → ∃ v, hi' = some v ∧ Rep m S w false v y) (hsome : hi ≠ none) (hmx : Rep m S w false mx' mx) (hlc : len ≤ cap)
  (e0 : boundA (some mx) 0 len = some k) (e1 : boundA hi 0 k = some h) (e2 : boundA lo 0 h = some l) (w2 : World) : (Instr.sliceBounds true len cap lo' hi' (some mx')).run P w2 = .ok (l, h, k) w2 ∧ l ≤ h ∧ h ≤ k ∧ k ≤ len := by
 rcases bound_cases (x' := some mx') (fun y e => by cases e; exact ⟨_, rfl, hmx⟩) (fun e => by cases e) e0 with ⟨e, _⟩ | ⟨k0, e, a1⟩
 ·cases e
 ·cases e
  have c0 : k ≤ cap := by omega
  rcases bound_cases hhi (fun e => absurd e hsome) e1 with ⟨rfl, _⟩ | ⟨k1, rfl, b1⟩
  ·cases hi with
   | none => exact absurd rfl hsome
   | some y => obtain ⟨v, e, _⟩ := hhi y rfl; cases e
  ·rcases bound_cases hlo hlo' e2 with ⟨rfl, rfl⟩ | ⟨k2, rfl, d1⟩
   ·exact ⟨by simp [Instr.sliceBounds, Instr.sliceBound, asIntOf, c0, b1], by omega, by omega, by omega⟩
   ·exact ⟨by simp [Instr.sliceBounds, Instr.sliceBound, asIntOf, c0, b1, d1], by omega, by omega, by omega⟩
theorem rep_sl_nil {a : Option Addr} {c : Nat} {full : Bool} (hf : full = true → c = 0) (ha : a = none → c = 0) : Rep m S w false (.slice a 0 c) (.sl 0 [] full) := by
 cases a with
 | none => rw [ha rfl]; exact .nilsl _ _
 | some a => exact .sl _ _ _ _ _ _ (Nat.zero_le _) hf (.nil _)
theorem rep_slice_piece {a : Option Addr} {n c l h k sz : Nat} {cells : List AV} {full fl : Bool} (hx : Rep m S w false (.slice a n c) (.sl n cells full)) (hlen : cells.length = n * sz) (h1 : l ≤ h) (h2 : h ≤ k) (h4 : h ≤ n) (h3 : k ≤ c)
  (hf : fl = true → k = h) : Rep m S w false (.slice (if k = l then a else a.map (·.add (l * sz))) (h - l) (k - l)) (.sl (h - l) ((cells.take (h * sz)).drop (l * sz)) fl) := by
 cases hx with
 | nilsl =>
  obtain rfl : h = 0 := by omega
  obtain rfl : l = 0 := by omega
  have : k = 0 := by omega
  subst this
  simpa using rep_sl_nil (by simp) (by simp)
 | sl _ a _ _ _ _ g1 g2 g3 =>
  by_cases e : k = l
  ·have : h = l := by omega
   subst this
   have hz : (cells.take (h * sz)).drop (h * sz) = [] := by simp
   rw [hz]
   subst e
   simpa using rep_sl_nil (by simp) (by simp)
  ·rw [if_neg e]
   exact .sl _ _ _ _ _ _ (by omega) (fun q => by have := hf q; omega) ((g3.take _).drop _)
theorem slice_ok (hE : EnvOk P E) {t : TypeId} {x' : Value} {x y : AV} {lo hi mx : Option AV} {lo' hi' mx' : Option Value} (hx : Rep m S w false x' x)
  (hlo : ∀ y, lo = some y → ∃ v, lo' = some v ∧ Rep m S w false v y) (hlo' : lo = none → lo' = none)
  (hhi : ∀ y, hi = some y → ∃ v, hi' = some v ∧ Rep m S w false v y) (hhi' : hi = none → hi' = none)
  (hmx : ∀ y, mx = some y → ∃ v, mx' = some v ∧ Rep m S w false v y) (hmx' : mx = none → mx' = none) (h : sliceA E t x lo hi mx = some y) :
  ∃ v', (Instr.sliceAt t x' lo' hi' mx').run P w = .ok v' w ∧ Rep m S w false v' y := by
 unfold sliceA at h
 cases hi0 : E.ty t with
 | none => simp [hi0] at h
 | some i =>
  simp only [hi0, Option.bind_eq_bind, Option.bind_some] at h
  obtain ⟨d, info, z, hu, hinf, hd, _⟩ := hE.ty t i hi0
  split at h
  ·rename_i l hds
   obtain rfl := desc_str (hd.symm.trans hds)
   obtain ⟨s, rfl, hs⟩ := rep_str hx
   split at h
   ·cases h
   ·rename_i hmn
    have hmn' : mx = none := by cases mx <;> simp_all
    have := hmx' hmn'; subst this
    have hsz := str_size hs
    cases e1 : boundA hi l.length l.length with
    | none => simp [e1] at h
    | some hh =>
     simp only [e1, Option.bind_some] at h
     cases e2 : boundA lo 0 hh with
     | none => simp [e2] at h
     | some ll =>
      simp [e2] at h; subst h
      rw [← hsz] at e1
      obtain ⟨g1, g2, g3⟩ := bounds2_run (P := P) false hlo hlo' hhi hhi' (Nat.le_refl _) e1 e2 w
      refine ⟨.string (s.extract ll hh), ?_, .str _ _ _ ?_⟩
      ·simp [Instr.sliceAt, Instr.slice, run_underlying hu, Sem.run_bind, g1]
      ·rw [Lib.extract_data, List.map_take, List.map_drop, hs, List.drop_take]
  ·rename_i e n cs full hds
   obtain rfl := desc_slice (hd.symm.trans hds)
   cases hei : E.ty e with
   | none => simp [hei] at h
   | some ei =>
    have hso := run_sizeOf (hE.ty e ei hei) w
    simp only [hei, Option.bind_some] at h
    split at h
    ·cases h
    ·rename_i hcl
     have hcl' : cs.length = n * ei.size := Decidable.of_not_not hcl
     obtain ⟨a, c, rfl, hnc⟩ : ∃ a c, x' = .slice a n c ∧ n ≤ c := by
      cases hx with
      | nilsl => exact ⟨none, 0, rfl, Nat.le_refl _⟩
      | sl _ a _ c _ _ h1 _ _ => exact ⟨some a, c, rfl, h1⟩
     have hfc : full = true → c = n := by
      cases hx with
      | nilsl => intro _; rfl
      | sl _ a _ c _ _ _ h2 _ => exact h2
     split at h
     ·have := hmx' rfl; subst this
      cases e1 : boundA hi n n with
      | none => simp [e1] at h
      | some hh =>
       simp only [e1, Option.bind_some] at h
       cases e2 : boundA lo 0 hh with
       | none => simp [e2] at h
       | some ll =>
        simp [e2] at h; subst h
        obtain ⟨g1, g2, g3⟩ := bounds2_run (P := P) true hlo hlo' hhi hhi' hnc e1 e2 w
        refine ⟨_, ?_, rep_slice_piece hx hcl' g2 (by omega) g3 (Nat.le_refl c) (fun q => ?_)⟩
        ·simp [Instr.sliceAt, Instr.slice, run_underlying hu, Sem.run_bind, g1, hso]
        ·simp at q
         have := hfc q.1
         omega
     ·rename_i mv
      obtain ⟨mv', rfl, hmr⟩ := hmx mv rfl
      cases e0 : boundA (some mv) 0 n with
      | none => simp [e0] at h
      | some k =>
       simp only [e0, Option.bind_some] at h
       cases e1 : boundA hi 0 k with
       | none => simp [e1] at h
       | some hh =>
        simp only [e1, Option.bind_some] at h
        split at h
        ·cases h
        ·rename_i hsm
         cases e2 : boundA lo 0 hh with
         | none => simp [e2] at h
         | some ll =>
          simp [e2] at h; subst h
          obtain ⟨g1, g2, g3, g4⟩ := bounds3_run (P := P) hlo hlo' hhi (by intro q; subst q; simp at hsm) hmr hnc e0 e1 e2 w
          refine ⟨_, ?_, rep_slice_piece hx hcl' g2 g3 (by omega) (by omega : k ≤ c) (fun q => by simp at q; omega)⟩
          simp [Instr.sliceAt, Instr.slice, run_underlying hu, Sem.run_bind, g1, hso]
  ·rename_i e nm off n sz hds
   obtain rfl := desc_slice (hd.symm.trans hds)
   cases hei : E.ty e with
   | none => simp [hei] at h
   | some ei =>
    have hso := run_sizeOf (hE.ty e ei hei) w
    simp only [hei, Option.bind_some] at h
    split at h
    ·cases h
    ·rename_i hmn
     have hmn' : mx = none := by cases mx <;> simp_all
     have hsz : sz = ei.size := by
      by_cases q : sz = ei.size
      ·exact q
      ·exact absurd (Or.inr q) hmn
     have := hmx' hmn'; subst this
     cases e1 : boundA hi n n with
     | none => simp [e1] at h
     | some hh =>
      simp only [e1, Option.bind_some] at h
      cases e2 : boundA lo 0 hh with
      | none => simp [e2] at h
      | some ll =>
       simp [e2] at h; subst h
       cases hx with
       | own0 _ _ _ b o a h1 =>
        obtain ⟨g1, g2, g3⟩ := bounds2_run (P := P) true hlo hlo' hhi hhi' (Nat.le_refl _) e1 e2 w
        obtain rfl : hh = 0 := by omega
        obtain rfl : ll = 0 := by omega
        exact ⟨.slice a 0 0, by simp [Instr.sliceAt, Instr.slice, run_underlying hu, Sem.run_bind, g1, hso], by simpa using Rep.own0 nm off sz b o a h1⟩
       | own _ _ _ _ c b o h1 h2 h3 =>
        obtain ⟨g1, g2, g3⟩ := bounds2_run (P := P) true hlo hlo' hhi hhi' h2 e1 e2 w
        obtain ⟨e', k, hs, hk⟩ := h3
        have hsub : (c - ll) * sz = c * sz - ll * sz := Nat.sub_mul ..
        have hle2 : ll * sz ≤ c * sz := Nat.mul_le_mul_right _ (by omega)
        by_cases q : c = ll
        ·have q1 : hh = ll := by omega
         subst q1; subst q
         exact ⟨.slice (some ⟨b, o + off, none⟩) 0 0, by simp [Instr.sliceAt, Instr.slice, run_underlying hu, Sem.run_bind, g1, hso], by simpa using Rep.own0 nm (off + c * ei.size) sz b o _ h1⟩
        ·refine ⟨_, ?_, .own nm (off + ll * ei.size) (hh - ll) sz (c - ll) b o h1 (by omega) ⟨e', k, hs, by rw [← hsz, hsub]; omega⟩⟩
         simp [Instr.sliceAt, Instr.slice, run_underlying hu, Sem.run_bind, g1, hso, q, addr_add, Nat.add_assoc]
  ·cases h
theorem lay_length {xs ys : List AV} {off : Nat} (h : off + ys.length ≤ xs.length) : (lay xs off ys).length = xs.length := by
 simp [lay]; omega
theorem lay_get {xs ys : List AV} {off : Nat} (h : off + ys.length ≤ xs.length) (i : Nat) : (lay xs off ys)[i]? = if off ≤ i ∧ i < off + ys.length then ys[i - off]? else xs[i]? := by
 unfold lay
 rw [List.getElem?_append, List.getElem?_append]
 have h1 : (List.take off xs).length = off := by simp; omega
 simp only [List.length_append, h1]
 by_cases c1 : i < off
 ·rw [if_pos (by omega), if_pos c1, if_neg (by omega), List.getElem?_take, if_pos c1]
 ·by_cases c2 : i < off + ys.length
  ·rw [if_pos c2, if_neg c1, if_pos (by omega)]
  ·rw [if_neg c2, if_neg (by omega), List.getElem?_drop]
   congr 1; omega
theorem foldl_get : ∀ (us : List Value) (j : Nat) (off : Nat) (cs : Array Value) (i : Nat), off + j + us.length ≤ cs.size →
  ((us.zipIdx j).foldl (fun cs (c, i) => cs.setIfInBounds (off + i) c) cs)[i]? = (if off + j ≤ i ∧ i < off + j + us.length then us[i - (off + j)]? else cs[i]?) ∧
  ((us.zipIdx j).foldl (fun cs (c, i) => cs.setIfInBounds (off + i) c) cs).size = cs.size
 | [], j, off, cs, i, h => by simp; omega
 | u :: us, j, off, cs, i, h => by
  simp only [List.zipIdx_cons, List.foldl_cons]
  simp at h
  obtain ⟨g1, g2⟩ := foldl_get us (j + 1) off (cs.setIfInBounds (off + j) u) i (by simp; omega)
  refine ⟨?_, by rw [g2]; simp⟩
  rw [g1, Array.getElem?_setIfInBounds]
  by_cases c0 : i = off + j
  ·subst c0
   rw [if_neg (by omega), if_pos rfl, if_pos (by omega), if_pos (by simp only [List.length_cons]; omega)]
   simp
  ·by_cases c1 : off + (j + 1) ≤ i ∧ i < off + (j + 1) + us.length
   ·rw [if_pos c1, if_pos (by simp; omega)]
    have : i - (off + j) = (i - (off + (j + 1))) + 1 := by omega
    rw [this]; simp
   ·rw [if_neg c1, if_neg (by omega), if_neg (by simp; omega)]
theorem cells_rep {v' : Value} {v : AV} (h : Rep m S w false v' v) (hne : cellsOf v ≠ []) : RepL m S w false v'.cells.toList (cellsOf v) ∧ (∀ x ∈ cellsOf v, one x = true) ∧ v'.cells.toList.length = (cellsOf v).length := by
 cases h with
 | agg _ cs xs h h1 => exact ⟨by simpa [Value.cells, cellsOf] using h, by simpa [cellsOf] using h1, by simpa [Value.cells, cellsOf] using h.length⟩
 | undef => simp [cellsOf] at hne
 | tup => simp [cellsOf] at hne
 | sl nf a n c cells full h1 h2 h3 => exact ⟨.cons _ _ _ _ _ (.sl _ _ _ _ _ _ h1 h2 h3) (.nil _), by simp [cellsOf, one], rfl⟩
 | own nm off n sz c b o h1 h2 h3 => exact ⟨.cons _ _ _ _ _ (.own _ _ _ _ _ _ _ h1 h2 h3) (.nil _), by simp [cellsOf, one], rfl⟩
 | own0 nm off sz b o a h1 => exact ⟨.cons _ _ _ _ _ (.own0 _ _ _ _ _ _ h1) (.nil _), by simp [cellsOf, one], rfl⟩
 | bool nf b => exact ⟨.cons _ _ _ _ _ (.bool _ _) (.nil _), by simp [cellsOf, one], rfl⟩
 | int nf k n => exact ⟨.cons _ _ _ _ _ (.int _ _ _) (.nil _), by simp [cellsOf, one], rfl⟩
 | str nf s l h => exact ⟨.cons _ _ _ _ _ (.str _ _ _ h) (.nil _), by simp [cellsOf, one], rfl⟩
 | nilsl nf f => exact ⟨.cons _ _ _ _ _ (.nilsl _ _) (.nil _), by simp [cellsOf, one], rfl⟩
 | clo nf f cs xs h => exact ⟨.cons _ _ _ _ _ (.clo _ _ _ _ h) (.nil _), by simp [cellsOf, one], rfl⟩
 | yield l b h => exact ⟨.cons _ _ _ _ _ (.yield _ _ h) (.nil _), by simp [cellsOf, one], rfl⟩
 | nilFunc nf => exact ⟨.cons _ _ _ _ _ (.nilFunc _) (.nil _), by simp [cellsOf, one], rfl⟩
 | nilIface nf => exact ⟨.cons _ _ _ _ _ (.nilIface _) (.nil _), by simp [cellsOf, one], rfl⟩
 | iface nf t v x h => exact ⟨.cons _ _ _ _ _ (.iface _ _ _ _ h) (.nil _), by simp [cellsOf, one], rfl⟩
 | ref nf a cells h h1 => exact ⟨.cons _ _ _ _ _ (.ref _ _ _ h h1) (.nil _), by simp [cellsOf, one], rfl⟩
 | loc nm off b o h => exact ⟨.cons _ _ _ _ _ (.loc _ _ _ _ h) (.nil _), by simp [cellsOf, one], rfl⟩
 | nilptr nf => exact ⟨.cons _ _ _ _ _ (.nilptr _) (.nil _), by simp [cellsOf, one], rfl⟩
 | map nm b h => exact ⟨.cons _ _ _ _ _ (.map _ _ h) (.nil _), by simp [cellsOf, one], rfl⟩
 | nilmap nf => exact ⟨.cons _ _ _ _ _ (.nilmap _) (.nil _), by simp [cellsOf, one], rfl⟩
 | res nf k n r M h0 h1 => exact ⟨.cons _ _ _ _ _ (.res _ k n r M h0 h1) (.nil _), by simp [cellsOf, one], rfl⟩
inductive RepP (m : Mu) (S : Sett) (w : World) : List (Nat × Value) → List (Nat × AV) → Prop
 | nil : RepP m S w [] []
 | cons (i v x vs xs) (h : Rep m S w false v x) (t : RepP m S w vs xs) : RepP m S w ((i, v) :: vs) ((i, x) :: xs)
theorem fill_ok {place place' : Nat → Option (Nat × Nat)} (hpl : ∀ k q, place k = some q → place' k = some q) : ∀ {ps' : List (Nat × Value)} {ps : List (Nat × AV)}, RepP m S w ps' ps → ∀ {C : Array Value} {cs r : List AV}, RepL m S w false C.toList cs → (∀ x ∈ cs, one x = true) →
  fillA place cs ps = some r → ∃ R, Instr.fill place' C ps' = some R ∧ RepL m S w false R.toList r ∧ (∀ x ∈ r, one x = true) ∧ r.length = cs.length
 | _, _, .nil, C, cs, r, hC, h1, h => by
  simp [fillA] at h; subst h
  exact ⟨C, rfl, hC, h1, rfl⟩
 | _, _, .cons i v x vs xs hv t, C, cs, r, hC, h1, h => by
  unfold fillA at h
  cases hp : place i with
  | none => simp [hp] at h
  | some q =>
   obtain ⟨off, size⟩ := q
   simp only [hp] at h
   split at h
   ·cases h
   ·rename_i hc
    simp only [not_or, Decidable.not_not, Nat.not_lt] at hc
    obtain ⟨hc1, hc2, hc3⟩ := hc
    obtain ⟨g1, g2, g3⟩ := cells_rep hv (by intro e; rw [e] at hc1; simp at hc1; omega)
    have hCl : C.size = cs.length := by have := hC.length; simpa using this
    have hvs : v.cells.size = size := by have := g3; simp at this; omega
    have hfg := fun i => foldl_get v.cells.toList 0 off C i (by simp; omega)
    obtain ⟨R, k1, k2, k3, k4⟩ := fill_ok hpl t (C := (v.cells.toList.zipIdx 0).foldl (fun cs (c, i) => cs.setIfInBounds (off + i) c) C) (cs := lay cs off (cellsOf x)) (r := r)
     (RepL.of_get (by
       rw [lay_length (by omega), Array.length_toList, (hfg 0).2]; omega) (fun i y hy => by
      rw [lay_get (by omega)] at hy
      have := (hfg i).1
      rw [Array.getElem?_toList, this]
      simp only [Nat.add_zero, Array.length_toList]
      split at hy
      ·rename_i hcc
       rw [if_pos (by omega)]
       exact g1.get hy
      ·rename_i hcc
       rw [if_neg (by omega)]
       have := hC.get hy
       simpa using this))
     (fun y hy => by
      obtain ⟨i, hi⟩ := List.getElem?_of_mem hy
      rw [lay_get (by omega)] at hi
      split at hi
      ·exact g2 y (List.mem_of_getElem? hi)
      ·exact h1 y (List.mem_of_getElem? hi)) h
    refine ⟨R, ?_, k2, k3, by rw [k4, lay_length (by omega)]⟩
    unfold Instr.fill
    simp only [hpl _ _ hp]
    rw [if_neg (by simp; omega)]
    rw [← k1]
    congr 1
    rw [← Array.foldl_toList]
    simp
theorem ofVal1_rep (v : Value) (h : ofVal1 v ≠ .undef) : Rep m S w true v (ofVal1 v) := by
 unfold ofVal1 at h ⊢
 split at h
 ·exact .bool _ _
 ·exact .int _ _ _
 ·exact .str _ _ _ rfl
 ·exact .nilsl _ _
 ·exact .nilptr _
 ·exact .nilFunc _
 ·exact .nilIface _
 ·exact .nilmap _
 ·exact .iface _ _ _ _ (.int _ _ _)
 ·exact .iface _ _ _ _ (.str _ _ _ rfl)
 ·exact absurd rfl h
theorem ofVal1_repL : ∀ (vs : List Value), (vs.map ofVal1).all one = true → RepL m S w true vs (vs.map ofVal1)
 | [], _ => .nil _
 | v :: vs, h => by
  simp only [List.map_cons, List.all_cons, Bool.and_eq_true] at h
  exact .cons _ _ _ _ _ (ofVal1_rep v (fun e => by rw [e] at h; simp [one] at h)) (ofVal1_repL vs h.2)
theorem ofVal_rep (v : Value) (h : ofVal v ≠ .undef) : Rep m S w true v (ofVal v) := by
 unfold ofVal at h ⊢
 split at h
 ·rename_i cs
  split at h
  ·rename_i ha
   rw [if_pos ha]
   exact .agg _ cs.toList _ (ofVal1_repL cs.toList ha) (fun x hx => List.all_eq_true.1 ha x hx)
  ·exact absurd rfl h
 ·exact ofVal1_rep _ h
theorem zero_rep : ∀ {vs : List Value} {xs : List AV}, vs.map ofVal = xs → (∀ x ∈ xs, one x = true) → RepL m S w true vs xs
 | [], _, rfl, _ => .nil _
 | v :: vs, _, rfl, h => .cons _ _ _ _ _ (ofVal_rep v (by
   have := h (ofVal v) (by simp)
   intro e; rw [e] at this; simp [one] at this)) (zero_rep rfl fun x hx => h x (by simp at hx ⊢; exact .inr hx))
theorem places_ok (hE : EnvOk P E) : ∀ (fs : List Field), (∀ f ∈ fs, (P.info? f.type).isSome = true) → ∃ pl, fs.mapM (fun f => (P.info? f.type).map fun i => (f.offset, i.size)) = some pl ∧
  ∀ (k : Nat) (q : Nat × Nat), ((fs.map fun f => (f.offset, f.type))[k]?).bind (fun (p : Nat × Nat) => (E.ty p.2).map fun fi => (p.1, fi.size)) = some q → pl[k]? = some q
 | [], _ => ⟨[], by simp, by simp⟩
 | f :: fs, h => by
  obtain ⟨pl, h1, h2⟩ := places_ok hE fs (fun g hg => h g (List.mem_cons_of_mem _ hg))
  obtain ⟨info, hi⟩ := Option.isSome_iff_exists.1 (h f (by simp))
  refine ⟨(f.offset, info.size) :: pl, by simp [List.mapM_cons, hi, h1], fun k q hq => ?_⟩
  cases k with
  | zero =>
   simp at hq
   obtain ⟨fi, e1, rfl⟩ := hq
   obtain ⟨d, info', z, _, hi', _, hs, _⟩ := hE.ty _ _ e1
   rw [hi] at hi'; cases hi'
   simp [hs]
  | succ k => simpa using h2 k q (by simpa using hq)
theorem build_ok (hE : EnvOk P E) {t : TypeId} {ps' : Array (Nat × Value)} {ps : List (Nat × AV)} {x : AV} (hp : RepP m S w ps'.toList ps) (h : buildA E t ps = some x) :
  ∃ v', (Instr.build t ps').run P w = .ok v' w ∧ Rep m S w false v' x := by
 unfold buildA at h
 cases hi : E.ty t with
 | none => simp [hi] at h
 | some i =>
  simp only [hi, Option.bind_eq_bind, Option.bind_some] at h
  obtain ⟨d, info, z, hu, hinf, hd, hs, hby, hz, hzc, hz1, hzl, hag, hnag, hst, hcm⟩ := hE.ty t i hi
  have hzr : RepL m S w false z.cells.toList i.zero := (zero_rep hzc hz1).weak
  split at h
  ·rename_i fs hfs
   obtain ⟨fields, rfl, hff⟩ := desc_struct (hd.symm.trans hfs)
   obtain ⟨pl, g1, g2⟩ := places_ok hE fields.toList (fun f hf => ((hst fields rfl).1 f hf).1)
   cases hr : fillA (fun k => (fs[k]?).bind fun p => (E.ty p.2).bind fun fi => some (p.1, fi.size)) i.zero ps with
   | none => simp [hr] at h
   | some r =>
    simp [hr] at h; subst h
    obtain ⟨R, k1, k2, k3, _⟩ := fill_ok (place' := fun k => pl.toArray[k]?) (fun k q hq => by
     have := g2 k q (by
      rw [← hff, ← hq]
      congr 1
      funext p
      cases E.ty p.2 <;> rfl)
     simpa using this) hp hzr hz1 hr
    refine ⟨.agg R, run_build w t ps' R ?_, by simpa using Rep.agg false R.toList r k2 k3⟩
    unfold Program.built
    simp only [hinf, hu, hz, g1, k1]
  ·rename_i n e hfs
   obtain rfl := desc_array (hd.symm.trans hfs)
   cases hei : E.ty e with
   | none => simp [hei] at h
   | some ei =>
    simp only [hei, Option.bind_some] at h
    cases hr : fillA (fun k => some (k * ei.size, ei.size)) i.zero ps with
    | none => simp [hr] at h
    | some r =>
     simp [hr] at h; subst h
     obtain ⟨d2, info2, z2, _, hi2, _, hs2, _⟩ := hE.ty _ _ hei
     obtain ⟨R, k1, k2, k3, _⟩ := fill_ok (place' := fun k => some (k * info2.size, info2.size)) (fun k q hq => by rw [hs2]; exact hq) hp hzr hz1 hr
     refine ⟨.agg R, run_build w t ps' R ?_, by simpa using Rep.agg false R.toList r k2 k3⟩
     unfold Program.built
     simp only [hinf, hu, hz, hi2, k1]
  ·cases h
theorem intBin_ok {op : BinOp} {k : IntKind} {a b : Int} {x : AV} (h : intBin op k a b = some x) :
  ∃ v', (match op with
  | .add | .sub | .mul => Op.intArith op k a b
  | .quo | .rem => Op.intDiv op k a b
  | .and | .or | .xor | .andNot => Op.intBits op k a b
  | _ => Op.intCmp op a b : Sem Value).run P w = .ok v' w ∧ Rep m S w false v' x := by
 cases op
 case add => obtain rfl := Option.some.inj h; exact ⟨_, rfl, .int _ _ _⟩
 case sub => obtain rfl := Option.some.inj h; exact ⟨_, rfl, .int _ _ _⟩
 case mul => obtain rfl := Option.some.inj h; exact ⟨_, rfl, .int _ _ _⟩
 case and => obtain rfl := Option.some.inj h; exact ⟨_, rfl, .int _ _ _⟩
 case or => obtain rfl := Option.some.inj h; exact ⟨_, rfl, .int _ _ _⟩
 case xor => obtain rfl := Option.some.inj h; exact ⟨_, rfl, .int _ _ _⟩
 case andNot => obtain rfl := Option.some.inj h; exact ⟨_, rfl, .int _ _ _⟩
 case eql => obtain rfl := Option.some.inj h; exact ⟨_, rfl, .bool _ _⟩
 case neq => obtain rfl := Option.some.inj h; exact ⟨_, rfl, .bool _ _⟩
 case lss => obtain rfl := Option.some.inj h; exact ⟨_, rfl, .bool _ _⟩
 case leq => obtain rfl := Option.some.inj h; exact ⟨_, rfl, .bool _ _⟩
 case gtr => obtain rfl := Option.some.inj h; exact ⟨_, rfl, .bool _ _⟩
 case geq => obtain rfl := Option.some.inj h; exact ⟨_, rfl, .bool _ _⟩
 case quo =>
  by_cases hb : b = 0
  ·simp [intBin, hb] at h
  ·simp [intBin, hb] at h; subst h
   exact ⟨_, by simp [Op.intDiv, hb], .int _ _ _⟩
 case rem =>
  by_cases hb : b = 0
  ·simp [intBin, hb] at h
  ·simp [intBin, hb] at h; subst h
   exact ⟨_, by simp [Op.intDiv, hb], .int _ _ _⟩
 all_goals simp [intBin] at h
theorem bytes_less : ∀ (x y : List UInt8), Op.bytesLess x y = lessN (x.map UInt8.toNat) (y.map UInt8.toNat)
 | [], [] => rfl
 | _ :: _, [] => rfl
 | [], _ :: _ => rfl
 | a :: x, b :: y => by
  have h1 : decide (a < b) = Nat.blt a.toNat b.toNat := by
   cases hb : Nat.blt a.toNat b.toNat
   ·simp only [decide_eq_false_iff_not, UInt8.lt_iff_toNat_lt]
    intro hc
    have : Nat.blt a.toNat b.toNat = true := by rw [Nat.blt_eq]; exact hc
    rw [this] at hb; cases hb
   ·simp only [decide_eq_true_eq, UInt8.lt_iff_toNat_lt]
    rwa [Nat.blt_eq] at hb
  have h2 : (a == b) = Nat.beq a.toNat b.toNat := by
   cases hb : Nat.beq a.toNat b.toNat
   ·rw [beq_eq_false_iff_ne]
    intro hc
    rw [hc, Nat.beq_refl] at hb; cases hb
   ·rw [beq_iff_eq]
    exact UInt8.toNat_inj.1 (Nat.eq_of_beq_eq_true hb)
  show (decide (a < b) || (a == b && Op.bytesLess x y)) = (Nat.blt a.toNat b.toNat || (Nat.beq a.toNat b.toNat && lessN (x.map UInt8.toNat) (y.map UInt8.toNat)))
  rw [h1, h2, bytes_less x y]
theorem map_toNat_inj : ∀ {x y : List UInt8}, x.map UInt8.toNat = y.map UInt8.toNat → x = y
 | [], [], _ => rfl
 | [], _ :: _, h => by cases h
 | _ :: _, [], h => by cases h
 | a :: x, b :: y, h => by
  simp only [List.map_cons, List.cons.injEq] at h
  rw [UInt8.toNat_inj.1 h.1, map_toNat_inj h.2]
theorem bytes_eq (x y : List UInt8) : (x == y) = (x.map UInt8.toNat == y.map UInt8.toNat) := by
 cases h : (x.map UInt8.toNat == y.map UInt8.toNat)
 ·rw [beq_eq_false_iff_ne] at h ⊢
  exact fun e => h (by rw [e])
 ·rw [beq_iff_eq] at h ⊢
  exact map_toNat_inj h
theorem strBin_ok {op : BinOp} {a b : ByteArray} {la lb : List Nat} {x : AV} (ha : a.data.toList.map UInt8.toNat = la) (hb : b.data.toList.map UInt8.toNat = lb) (h : strBin op la lb = some x) :
  ∃ v', (Op.stringOp op a b).run P w = .ok v' w ∧ Rep m S w false v' x := by
 have hsa := str_size ha
 have hsb := str_size hb
 have he := bytes_eq a.data.toList b.data.toList
 have hl := bytes_less a.data.toList b.data.toList
 rw [ha, hb] at he hl
 cases op
 case eql => obtain rfl := Option.some.inj h; exact ⟨_, by simp only [Op.stringOp, Lib.toList_data, he]; rfl, .bool _ _⟩
 case neq => obtain rfl := Option.some.inj h; exact ⟨_, by simp only [Op.stringOp, Lib.toList_data, he]; rfl, .bool _ _⟩
 case lss => obtain rfl := Option.some.inj h; exact ⟨_, by simp only [Op.stringOp, Lib.toList_data, hl]; rfl, .bool _ _⟩
 case leq => obtain rfl := Option.some.inj h; exact ⟨_, by simp only [Op.stringOp, Lib.toList_data, he, hl]; rfl, .bool _ _⟩
 case gtr => obtain rfl := Option.some.inj h; exact ⟨_, by simp only [Op.stringOp, Lib.toList_data, he, hl]; rfl, .bool _ _⟩
 case geq => obtain rfl := Option.some.inj h; exact ⟨_, by simp only [Op.stringOp, Lib.toList_data, hl]; rfl, .bool _ _⟩
 case add =>
  simp only [strBin] at h
  by_cases hle : la.length + lb.length ≤ mostBytes
  ·rw [if_pos hle] at h
   obtain rfl := Option.some.inj h
   refine ⟨.string (a ++ b), ?_, .str _ _ _ ?_⟩
   ·unfold mostBytes at hle
    have : ¬ ((a.size + b.size : Nat) : Int) > IntKind.i64.max := by
     have : IntKind.i64.max = 9223372036854775807 := by decide
     omega
    simp only [Op.stringOp]
    rw [if_neg this]; rfl
   ·rw [show (a ++ b).data.toList = a.data.toList ++ b.data.toList by simp [ByteArray.data_append], List.map_append, ha, hb]
  ·rw [if_neg hle] at h; cases h
 all_goals simp [strBin] at h
theorem desc_ptr {d : TypeDesc} {e : Nat} (h : descA d = .ptr e) : d = .pointer e := by
 cases d <;> simp [descA] at h
 rw [h]
theorem desc_func {d : TypeDesc} (h : descA d = .func) : ∃ a b c, d = .func a b c := by
 cases d <;> simp [descA] at h
 exact ⟨_, _, _, rfl⟩
theorem desc_iface {d : TypeDesc} (h : descA d = .iface) : ∃ a, d = .interface a := by
 cases d <;> simp [descA] at h
 exact ⟨_, rfl⟩
theorem eqFs_ok (hE : EnvOk P E) {eq : TypeId → AV → AV → Option Bool} {d : Nat} {us vs : List Value} {xs ys : List AV} (hx : RepL m S w false us xs) (hx1 : ∀ x ∈ xs, one x = true) (hy : RepL m S w false vs ys) (hy1 : ∀ x ∈ ys, one x = true)
  (heq : ∀ {t : TypeId} {x' y' : Value} {x y : AV} {r : Bool}, Rep m S w false x' x → Rep m S w false y' y → eq t x y = some r → (Op.equalIn d t x' y').run P w = .ok r w) :
  ∀ (fs : List Field) {r : Bool}, (∀ f ∈ fs, f.name ≠ "_") → eqFs E eq xs ys (fs.map fun f => (f.offset, f.type)) = some r → (Op.eqFields d us.toArray vs.toArray fs).run P w = .ok r w
 | [], r, _, h => by
  obtain rfl := Option.some.inj h
  simp [Op.eqFields]
 | f :: fs, r, hn, h => by
  simp only [List.map_cons, eqFs, Option.bind_eq_bind] at h
  cases hfi : E.ty f.type with
  | none => simp [hfi] at h
  | some fi =>
   simp only [hfi, Option.bind_some] at h
   split at h
   ·rename_i hc
    cases ha : mkV fi.desc.isAgg ((xs.drop f.offset).take fi.size) with
    | none => simp [ha] at h
    | some a =>
     cases hb : mkV fi.desc.isAgg ((ys.drop f.offset).take fi.size) with
     | none => simp [ha, hb] at h
     | some b =>
      simp only [ha, hb, Option.bind_some] at h
      obtain ⟨a', p1, p2⟩ := run_part (hE.ty _ fi hfi) hx hx1 hc.1 ha w
      obtain ⟨b', q1, q2⟩ := run_part (hE.ty _ fi hfi) hy hy1 hc.2 hb w
      have hnm : f.name ≠ "_" := hn f (by simp)
      cases he : eq f.type a b with
      | none => simp [he] at h
      | some c =>
       have hr := heq p2 q2 he
       simp only [he, Option.bind_some] at h
       cases c with
       | true =>
        simp at h
        have := eqFs_ok hE hx hx1 hy hy1 heq fs (fun g hg => hn g (List.mem_cons_of_mem _ hg)) h
        simp [Op.eqFields, hnm, Sem.run_bind, p1, q1, hr, this]
       | false =>
        simp at h; subst h
        simp [Op.eqFields, hnm, Sem.run_bind, p1, q1, hr]
   ·cases h
theorem eqItems_ok (hE : EnvOk P E) {eq : TypeId → AV → AV → Option Bool} {d : Nat} {e : TypeId} {ei : TyI} (hei : E.ty e = some ei) {us vs : List Value} {xs ys : List AV} (hx : RepL m S w false us xs) (hx1 : ∀ x ∈ xs, one x = true) (hy : RepL m S w false vs ys) (hy1 : ∀ x ∈ ys, one x = true)
  (heq : ∀ {t : TypeId} {x' y' : Value} {x y : AV} {r : Bool}, Rep m S w false x' x → Rep m S w false y' y → eq t x y = some r → (Op.equalIn d t x' y').run P w = .ok r w) :
  ∀ (is : List Nat) {r : Bool}, eqFs E eq xs ys (is.map fun k => (k * ei.size, e)) = some r → (Op.eqItems d e ei.size us.toArray vs.toArray is).run P w = .ok r w
 | [], r, h => by
  obtain rfl := Option.some.inj h
  simp [Op.eqItems]
 | j :: is, r, h => by
  simp only [List.map_cons, eqFs, Option.bind_eq_bind, hei, Option.bind_some] at h
  split at h
  ·rename_i hc
   cases ha : mkV ei.desc.isAgg ((xs.drop (j * ei.size)).take ei.size) with
   | none => simp [ha] at h
   | some a =>
    cases hb : mkV ei.desc.isAgg ((ys.drop (j * ei.size)).take ei.size) with
    | none => simp [ha, hb] at h
    | some b =>
     simp only [ha, hb, Option.bind_some] at h
     obtain ⟨a', p1, p2⟩ := run_part (hE.ty _ ei hei) hx hx1 hc.1 ha w
     obtain ⟨b', q1, q2⟩ := run_part (hE.ty _ ei hei) hy hy1 hc.2 hb w
     cases he : eq e a b with
     | none => simp [he] at h
     | some c =>
      have hr := heq p2 q2 he
      simp only [he, Option.bind_some] at h
      cases c with
      | true =>
       simp at h
       have := eqItems_ok hE hei hx hx1 hy hy1 heq is h
       simp [Op.eqItems, Sem.run_bind, p1, q1, hr, this]
      | false =>
       simp at h; subst h
       simp [Op.eqItems, Sem.run_bind, p1, q1, hr]
  ·cases h
set_option maxHeartbeats 2000000 in
theorem eq_ok (hE : EnvOk P E) : ∀ (k d : Nat), k + 1 ≤ d → ∀ {t : TypeId} {x' y' : Value} {x y : AV} {r : Bool}, Rep m S w false x' x → Rep m S w false y' y → eqA E k t x y = some r →
  (Op.equalIn d t x' y').run P w = .ok r w := by
 intro k
 induction k with
 | zero => intro d _ t x' y' x y r _ _ h; simp [eqA] at h
 | succ k ih =>
  intro d hkd t x' y' x y r hx hy h
  obtain ⟨d, rfl⟩ : ∃ q, d = q + 1 := ⟨d - 1, by omega⟩
  unfold eqA at h
  cases hi : E.ty t with
  | none => simp [hi] at h
  | some i =>
   simp only [hi, Option.bind_eq_bind, Option.bind_some] at h
   obtain ⟨ds, info, z, hu, hinf, hd, hs, hby, hz, hzc, hz1, hzl, hag, hnag, hst, hcm⟩ := hE.ty t i hi
   split at h
   ·rename_i a b hds
    obtain rfl := rep_bool hx; obtain rfl := rep_bool hy
    obtain rfl := Option.some.inj h
    have : ds = .bool := by rw [hd] at hds; cases ds <;> simp [descA] at hds; rfl
    subst this
    simp [Op.equalIn, run_underlying hu]
   ·rename_i k0 ka a kb b hds
    obtain rfl := rep_int hx; obtain rfl := rep_int hy
    obtain rfl := desc_int (hd.symm.trans hds)
    split at h
    ·rename_i hk
     obtain rfl := Option.some.inj h
     simp [Op.equalIn, run_underlying hu, hk]
    ·cases h
   ·rename_i a b hds
    obtain ⟨sa, rfl, ha⟩ := rep_str hx
    obtain ⟨sb, rfl, hb⟩ := rep_str hy
    obtain rfl := desc_str (hd.symm.trans hds)
    obtain rfl := Option.some.inj h
    have he := bytes_eq sa.data.toList sb.data.toList
    rw [ha, hb] at he
    rw [Go.run_equalIn_string w d t sa sb hu, Lib.toList_data, Lib.toList_data, he]
   ·rename_i e hds
    obtain rfl := desc_ptr (hd.symm.trans hds)
    cases hx; cases hy
    obtain rfl := Option.some.inj h
    simp [Op.equalIn, run_underlying hu]
   ·rename_i e _ hds
    obtain rfl := desc_ptr (hd.symm.trans hds)
    cases hx; cases hy
    obtain rfl := Option.some.inj h
    simp [Op.equalIn, run_underlying hu]
   ·rename_i e _ _ hds
    obtain rfl := desc_ptr (hd.symm.trans hds)
    cases hx; cases hy
    obtain rfl := Option.some.inj h
    simp [Op.equalIn, run_underlying hu]
   ·rename_i e _ hds
    obtain rfl := desc_ptr (hd.symm.trans hds)
    cases hx; cases hy
    obtain rfl := Option.some.inj h
    simp [Op.equalIn, run_underlying hu]
   ·rename_i e _ _ hds
    obtain rfl := desc_ptr (hd.symm.trans hds)
    cases hx; cases hy
    obtain rfl := Option.some.inj h
    simp [Op.equalIn, run_underlying hu]
   ·rename_i hds
    obtain ⟨_, _, _, rfl⟩ := desc_func (hd.symm.trans hds)
    cases hx; cases hy
    obtain rfl := Option.some.inj h
    simp [Op.equalIn, run_underlying hu]
   ·rename_i hds
    obtain ⟨_, _, _, rfl⟩ := desc_func (hd.symm.trans hds)
    cases hx; cases hy
    obtain rfl := Option.some.inj h
    simp [Op.equalIn, run_underlying hu]
   ·rename_i hds
    obtain ⟨_, _, _, rfl⟩ := desc_func (hd.symm.trans hds)
    cases hx; cases hy
    obtain rfl := Option.some.inj h
    simp [Op.equalIn, run_underlying hu]
   ·rename_i hds
    obtain ⟨_, rfl⟩ := desc_iface (hd.symm.trans hds)
    cases hx; cases hy
    obtain rfl := Option.some.inj h
    simp [Op.equalIn, run_underlying hu]
   ·rename_i hds
    obtain ⟨_, rfl⟩ := desc_iface (hd.symm.trans hds)
    cases hx; cases hy
    obtain rfl := Option.some.inj h
    simp [Op.equalIn, run_underlying hu]
   ·rename_i hds
    obtain ⟨_, rfl⟩ := desc_iface (hd.symm.trans hds)
    cases hx; cases hy
    obtain rfl := Option.some.inj h
    simp [Op.equalIn, run_underlying hu]
   ·rename_i tx vx ty vy hds
    obtain ⟨_, rfl⟩ := desc_iface (hd.symm.trans hds)
    cases hx with
    | iface _ _ v1 _ hv1 =>
     cases hy with
     | iface _ _ v2 _ hv2 =>
      split at h
      ·rename_i hne
       obtain rfl := Option.some.inj h
       simp [Op.equalIn, run_underlying hu, hne]
      ·rename_i hne
       have heq : tx = ty := Decidable.of_not_not hne
       subst heq
       split at h
       ·rename_i k0 ka a kb b hty
        obtain rfl := rep_int hv1; obtain rfl := rep_int hv2
        cases hti : E.ty tx with
        | none => simp [hti] at hty
        | some j =>
         simp [hti] at hty
         obtain ⟨dj, ij, zj, hu2, hi2, hd2, _, _, _, _, _, _, _, _, _, hcmp⟩ := hE.ty tx j hti
         obtain rfl := desc_int (hd2.symm.trans hty)
         have hc := hcmp _ rfl
         split at h
         ·rename_i hk
          obtain rfl := Option.some.inj h
          cases d with
          | zero => omega
          | succ d => simp [Op.equalIn, run_underlying hu, run_underlying hu2, typeInfo, hi2, hc, hk]
         ·cases h
       ·cases h
   ·rename_i fs xs ys hds
    obtain ⟨fields, rfl, hff⟩ := desc_struct (hd.symm.trans hds)
    subst hff
    split at h
    case isFalse => cases h
    cases hx with
    | agg _ us _ hx hx1 =>
     cases hy with
     | agg _ vs _ hy hy1 =>
      have hfo : P.fieldsOf t = fields := by simp [Program.fieldsOf, hu]
      rw [Go.run_equalIn_struct w d t _ _ (by rw [hfo]; exact hu) (hst _ rfl).2, hfo]
      exact eqFs_ok hE hx hx1 hy hy1 (fun a b c => ih d (by omega) a b c) fields.toList (fun f hf => ((hst _ rfl).1 f hf).2) h
   ·rename_i n e xs ys hds
    obtain rfl := desc_array (hd.symm.trans hds)
    cases hei : E.ty e with
    | none => simp [hei] at h
    | some ei =>
     simp only [hei, Option.bind_some] at h
     split at h
     ·obtain ⟨_, infe, _, _, hinfe, _, hse, _⟩ := hE.ty e ei hei
      cases hx with
      | agg _ us _ hx hx1 =>
       cases hy with
       | agg _ vs _ hy hy1 =>
        have hc : P.cellsOf e = ei.size := by simp [Program.cellsOf, hinfe, hse]
        rw [Go.run_equalIn_array w d _ _ hu hinfe, hc]
        exact eqItems_ok hE hei hx hx1 hy hy1 (fun a b c => ih d (by omega) a b c) _ h
     ·cases h
   ·cases h
end ops
end Go.Px
set_option linter.unusedVariables false
set_option linter.unusedSimpArgs false
namespace Go.Px
open Go Go.RowKit
section ops
variable {P : Program} {E : Env} {base : Nat} {m : Mu} {S : Sett} {H : Heap} {w : World}
theorem rep_nilIface {nf : Bool} {v : Value} (h : Rep m S w nf v .nilIface) : v = .nilIface := by cases h; rfl
theorem constO_val {o : Operand} (h : isConstO o = true) : ∃ v, o = .const v := by
 cases o <;> simp [isConstO] at h
 exact ⟨_, rfl⟩
theorem plainT_ok (hE : EnvOk P E) : ∀ (d D : Nat) {t : TypeId}, d ≤ D → plainT E d t = true → P.eqGuardType D t = false
 | 0, D, t, _, h => by simp [plainT] at h
 | d + 1, 0, t, hd, _ => by omega
 | d + 1, D + 1, t, hdD, h => by
  simp only [plainT] at h
  cases hi : E.ty t with
  | none => simp [hi] at h
  | some i =>
   simp only [hi] at h
   obtain ⟨ds, info, z, hu, hinf, hd, hs, hby, hz, hzc, hz1, hzl, hag, hnag, hst, hcm⟩ := hE.ty t i hi
   simp only [Program.eqGuardType, hu]
   cases ds with
   | struct fs =>
    simp only [descA] at hd
    rw [hd] at h
    simp only [List.all_eq_true] at h
    rw [Array.any_eq_false]
    intro j hj
    have := h (fs[j].offset, fs[j].type) (List.mem_map.2 ⟨fs[j], by simp, rfl⟩)
    simp [plainT_ok hE d D (by omega) this]
   | array n e =>
    simp only [descA] at hd
    rw [hd] at h
    exact plainT_ok hE d D (by omega) h
   | interface ms =>
    simp only [descA] at hd
    rw [hd] at h
    cases h
   | _ => rfl
theorem eqA_agg (hE : EnvOk P E) {k : Nat} {t : TypeId} {xs ys : List AV} {r : Bool} (h : eqA E k t (.agg xs) (.agg ys) = some r) : P.eqGuardType P.depth t = false := by
 cases k with
 | zero => simp [eqA] at h
 | succ k =>
  simp only [eqA] at h
  cases hi : E.ty t with
  | none => simp [hi] at h
  | some i =>
   simp only [hi, Option.bind_eq_bind, Option.bind_some] at h
   obtain ⟨ds, info, z, hu, hinf, hd, hs, hby, hz, hzc, hz1, hzl, hag, hnag, hst, hcm⟩ := hE.ty t i hi
   cases hds : i.desc <;> simp only [hds] at h <;> try (cases h; done)
   ·rename_i n e
    obtain rfl := desc_array (hd.symm.trans hds)
    cases hei : E.ty e with
    | none => simp [hei] at h
    | some ei =>
     simp only [hei, Option.bind_some] at h
     split at h
     ·rename_i k0 hk0
      obtain ⟨de, _, _, hue, _, hde, _⟩ := hE.ty e ei hei
      obtain rfl := desc_int (hde.symm.trans hk0)
      obtain ⟨q, hq⟩ : ∃ q, P.depth = q + 2 := ⟨_, rfl⟩
      rw [hq]
      simp [Program.eqGuardType, hu, hue]
     ·cases h
   ·split at h
    ·rename_i hp
     exact plainT_ok hE 8 P.depth (by simp [Program.depth, Made.depth]; omega) hp
    ·cases h
theorem run_eqGuard_plain {op : BinOp} {t : TypeId} {x y : Operand} {a b : Value} (h1 : ¬ (a = .nilIface ∧ b = .nilIface)) (h2 : ∀ xs ys, a = .agg xs → b = .agg ys → P.eqGuardType P.depth t = false) (w : World) :
  (eqGuard op t x y a b).run P w = .ok () w := by
 unfold eqGuard
 cases op <;> try rfl
 all_goals
  simp only [Bool.not_true, Bool.false_eq_true, if_false]
  split
  ·exact absurd ⟨rfl, rfl⟩ h1
  ·rename_i xs ys
   have := h2 xs ys rfl rfl
   simp [this]
  ·rfl
theorem rep_agg {v : Value} {x : AV} {cs : Array Value} (h : Rep m S w false v x) (e : v = .agg cs) : x = .undef ∨ ∃ xs, x = .agg xs := by
 cases h <;> first
  | (cases e; done)
  | exact .inl rfl
  | exact .inr ⟨_, rfl⟩
theorem rep_iface_nil {v : Value} {x : AV} (h : Rep m S w false v x) (e : v = .nilIface) : x = .undef ∨ x = .nilIface := by
 cases h <;> first
  | (cases e; done)
  | exact .inl rfl
  | exact .inr rfl
theorem eqA_undef {k : Nat} {t : TypeId} {x y : AV} {r : Bool} (h : eqA E k t x y = some r) : x ≠ .undef ∧ y ≠ .undef := by
 cases k with
 | zero => simp [eqA] at h
 | succ k =>
  constructor
  ·rintro rfl
   simp only [eqA] at h
   cases hi : E.ty t with
   | none => simp [hi] at h
   | some i =>
    simp only [hi, Option.bind_eq_bind, Option.bind_some] at h
    cases hds : i.desc <;> simp [hds] at h
  ·rintro rfl
   simp only [eqA] at h
   cases hi : E.ty t with
   | none => simp [hi] at h
   | some i =>
    simp only [hi, Option.bind_eq_bind, Option.bind_some] at h
    cases hds : i.desc <;> cases x <;> simp [hds] at h
theorem eqA_res {k : Nat} {t : TypeId} {x y : AV} {r : Bool} (h : eqA E k t x y = some r) : (∀ k r M, x ≠ .res k r M) ∧ ∀ k r M, y ≠ .res k r M := by
 cases k with
 | zero => simp [eqA] at h
 | succ k =>
  constructor
  ·rintro k1 r1 M1 rfl
   simp only [eqA] at h
   cases hi : E.ty t with
   | none => simp [hi] at h
   | some i =>
    simp only [hi, Option.bind_eq_bind, Option.bind_some] at h
    cases hds : i.desc <;> simp [hds] at h
  ·rintro k1 r1 M1 rfl
   simp only [eqA] at h
   cases hi : E.ty t with
   | none => simp [hi] at h
   | some i =>
    simp only [hi, Option.bind_eq_bind, Option.bind_some] at h
    cases hds : i.desc <;> cases x <;> simp [hds] at h
theorem run_eql_other (op : BinOp) (hop : op = .eql ∨ op = .neq) {t : TypeId} {x' y' : Value} {x y : AV} (hx : Rep m S w false x' x) (hy : Rep m S w false y' y) (hux : x ≠ .undef) (huy : y ≠ .undef) (hrx : ∀ k r M, x ≠ .res k r M) (hry : ∀ k r M, y ≠ .res k r M)
  (hni : ∀ k a k' b, x = .int k a → y = .int k' b → False) (hns : ∀ a b, x = .str a → y = .str b → False) :
  binOp op t x' y' = (if op = .eql then (do pure (.bool (← Op.equal t x' y'))) else (do pure (.bool (!(← Op.equal t x' y'))))) := by
 rcases hop with rfl | rfl <;>
 (cases hx <;> first
  | exact absurd rfl hux
  | exact absurd rfl (hrx _ _ _)
  | (cases hy <;> first
    | exact absurd rfl huy
    | exact absurd rfl (hry _ _ _)
    | rfl
    | exact (hni _ _ _ _ rfl rfl).elim
    | exact (hns _ _ rfl rfl).elim))
theorem wrap_small (k : IntKind) (n : Nat) (h : n < 4) : k.wrap (n : Int) = n := by
  cases k <;> simp only [IntKind.wrap, IntKind.bits, IntKind.signed, Nat.reduceSub, Int.reducePow, Bool.true_and, Bool.false_and, Bool.false_eq_true, if_false]
  all_goals first
    | omega
    | (split
       · rename_i h2
         have h2 := of_decide_eq_true h2
         omega
       · omega)
theorem and_small (k : IntKind) (n : Int) (h0 : 0 ≤ n) (j : Nat) (hj : j = 1 ∨ j = 2) : (BitVec.ofInt k.bits n &&& BitVec.ofInt k.bits ((2 ^ j - 1 : Nat) : Int)).toNat = n.toNat % 2 ^ j := by
 obtain ⟨a, rfl⟩ := Int.eq_ofNat_of_zero_le h0
 have hb : 8 ≤ k.bits := by cases k <;> decide
 have h2 : 2 ^ j - 1 < 2 ^ k.bits := by
  have h3 : 2 ^ j ≤ 2 ^ k.bits := Nat.pow_le_pow_right (by decide) (by omega)
  have h4 : 0 < 2 ^ j := Nat.pow_pos (by decide)
  omega
 simp only [BitVec.ofInt_natCast, BitVec.toNat_and, BitVec.toNat_ofNat, Int.toNat_natCast]
 rw [Nat.mod_eq_of_lt h2, Nat.and_two_pow_sub_one_eq_mod]
 have hd : 2 ^ j ∣ 2 ^ k.bits := Nat.pow_dvd_pow 2 (by omega)
 exact Nat.mod_mod_of_dvd a hd
theorem res_ok {op : BinOp} {t : TypeId} {xo yo : Operand} {k : IntKind} {n : Int} {r M : Nat} {y' : Value} {y q : AV} (h0 : 0 ≤ n) (h1 : n.toNat % M = r) (hy : Rep m S w false y' y) (h : resA op k r M y = some q) :
  ∃ v', (do eqGuard op t xo yo (.int k n) y'; binOp op t (.int k n) y' : Sem Value).run P w = .ok v' w ∧ Rep m S w false v' q := by
 unfold resA at h
 split at h
 ·rename_i k' c
  obtain rfl := rep_int hy
  split at h
  ·split at h
   ·rename_i hc
    obtain ⟨hc0, hM, hcb⟩ := hc
    cases h
    have hb : ¬ (c < 0) := by omega
    refine ⟨.int k (n.fdiv (2 ^ (min c.toNat k.bits))), by simp [Sem.run_bind, eqGuard, binOp, Op.shift, hb], ?_⟩
    rw [Nat.min_eq_left hcb]
    obtain ⟨a, rfl⟩ := Int.eq_ofNat_of_zero_le h0
    have hd : (a : Int).fdiv (2 ^ c.toNat) = ((a / 2 ^ c.toNat : Nat) : Int) := by
     rw [Int.fdiv_eq_ediv_of_nonneg _ (Int.le_of_lt (Int.pow_pos (by decide)))]
     simp
    rw [hd]
    refine .res _ _ _ _ _ (Int.natCast_nonneg _) ?_
    simp only [Int.toNat_natCast] at h1 ⊢
    subst h1
    obtain ⟨e, rfl⟩ := Nat.dvd_of_mod_eq_zero hM
    have hp : 0 < 2 ^ c.toNat := Nat.pow_pos (by decide)
    rw [Nat.mul_div_cancel_left _ hp, Nat.mod_mul_right_div_self]
   ·cases h
  ·split at h
   ·rename_i hc
    obtain ⟨rfl, hc⟩ := hc
    cases h
    have hk : intBin .and k n c = some (.int k ((r % (c.toNat + 1) : Nat) : Int)) := by
     simp only [intBin]
     congr 2
     rcases hc with ⟨rfl, hM⟩ | ⟨rfl, hM⟩
     ·have := and_small k n h0 1 (.inl rfl)
      simp only [Nat.pow_one, Nat.reduceSub] at this
      rw [show ((1 : Nat) : Int) = 1 from rfl] at this
      rw [this, wrap_small _ _ (by omega)]
      subst h1
      congr 1
      exact (Nat.mod_mod_of_dvd _ (Nat.dvd_of_mod_eq_zero hM)).symm
     ·have := and_small k n h0 2 (.inr rfl)
      simp only [Nat.reducePow, Nat.reduceSub] at this
      rw [show ((3 : Nat) : Int) = 3 from rfl] at this
      rw [this, wrap_small _ _ (by omega)]
      subst h1
      congr 1
      exact (Nat.mod_mod_of_dvd _ (Nat.dvd_of_mod_eq_zero hM)).symm
    obtain ⟨v', g1, g2⟩ := intBin_ok (P := P) (m := m) (S := S) (w := w) hk
    refine ⟨v', ?_, g2⟩
    rw [Sem.run_bind, run_eqGuard_plain (by simp) (by simp), Result.andThen_ok, ← g1]
    simp [binOp]
   ·cases h
  ·split at h
   ·rename_i hc
    obtain ⟨rfl, hc0, hM⟩ := hc
    cases h
    have hk : intBin .rem k n c = some (.int k ((r % c.toNat : Nat) : Int)) := by
     simp only [intBin]
     rw [if_neg (by omega)]
     congr 2
     obtain ⟨a, rfl⟩ := Int.eq_ofNat_of_zero_le h0
     obtain ⟨b, rfl⟩ := Int.eq_ofNat_of_zero_le (Int.le_of_lt hc0)
     simp only [Int.toNat_natCast] at h1 hM ⊢
     subst h1
     rw [Nat.mod_mod_of_dvd _ (Nat.dvd_of_mod_eq_zero hM)]
     exact Int.ofNat_tmod a b
    obtain ⟨v', g1, g2⟩ := intBin_ok (P := P) (m := m) (S := S) (w := w) hk
    refine ⟨v', ?_, g2⟩
    rw [Sem.run_bind, run_eqGuard_plain (by simp) (by simp), Result.andThen_ok, ← g1]
    simp [binOp]
   ·cases h
  ·cases h
 ·cases h
theorem bin_ok (hE : EnvOk P E) {op : BinOp} {t : TypeId} {xo yo : Operand} {x' y' : Value} {x y r : AV} (hx : Rep m S w false x' x) (hy : Rep m S w false y' y) (h : binA E op t xo yo x y = some r) :
  ∃ v', (do eqGuard op t xo yo x' y'; binOp op t x' y' : Sem Value).run P w = .ok v' w ∧ Rep m S w false v' r := by
 unfold binA at h
 split at h
 ·cases hx with
  | res _ k n r M h0 h1 => exact res_ok h0 h1 hy h
 rename_i hnr
 clear hnr
 unfold binA0 at h
 split at h
 ·rename_i k a k2 b
  obtain rfl := rep_int hx; obtain rfl := rep_int hy
  split at h
  ·cases h
  ·rename_i hb
   obtain rfl := Option.some.inj h
   exact ⟨_, by simp [Sem.run_bind, eqGuard, binOp, Op.shift, hb], .int _ _ _⟩
 ·rename_i k a k2 b
  obtain rfl := rep_int hx; obtain rfl := rep_int hy
  split at h
  ·cases h
  ·rename_i hb
   obtain rfl := Option.some.inj h
   exact ⟨_, by simp [Sem.run_bind, eqGuard, binOp, Op.shift, hb], .int _ _ _⟩
 ·rename_i k a k2 b hn1 hn2
  obtain rfl := rep_int hx; obtain rfl := rep_int hy
  split at h
  ·rename_i hk
   subst hk
   obtain ⟨v', g1, g2⟩ := intBin_ok (P := P) (m := m) (S := S) (w := w) h
   refine ⟨v', ?_, g2⟩
   rw [Sem.run_bind, run_eqGuard_plain (by simp) (by simp), Result.andThen_ok, ← g1]
   cases op <;> first
    | exact (hn1 rfl).elim
    | exact (hn2 rfl).elim
    | simp [binOp]
  ·cases h
 ·rename_i a b hn1 hn2 hn3
  obtain ⟨sa, rfl, ha⟩ := rep_str hx
  obtain ⟨sb, rfl, hb⟩ := rep_str hy
  obtain ⟨v', g1, g2⟩ := strBin_ok (P := P) (m := m) (S := S) (w := w) ha hb h
  refine ⟨v', ?_, g2⟩
  rw [Sem.run_bind, run_eqGuard_plain (by simp) (by simp), Result.andThen_ok, ← g1]
  cases op <;> simp [binOp]
 ·obtain rfl := rep_nilIface hx; obtain rfl := rep_nilIface hy
  split at h
  ·rename_i hc
   cases he : eqA E 20 t .nilIface .nilIface with
   | none => simp [he] at h
   | some b =>
    simp [he] at h; subst h
    have hr := eq_ok hE 20 10000 (by omega) hx hy he
    refine ⟨.bool b, ?_, .bool _ _⟩
    have hg : (eqGuard .eql t xo yo .nilIface .nilIface).run P w = .ok () w := by
     rcases Bool.or_eq_true _ _ ▸ hc with q | q
     ·obtain ⟨v, rfl⟩ := constO_val q; simp [eqGuard]
     ·obtain ⟨v, rfl⟩ := constO_val q; simp [eqGuard]
    rw [Sem.run_bind, hg, Result.andThen_ok]
    simp [binOp, Op.equal, Op.maxDepth, hr]
  ·cases h
 ·obtain rfl := rep_nilIface hx; obtain rfl := rep_nilIface hy
  split at h
  ·rename_i hc
   cases he : eqA E 20 t .nilIface .nilIface with
   | none => simp [he] at h
   | some b =>
    simp [he] at h; subst h
    have hr := eq_ok hE 20 10000 (by omega) hx hy he
    refine ⟨.bool !b, ?_, .bool _ _⟩
    have hg : (eqGuard .neq t xo yo .nilIface .nilIface).run P w = .ok () w := by
     rcases Bool.or_eq_true _ _ ▸ hc with q | q
     ·obtain ⟨v, rfl⟩ := constO_val q; simp [eqGuard]
     ·obtain ⟨v, rfl⟩ := constO_val q; simp [eqGuard]
    rw [Sem.run_bind, hg, Result.andThen_ok]
    simp [binOp, Op.equal, Op.maxDepth, hr]
  ·cases h
 ·rename_i hn1 hn2 hn3 hn4
  cases he : eqA E 20 t x y with
  | none => simp [he] at h
  | some b =>
   simp [he] at h; subst h
   obtain ⟨hux, huy⟩ := eqA_undef he
   obtain ⟨hrx, hry⟩ := eqA_res he
   have hr := eq_ok hE 20 10000 (by omega) hx hy he
   refine ⟨.bool b, ?_, .bool _ _⟩
   rw [Sem.run_bind, run_eqGuard_plain (w := w) (fun ⟨e1, e2⟩ => by
     rcases rep_iface_nil hx e1 with q | q
     ·exact hux q
     ·rcases rep_iface_nil hy e2 with q2 | q2
      ·exact huy q2
      ·exact hn4 q q2)
    (fun us vs e1 e2 => by
     rcases rep_agg hx e1 with q | ⟨xs, rfl⟩
     ·exact absurd q hux
     ·rcases rep_agg hy e2 with q2 | ⟨ys, rfl⟩
      ·exact absurd q2 huy
      ·exact eqA_agg hE he), Result.andThen_ok, run_eql_other .eql (.inl rfl) hx hy hux huy hrx hry (fun k a k' b e1 e2 => by subst e1 e2; exact hn2 _ _ _ _ rfl rfl) (fun a b e1 e2 => by subst e1 e2; exact hn3 _ _ rfl rfl)]
   simp [Sem.run_bind, Op.equal, Op.maxDepth, hr]
 ·rename_i hn1 hn2 hn3 hn4
  cases he : eqA E 20 t x y with
  | none => simp [he] at h
  | some b =>
   simp [he] at h; subst h
   obtain ⟨hux, huy⟩ := eqA_undef he
   obtain ⟨hrx, hry⟩ := eqA_res he
   have hr := eq_ok hE 20 10000 (by omega) hx hy he
   refine ⟨.bool !b, ?_, .bool _ _⟩
   rw [Sem.run_bind, run_eqGuard_plain (w := w) (fun ⟨e1, e2⟩ => by
     rcases rep_iface_nil hx e1 with q | q
     ·exact hux q
     ·rcases rep_iface_nil hy e2 with q2 | q2
      ·exact huy q2
      ·exact hn4 q q2)
    (fun us vs e1 e2 => by
     rcases rep_agg hx e1 with q | ⟨xs, rfl⟩
     ·exact absurd q hux
     ·rcases rep_agg hy e2 with q2 | ⟨ys, rfl⟩
      ·exact absurd q2 huy
      ·exact eqA_agg hE he), Result.andThen_ok, run_eql_other .neq (.inr rfl) hx hy hux huy hrx hry (fun k a k' b e1 e2 => by subst e1 e2; exact hn2 _ _ _ _ rfl rfl) (fun a b e1 e2 => by subst e1 e2; exact hn3 _ _ rfl rfl)]
   simp [Sem.run_bind, Op.equal, Op.maxDepth, hr]
 ·cases h
theorem un_ok {op : UnOp} {x' : Value} {x r : AV} (hx : Rep m S w false x' x) (h : unA op x = some r) : ∃ v', (Op.unary op x').run P w = .ok v' w ∧ Rep m S w false v' r := by
 unfold unA at h
 split at h
 ·obtain rfl := rep_bool hx
  obtain rfl := Option.some.inj h
  exact ⟨_, rfl, .bool _ _⟩
 ·obtain rfl := rep_int hx
  obtain rfl := Option.some.inj h
  exact ⟨_, rfl, .int _ _ _⟩
 ·cases h
theorem rep_oneCell {nf : Bool} {v : Value} {x : AV} (h : Rep m S w nf v x) (h1 : one x = true) : v.oneCell' = true := by
 cases h <;> first
  | rfl
  | (simp [one] at h1)
theorem repL_oneCell {nf : Bool} : ∀ {vs : List Value} {xs : List AV}, RepL m S w nf vs xs → (∀ x ∈ xs, one x = true) → ∀ v ∈ vs, v.oneCell' = true
 | _, _, .nil _, _, v, hv => by cases hv
 | _, _, .cons _ v y vs ys h t, h1, u, hu => by
  rcases List.mem_cons.1 hu with rfl | hu
  ·exact rep_oneCell h (h1 y (by simp))
  ·exact repL_oneCell t (fun x hx => h1 x (List.mem_cons_of_mem _ hx)) u hu
theorem content_ok (hR : Rel P base m S H w) {sz n : Nat} {x' : Value} {x : AV} {cs : List AV} {acc : Acc} {tx : TypeId} (hx : Rep m S w false x' x) (h : contentA H sz x = some (n, cs, acc))
  (hk : (∃ e', P.underlying tx = some (.slice e')) ∨ P.underlying tx = some .string) :
  ∃ news, RepL m S w false news cs ∧ (∀ y ∈ cs, one y = true) ∧ cs.length = n * sz ∧ Src P sz tx x' n news w := by
 unfold contentA at h
 split at h
 ·rename_i n0 cs0 full
  split at h
  ·rename_i hl
   simp at h
   obtain ⟨rfl, rfl, _⟩ := h
   cases hx with
   | nilsl => exact ⟨[], .nil _, (fun _ h => by cases h), by simp, hk, fun _ => rfl, run_firstCells_none w sz 0 0 0, run_firstCells_none w.drew sz 0 0 0, by simp, fun _ h => by cases h⟩
   | sl _ a _ c _ _ h1 h2 h3 =>
    obtain ⟨vs, g1, g2, g3⟩ := h3.vals
    have hlen : vs.length = n0 * sz := by rw [g1.length]; exact hl
    have hc : ∀ j u, vs[j]? = some u → w.cell? (a.add j) = some u := fun j u hj => by
     have hne : cs0 ≠ [] := by
      intro e
      have hq := g1.length
      rw [e, List.length_nil] at hq
      have hlt := (List.getElem?_eq_some_iff.1 hj).1
      omega
     rw [h3.addr hne, addr_add]
     exact g3 j u hj
    exact ⟨vs, g1.weak, g2, hl, hk, fun _ => rfl, run_firstCells_some w sz n0 a n0 c vs hlen hc, run_firstCells_some w.drew sz n0 a n0 c vs hlen (by simpa using hc), hlen, repL_oneCell g1 g2⟩
  ·cases h
 ·rename_i nm off n0 sz'
  split at h
  ·rename_i e cells fr hrow
   split at h
   ·rename_i hc
    obtain ⟨rfl, hc2⟩ := hc
    simp at h
    obtain ⟨rfl, rfl, _⟩ := h
    cases hx with
    | own0 _ _ _ b o a h1 =>
     refine ⟨[], by simpa using RepL.nil false, (fun _ h => by simp at h), by simp, ?_⟩
     cases a with
     | none => exact ⟨hk, fun _ => rfl, run_firstCells_none w sz' 0 0 0, run_firstCells_none w.drew sz' 0 0 0, by simp, fun _ h => by cases h⟩
     | some a => exact ⟨hk, fun _ => rfl, run_firstCells_some w sz' 0 a 0 0 [] (by simp) (by simp), run_firstCells_some w.drew sz' 0 a 0 0 [] (by simp) (by simp), by simp, fun _ h => by cases h⟩
    | own _ _ _ _ c b o h1 h2 h3 =>
     obtain ⟨b', o', k, info, r⟩ := hR.obj nm _ hrow
     have hmu := r.mu
     rw [h1] at hmu; cases hmu
     obtain ⟨vs, g1, g2, g3⟩ := r.vals off (n0 * sz')
     have hlc : ((cells.drop off).take (n0 * sz')).length = n0 * sz' := by simp; omega
     have hlen : vs.length = n0 * sz' := by rw [g1.length, hlc]
     have hc : ∀ j u, vs[j]? = some u → w.cell? ((⟨b, o + off, none⟩ : Addr).add j) = some u := fun j u hj => by rw [addr_add]; exact g3 j u hj
     exact ⟨vs, g1, g2, hlc, hk, fun _ => rfl, run_firstCells_some w sz' n0 _ n0 c vs hlen hc, run_firstCells_some w.drew sz' n0 _ n0 c vs hlen (by simpa using hc), hlen, repL_oneCell g1 g2⟩
   ·cases h
  ·cases h
 ·rename_i l
  obtain ⟨s, rfl, hs⟩ := rep_str hx
  split at h
  ·rename_i h1
   subst h1
   simp at h
   obtain ⟨rfl, rfl, _⟩ := h
   have hsz := str_size hs
   refine ⟨byteCells s, ?_, (fun y hy => ?_), by simp, ?_⟩
   ·unfold byteCells
    subst hs
    rw [List.map_map]
    clear hx hsz
    induction s.data.toList with
    | nil => exact .nil _
    | cons c cs ih => exact .cons _ _ _ _ _ (.int _ _ _) ih
   ·obtain ⟨c, _, rfl⟩ := List.mem_map.1 hy
    rfl
   ·rw [← hsz]
    exact ⟨hk, fun _ => rfl, firstCells_string s w, firstCells_string s w.drew, by rw [byteCells_length, Nat.mul_one], fun u hu => by
     obtain ⟨_, _, rfl⟩ := List.mem_map.1 hu
     rfl⟩
  ·cases h
 ·cases h
theorem len_ok (hE : EnvOk P E) (hR : Rel P base m S H w) {t : TypeId} {x' : Value} {x r : AV} {acc : Acc} (hx : Rep m S w false x' x) (h : lenA E H t x = some (r, acc)) (ty : TypeId) :
  ∃ v', (Builtin.len_ #[t] ty #[x']).run P w = .ok v' w ∧ Rep m S w false v' r := by
 unfold lenA at h
 cases hi : E.ty t with
 | none => simp [hi] at h
 | some i =>
  simp only [hi, Option.bind_eq_bind, Option.bind_some] at h
  obtain ⟨ds, info, z, hu, hinf, hd, _⟩ := hE.ty t i hi
  split at h
  ·rename_i l hds
   obtain rfl := desc_str (hd.symm.trans hds)
   obtain ⟨s, rfl, hs⟩ := rep_str hx
   simp at h; obtain ⟨rfl, _⟩ := h
   have := str_size hs
   exact ⟨.int .i64 s.size, by simp [Builtin.len_, run_underlying hu, goInt], by rw [this]; exact .int _ _ _⟩
  ·rename_i e n cs f hds
   obtain rfl := desc_slice (hd.symm.trans hds)
   simp at h; obtain ⟨rfl, _⟩ := h
   cases hx with
   | nilsl => exact ⟨_, by simp only [Builtin.len_, List.getElem?_toArray, List.getElem?_cons_zero, Sem.run_bind, run_underlying hu, Result.andThen_ok, Sem.run_pure]; rfl, .int _ _ _⟩
   | sl => exact ⟨_, by simp only [Builtin.len_, List.getElem?_toArray, List.getElem?_cons_zero, Sem.run_bind, run_underlying hu, Result.andThen_ok, Sem.run_pure]; rfl, .int _ _ _⟩
  ·rename_i e nm off n sz hds
   obtain rfl := desc_slice (hd.symm.trans hds)
   simp at h; obtain ⟨rfl, _⟩ := h
   cases hx with
   | own0 => exact ⟨_, by simp only [Builtin.len_, List.getElem?_toArray, List.getElem?_cons_zero, Sem.run_bind, run_underlying hu, Result.andThen_ok, Sem.run_pure]; rfl, .int _ _ _⟩
   | own => exact ⟨_, by simp only [Builtin.len_, List.getElem?_toArray, List.getElem?_cons_zero, Sem.run_bind, run_underlying hu, Result.andThen_ok, Sem.run_pure]; rfl, .int _ _ _⟩
  ·rename_i k v hds
   obtain rfl := desc_map (hd.symm.trans hds)
   simp at h; obtain ⟨rfl, _⟩ := h
   cases hx
   exact ⟨_, by simp only [Builtin.len_, List.getElem?_toArray, List.getElem?_cons_zero, Sem.run_bind, run_underlying hu, Result.andThen_ok, Sem.run_pure]; rfl, .int _ _ _⟩
  ·rename_i k v nm hds
   obtain rfl := desc_map (hd.symm.trans hds)
   split at h
   ·rename_i kt vt es hm
    simp at h; obtain ⟨rfl, _⟩ := h
    obtain ⟨b, es', h1, h2, h3, h4, h5, _⟩ := hR.obj nm _ hm
    cases hx with
    | map _ b' hb' =>
     rw [h1] at hb'; cases hb'
     have := h4.length
     simp at this
     refine ⟨.int .i64 es'.size, ?_, by rw [this]; exact .int _ _ _⟩
     simp [Builtin.len_, run_underlying hu, goInt, getObj, Sem.run, h3]
   ·cases h
  ·cases h
theorem most_ok {big : Bool} : ∀ {xs' : List Value} {xs : List AV} {x' : Value} {x r : AV}, Rep m S w false x' x → RepL m S w false xs' xs → xs.foldlM (most2 big) x = some r →
  ∃ v', (xs'.foldlM (if big then Builtin.max2 else Builtin.min2) x' : Sem Value).run P w = .ok v' w ∧ Rep m S w false v' r
 | _, _, x', x, r, hx, .nil _, h => by
  simp at h; subst h
  exact ⟨x', by simp, hx⟩
 | _, _, x', x, r, hx, .cons _ v y vs ys hy t, h => by
  simp only [List.foldlM_cons, Option.bind_eq_bind] at h
  cases hq : most2 big x y with
  | none => simp [hq] at h
  | some q =>
   simp only [hq, Option.bind_some] at h
   unfold most2 at hq
   split at hq
   ·rename_i k p k' q'
    obtain rfl := rep_int hx; obtain rfl := rep_int hy
    obtain rfl := Option.some.inj hq
    obtain ⟨v', g1, g2⟩ := most_ok (big := big) (Rep.int false k _) t h
    refine ⟨v', ?_, g2⟩
    cases big <;> simpa [List.foldlM_cons, Sem.run_bind, Builtin.max2, Builtin.min2] using g1
   ·cases hq
theorem assert_ok (hE : EnvOk P E) {x' : Value} {x r : AV} {xt t : TypeId} {ok : Bool} (hx : Rep m S w false x' x) (h : assertA E x t ok = some r) :
  ∃ v', (Instr.typeAssert x' xt t ok).run P w = .ok v' w ∧ Rep m S w false v' r := by
 unfold assertA at h
 cases hi : E.ty t with
 | none => simp [hi] at h
 | some i =>
  simp only [hi, Option.bind_eq_bind, Option.bind_some] at h
  obtain ⟨ds, info, z, hu, hinf, hd, hs, hby, hz, hzc, hz1, hzl, hag, hnag, hst, hcm⟩ := hE.ty t i hi
  have hzr : RepL m S w false z.cells.toList i.zero := (zero_rep hzc hz1).weak
  have hzero : ∀ y, mkV i.desc.isAgg i.zero = some y → Rep m S w false z y := by
   intro y hy
   rcases mkV_some hy with ⟨ha, rfl⟩ | ⟨ha, e⟩
   ·obtain ⟨cs, rfl⟩ := hag ha
    have := Rep.agg false cs.toList i.zero (by simpa [Value.cells] using hzr) hz1
    simpa using this
   ·obtain ⟨_, hc⟩ := hnag ha
    rw [hc, e] at hzr
    cases hzr with
    | cons _ _ _ _ _ h _ => exact h
  have hni : ∀ ms, ds ≠ .interface ms → True := fun _ _ => trivial
  split at h
  ·cases h
  ·rename_i ta v hds
   cases hx with
   | iface _ _ v' _ hv =>
    have hdi : ∀ ms, ds ≠ .interface ms := fun ms e => by subst e; exact hds hd
    split at h
    ·rename_i he
     subst he
     cases ok with
     | true =>
      simp at h; subst h
      exact ⟨_, by cases ds <;> simp_all [Instr.typeAssert, run_underlying hu], .tup false [v', .bool true] _ (.cons _ _ _ _ _ hv (.cons _ _ _ _ _ (.bool _ _) (.nil _)))⟩
     | false =>
      simp at h; subst h
      exact ⟨_, by cases ds <;> simp_all [Instr.typeAssert, run_underlying hu], hv⟩
    ·rename_i he
     split at h
     ·rename_i hok
      subst hok
      cases hm : mkV i.desc.isAgg i.zero with
      | none => simp [hm] at h
      | some y =>
       simp [hm] at h; subst h
       exact ⟨_, by cases ds <;> simp_all [Instr.typeAssert, run_underlying hu, zeroValue, typeInfo], .tup false [z, .bool false] _ (.cons _ _ _ _ _ (hzero _ hm) (.cons _ _ _ _ _ (.bool _ _) (.nil _)))⟩
     ·cases h
  ·rename_i hds
   cases hx
   have hdi : ∀ ms, ds ≠ .interface ms := fun ms e => by subst e; exact hds hd
   split at h
   ·rename_i hok
    subst hok
    cases hm : mkV i.desc.isAgg i.zero with
    | none => simp [hm] at h
    | some y =>
     simp [hm] at h; subst h
     exact ⟨_, by cases ds <;> simp_all [Instr.typeAssert, run_underlying hu, zeroValue, typeInfo], .tup false [z, .bool false] _ (.cons _ _ _ _ _ (hzero _ hm) (.cons _ _ _ _ _ (.bool _ _) (.nil _)))⟩
   ·cases h
  ·cases h
end ops
end Go.Px
set_option linter.unusedVariables false
set_option linter.unusedSimpArgs false
namespace Go.Px
open Go Go.RowKit
section ops
variable {P : Program} {E : Env} {base : Nat} {m : Mu} {S : Sett} {H : Heap} {w : World}
theorem same_ok {d : TypeDesc} {k' q' : Value} {k q : AV} {b : Bool} (hk : Rep m S w false k' k) (hq : Rep m S w false q' q) (h : keyEq (descA d) k q = some b) : Instr.sameNow d k' q' = some b := by
 cases d <;> simp only [descA] at h <;> first
  | (simp [keyEq] at h; done)
  | skip
 ·cases k <;> first
   | (simp [keyEq] at h; done)
   | skip
  cases q <;> first
   | (simp [keyEq] at h; done)
   | skip
  obtain rfl := rep_bool hk; obtain rfl := rep_bool hq
  simpa [keyEq, Instr.sameNow] using h
 ·cases k <;> first
   | (simp [keyEq] at h; done)
   | skip
  cases q <;> first
   | (simp [keyEq] at h; done)
   | skip
  obtain rfl := rep_int hk; obtain rfl := rep_int hq
  simpa [keyEq, Instr.sameNow] using h
 ·cases k <;> first
   | (simp [keyEq] at h; done)
   | skip
  cases q <;> first
   | (simp [keyEq] at h; done)
   | skip
  obtain ⟨sa, rfl, ha⟩ := rep_str hk
  obtain ⟨sb, rfl, hb⟩ := rep_str hq
  have he := bytes_eq sa.data.toList sb.data.toList
  rw [ha, hb] at he
  simp only [keyEq] at h
  simp only [Instr.sameNow]
  rw [beq_toListBytes, Lib.toList_data, Lib.toList_data, he]
  exact h
theorem find_ok {d : TypeDesc} {k' : Value} {k : AV} (hk : Rep m S w false k' k) : ∀ {es' : List MapEntry} {es : List (AV × AV)} {i : Nat}, RepL m S w false (es'.map (·.key)) (es.map (·.1)) → RepL m S w false (es'.map (·.val)) (es.map (·.2)) →
  (findA (descA d) k es i = some none → Instr.findNow d k' es' i = some none) ∧
  (∀ j v, findA (descA d) k es i = some (some (j, v)) → ∃ v', Instr.findNow d k' es' i = some (some (j, v')) ∧ Rep m S w false v' v ∧ i ≤ j ∧ j < i + es.length)
 | [], [], i, _, _ => ⟨fun _ => rfl, fun j v h => by simp [findA] at h⟩
 | [], _ :: _, i, h, _ => by cases h
 | _ :: _, [], i, h, _ => by cases h
 | e :: es', (q, u) :: es, i, h1, h2 => by
  cases h1 with
  | cons _ _ _ _ _ hq t1 =>
   cases h2 with
   | cons _ _ _ _ _ hu t2 =>
    obtain ⟨g1, g2⟩ := find_ok (d := d) hk (i := i + 1) t1 t2
    simp only [findA]
    cases hke : keyEq (descA d) k q with
    | none => exact ⟨fun h => by simp at h, fun j v h => by simp at h⟩
    | some b =>
     have hs := same_ok hk hq hke
     cases b with
     | true =>
      refine ⟨fun h => by simp at h, fun j v h => ?_⟩
      simp at h
      obtain ⟨rfl, rfl⟩ := h
      exact ⟨e.val, by simp [Instr.findNow, hs], hu, Nat.le_refl _, by simp⟩
     | false =>
      refine ⟨fun h => by simpa [Instr.findNow, hs] using g1 h, fun j v h => ?_⟩
      obtain ⟨v', a1, a2, a3, a4⟩ := g2 j v h
      exact ⟨v', by simpa [Instr.findNow, hs] using a1, a2, by omega, by simp; omega⟩
theorem check_simple {t : TypeId} {d : TypeDesc} (hu : P.underlying t = some d) (hd : simpleKey (descA d) = true) (b : Bool) (k : Value) (w : World) : (Instr.checkKey b 10000 t k).run P w = .ok () w := by
 unfold Instr.checkKey
 rw [Sem.run_bind, run_underlying hu]
 cases d <;> simp [descA, simpleKey] at hd <;> rfl
theorem zero_val {t : TypeId} {i : TyI} (ht : TyOk P t i) {y : AV} (hy : mkV i.desc.isAgg i.zero = some y) : ∃ z, (zeroValue t).run P w = .ok z w ∧ Rep m S w false z y := by
 obtain ⟨ds, info, z, hu, hinf, hd, hs, hby, hz, hzc, hz1, hzl, hag, hnag, hst, hcm⟩ := ht
 have hzr : RepL m S w false z.cells.toList i.zero := (zero_rep hzc hz1).weak
 refine ⟨z, by simp [zeroValue, typeInfo, hinf, hz], ?_⟩
 rcases mkV_some hy with ⟨ha, rfl⟩ | ⟨ha, e⟩
 ·obtain ⟨cs, rfl⟩ := hag ha
  have := Rep.agg false cs.toList i.zero (by simpa [Value.cells] using hzr) hz1
  simpa using this
 ·obtain ⟨_, hc⟩ := hnag ha
  rw [hc, e] at hzr
  cases hzr with
  | cons _ _ _ _ _ h _ => exact h
theorem lookup_ok (hE : EnvOk P E) (hR : Rel P base m S H w) {t : TypeId} {x' k' : Value} {x k r : AV} {ok : Bool} {acc : Acc} (hx : Rep m S w false x' x) (hk : Rep m S w false k' k) (h : lookupA E H t x k ok = some (r, acc)) :
    ∃ v', (Instr.lookup t x' k' ok).run P w = .ok v' w ∧ Rep m S w false v' r := by
  unfold lookupA at h
  cases hi : E.ty t with
  | none => simp [hi] at h
  | some i =>
    simp only [hi, Option.bind_eq_bind, Option.bind_some] at h
    obtain ⟨ds, info, z, hu, hinf, hd, _⟩ := hE.ty t i hi
    split at h
    · rename_i kt vt hds
      obtain rfl := desc_map (hd.symm.trans hds)
      cases hki : E.ty kt with
      | none => simp [hki] at h
      | some ki =>
        simp only [hki, Option.bind_some] at h
        cases hvi : E.ty vt with
        | none => simp [hvi] at h
        | some vi =>
          simp only [hvi, Option.bind_some] at h
          split at h
          · cases h
          · rename_i hsk
            have hsk' : simpleKey ki.desc = true := by simpa using hsk
            obtain ⟨dk, ik, zk, huk, hik, hdk, _⟩ := hE.ty kt ki hki
            have key : ∀ (es : List (AV × AV)) (es' : Array MapEntry) (acc acc1 : Acc), RepL m S w false (es'.toList.map (·.key)) (es.map (·.1)) → RepL m S w false (es'.toList.map (·.val)) (es.map (·.2)) →
                ((findA ki.desc k es 0).bind fun q => match q with
                  | some (_, v) => some (if ok then AV.tup [v, .bool true] else v, acc)
                  | none => (mkV vi.desc.isAgg vi.zero).bind fun z => some (if ok then .tup [z, .bool false] else z, acc)) = some (r, acc1) →
                ∃ v', (do Instr.checkKey es'.isEmpty 10000 kt k'
                          let (v, o) ← match ← Instr.findKey kt k' es'.toList with
                            | some (_, v) => pure (v, true)
                            | none => pure (← zeroValue vt, false)
                          pure (if ok then Value.tuple #[v, .bool o] else v) : Sem Value).run P w = .ok v' w ∧ Rep m S w false v' r := by
              intro es es' acc acc1 h1 h2 hf
              obtain ⟨g1, g2⟩ := find_ok (d := dk) hk (i := 0) h1 h2
              have hck := check_simple (P := P) huk (hdk ▸ hsk') es'.isEmpty k' w
              rw [hdk] at hf
              cases hfa : findA (descA dk) k es 0 with
              | none => simp [hfa] at hf
              | some q =>
                cases q with
                | none =>
                  simp only [hfa, Option.bind_some] at hf
                  cases hm : mkV vi.desc.isAgg vi.zero with
                  | none => simp [hm] at hf
                  | some y =>
                    simp [hm] at hf; obtain ⟨rfl, _⟩ := hf
                    obtain ⟨zz, z1, z2⟩ := zero_val (P := P) (m := m) (S := S) (w := w) (hE.ty vt vi hvi) hm
                    have hfn := g1 hfa
                    cases ok with
                    | true => exact ⟨.tuple #[zz, .bool false], by simp [Sem.run_bind, hck, Instr.findKey, run_underlying huk, hfn, z1], .tup false [zz, .bool false] _ (.cons _ _ _ _ _ z2 (.cons _ _ _ _ _ (.bool _ _) (.nil _)))⟩
                    | false => exact ⟨zz, by simp [Sem.run_bind, hck, Instr.findKey, run_underlying huk, hfn, z1], z2⟩
                | some p =>
                  obtain ⟨j, v⟩ := p
                  simp only [hfa, Option.bind_some] at hf
                  simp at hf; obtain ⟨rfl, _⟩ := hf
                  obtain ⟨v', a1, a2, _⟩ := g2 j v hfa
                  cases ok with
                  | true => exact ⟨.tuple #[v', .bool true], by simp [Sem.run_bind, hck, Instr.findKey, run_underlying huk, a1], .tup false [v', .bool true] _ (.cons _ _ _ _ _ a2 (.cons _ _ _ _ _ (.bool _ _) (.nil _)))⟩
                  | false => exact ⟨v', by simp [Sem.run_bind, hck, Instr.findKey, run_underlying huk, a1], a2⟩
            cases hx with
            | nilmap =>
              simp only [Option.bind_some] at h
              obtain ⟨v', a1, a2⟩ := key [] #[] Acc.none acc (by simpa using RepL.nil false) (by simpa using RepL.nil false) (by simp only [Option.pure_def] at h; exact h)
              refine ⟨v', ?_, a2⟩
              rw [← a1]
              rw [Instr.lookup, Sem.run_bind, run_underlying hu, Result.andThen_ok]
              rfl
            | map nm b hb =>
              simp only at h
              cases hH : H[nm]? with
              | none => simp [hH] at h
              | some ob =>
                cases ob with
                | map kt' vt' es bs ck =>
                  simp only [hH] at h
                  split at h
                  · rename_i hkk
                    obtain ⟨b', es', q1, q2, q3, q4, q5, _⟩ := hR.obj nm _ hH
                    rw [hb] at q1; cases q1
                    obtain ⟨v', a1, a2⟩ := key es es' (Acc.read nm) acc q4 q5 (by simp only [Option.pure_def] at h; exact h)
                    refine ⟨v', ?_, a2⟩
                    rw [← a1]
                    rw [Instr.lookup, Sem.run_bind, run_underlying hu, Result.andThen_ok]
                    simp only [getObj, Sem.run_bind, Sem.run, q3, Result.andThen_ok]
                    rfl
                  · simp at h
                | _ => simp [hH] at h
            | _ => simp at h
    · cases h
structure SlotOk (m : Mu) (H : Heap) (slot : Option Nat) : Prop where
 free : ∀ nm, slot = some nm → H[nm]? = some .dead ∧ m nm = none
theorem lay_slot {slot : Option Nat} (hR : Rel P base m S H w) (hs : SlotOk m H slot) (o : AO) : Lay H (layNew slot H o).1 o (layNew slot H o).2 ∧ m (layNew slot H o).1 = none := by
 cases slot with
 | none =>
  refine ⟨Lay.append H o, ?_⟩
  cases hm : m H.length with
  | none => exact hm
  | some p => exact absurd (hR.dom _ _ hm) (Nat.lt_irrefl _)
 | some nm =>
  obtain ⟨h1, h2⟩ := hs.free nm rfl
  exact ⟨Lay.set h1 o, h2⟩
def calmO : Obj → Bool
 | .cells _ _ (0, 0) => true
 | .cells _ _ _ => false
 | _ => true
theorem froz_alloc (w : World) (o : Obj) (h : calmO o = true) (a : Addr) : (w.alloc o).frozen? a = w.frozen? a := by
 by_cases hb : a.block < w.heap.size
 ·simp [World.frozen?, Below.heap_alloc w o a.block hb]
 ·have h1 : w.heap[a.block]? = none := Array.getElem?_eq_none (by omega)
  have h2 : (w.alloc o).heap[a.block]? = if a.block = w.heap.size then some o else none := by
   show (w.heap.push o)[a.block]? = _
   rw [Array.getElem?_push]
   split
   ·rfl
   ·exact h1
  simp only [World.frozen?, h1, h2]
  by_cases he : a.block = w.heap.size
  ·rw [if_pos he]
   cases o with
   | cells c e rng =>
    obtain ⟨lo, hi⟩ := rng
    cases lo with
    | succ n => simp [calmO] at h
    | zero =>
     cases hi with
     | succ n => simp [calmO] at h
     | zero => simp
   | _ => rfl
  ·rw [if_neg he]
theorem Born.alloc (w : World) (o : Obj) (h : calmO o = true := by rfl) : Born w (w.alloc o) :=
 ⟨by show (w.heap.push o).size = _; simp, fun b hb => Below.heap_alloc w o b hb, rfl, rfl, rfl, froz_alloc w o h⟩
theorem Born.drew {w w' : World} (h : Born w.drew w') : Born w w' := ⟨h.size, h.old, h.os, h.tape, h.output, h.froz⟩
theorem alloc_new (w : World) (o : Obj) : (w.alloc o).heap[w.heap.size]? = some o := by
 show (w.heap.push o)[w.heap.size]? = _
 simp
theorem Rel.newRow {slot : Option Nat} (hR : Rel P base m S H w) (hs : SlotOk m H slot) {w' : World} (hb : Born w w') {e : TypeId} {arr : Array Value} {info : TypeInfo} (hh : w'.heap[w.heap.size]? = some (.cells arr e (0, 0)))
  (hfr : ∀ j, w'.frozen? ⟨w.heap.size, j, none⟩ = false) (hi : P.info? e = some info) {vs : List Value} {cs : List AV} (hv : RepL m S w false vs cs) (h1 : ∀ y ∈ cs, one y = true)
  (ha : ∀ (j : Nat) (v : Value), vs[j]? = some v → arr[j]? = some v) (fr : Bool) (hS : fr = true → True) :
  ∃ S', Step P base m S H w (muPut m (layNew slot H (.row e cs fr)).1 w.heap.size 0) S' (layNew slot H (.row e cs fr)).2 w' := by
 obtain ⟨hl, hm⟩ := lay_slot hR hs (.row e cs fr)
 have hlen : vs.length ≤ arr.size := by
  rcases Nat.lt_or_ge arr.size vs.length with hlt | hge
  ·have := ha arr.size (vs[arr.size]'hlt) (by simp [hlt])
   simp at this
  ·exact hge
 have hcl := hv.length
 let S' : Sett := fun b j => S b j ∨ (b = w.heap.size ∧ fr = true ∧ j < cs.length)
 have hcell : ∀ j, w'.cell? ⟨w.heap.size, j, none⟩ = arr[j]? := fun j => by simp [World.cell?, hh]
 have hSb : ∀ b j, S b j → b < w.heap.size := fun b j h => cell_lt (hR.sett b j h)
 refine ⟨S', hR.born hl hm hb (by simp) (fun b j h => .inl h) (fun b j h hlt => h.resolve_right (fun q => by omega)) (fun j h => ?_) (fun b j h => ?_) ?_⟩
 ·rcases h with h | ⟨_, _, h⟩
  ·exact absurd (hSb _ _ h) (Nat.lt_irrefl _)
  ·rw [hcell, Array.getElem?_eq_getElem (by omega)]; rfl
 ·rcases h with h | ⟨h, _⟩
  ·exact Nat.le_of_lt (hSb _ _ h)
  ·omega
 ·refine ⟨w.heap.size, 0, arr.size, info, by simp [muPut], hR.size, ⟨arr, (0, 0), hh, rfl⟩, by omega, (fun j _ => hfr j), (fun arr' e' lo hi h => by rw [hh] at h; cases h; exact Nat.le_refl _), fun j x hx => ?_, hi, fun hf j hj => .inr ⟨rfl, hf, by simpa using hj⟩, fun hf j h => ?_, fun j h => ?_, rfl⟩
  ·obtain ⟨v, g1, g2⟩ := hv.get hx
   refine ⟨v, by rw [hcell]; simpa using ha j v g1, ?_, h1 x (List.mem_of_getElem? hx)⟩
   refine Rep.keep (fun k p e => ?_) (fun b j h => .inl h) (fun b j h => hb.cell (hSb b j h) j) (fun b e n h => hb.shape h) g2
   unfold muPut; split
   ·rename_i hk; subst hk; rw [hm] at e; cases e
   ·exact e
  ·rcases h with h | ⟨_, h, _⟩
   ·exact absurd (hSb _ _ h) (Nat.lt_irrefl _)
   ·rw [hf] at h; cases h
  ·rcases h with h | ⟨_, _, h⟩
   ·exact absurd (hSb _ _ h) (Nat.lt_irrefl _)
   ·simpa using h
end ops
end Go.Px
set_option linter.unusedVariables false
set_option linter.unusedSimpArgs false
namespace Go.Px
open Go Go.RowKit
def Gaps (sl : Option Nat) (m : Mu) (H : Heap) (m' : Mu) (H' : Heap) : Prop :=
 ∀ nm, nm < H.length → some nm ≠ sl → m nm = none → m' nm = none ∧ (H[nm]? = some .dead → H'[nm]? = some .dead)
theorem Gaps.refl (sl : Option Nat) (m : Mu) (H : Heap) : Gaps sl m H m H := fun _ _ _ h => ⟨h, fun h => h⟩
def Out (P : Program) (base : Nat) (sl : Option Nat) (m : Mu) (S : Sett) (H : Heap) (w : World) (res : Result Value) (H' : Heap) (x : AV) : Prop :=
 ∃ v' w' m' S', res = .ok v' w' ∧ Step P base m S H w m' S' H' w' ∧ Gaps sl m H m' H' ∧ Rep m' S' w' false v' x
theorem Gaps.lay {sl : Option Nat} {m : Mu} {H : Heap} {o : AO} {b q : Nat} : Gaps sl m H (muPut m (layNew sl H o).1 b q) (layNew sl H o).2 := by
 intro nm hlt hne hm
 cases sl with
 | none =>
  simp only [layNew]
  refine ⟨by unfold muPut; rw [if_neg (by omega)]; exact hm, fun h => by rw [List.getElem?_append_left hlt]; exact h⟩
 | some k =>
  have : nm ≠ k := fun e => hne (by rw [e])
  simp only [layNew]
  exact ⟨by unfold muPut; rw [if_neg this]; exact hm, fun h => by rw [List.getElem?_set_ne (Ne.symm this)]; exact h⟩
section ops
variable {P : Program} {E : Env} {base : Nat} {m : Mu} {S : Sett} {H : Heap} {w : World} {slot : Option Nat}
theorem zerosA_get (zero : List AV) : ∀ (n i : Nat), i < n * zero.length → (zerosA zero n)[i]? = zero[i % zero.length]?
 | 0, i, h => by omega
 | n + 1, i, h => by
  unfold zerosA
  by_cases hi : i < zero.length
  ·rw [List.getElem?_append_left hi, Nat.mod_eq_of_lt hi]
  ·rw [List.getElem?_append_right (by omega), zerosA_get zero n (i - zero.length) (by rw [Nat.add_mul] at h; omega)]
   congr 1
   rw [← Nat.mod_eq_sub_mod (by omega)]
theorem zerosA_length (zero : List AV) : ∀ n, (zerosA zero n).length = n * zero.length
 | 0 => by simp [zerosA]
 | n + 1 => by rw [zerosA, List.length_append, zerosA_length zero n, Nat.add_mul]; omega
theorem zerosA_one (zero : List AV) (h : ∀ x ∈ zero, one x = true) : ∀ n, ∀ x ∈ zerosA zero n, one x = true
 | 0, x, hx => by simp [zerosA] at hx
 | n + 1, x, hx => by
  rw [zerosA, List.mem_append] at hx
  rcases hx with hx | hx
  ·exact h x hx
  ·exact zerosA_one zero h n x hx
theorem zeros_rep {zs : Array Value} {zero : List AV} (h : RepL m S w false zs.toList zero) (hne : zero.length ≠ 0) (n : Nat) :
  RepL m S w false ((Array.range (n * zs.size)).map (zs[· % zs.size]!)).toList (zerosA zero n) := by
 have hl : zs.size = zero.length := by have := h.length; simpa using this
 refine RepL.of_get (by simp [zerosA_length, hl]) fun i x hx => ?_
 have hlt : i < n * zero.length := by have := (List.getElem?_eq_some_iff.1 hx).1; rwa [zerosA_length] at this
 rw [zerosA_get zero n i hlt] at hx
 obtain ⟨v, g1, g2⟩ := h.get hx
 refine ⟨v, ?_, g2⟩
 have hm : i % zs.size < zs.size := Nat.mod_lt _ (by omega)
 rw [hl] at hm ⊢
 simp only [Array.toList_map, List.getElem?_map, Array.toList_range]
 rw [List.getElem?_range hlt]
 simp only [Option.map_some]
 rw [getElem!_pos zs (i % zero.length) (by omega)]
 rw [Array.getElem?_toList] at g1
 rw [Array.getElem?_eq_getElem (by omega)] at g1
 exact g1
theorem ty_info {t : TypeId} {i : TyI} (ht : TyOk P t i) : ∃ info, P.info? t = some info ∧ info.size = i.size ∧ info.bytes = i.bytes := by
 obtain ⟨d, info, z, hu, hi, hd, hs, hb, _⟩ := ht
 exact ⟨info, hi, hs, hb⟩
theorem ty_zero {t : TypeId} {i : TyI} (ht : TyOk P t i) (m : Mu) (S : Sett) (w : World) : ∃ z, (∀ w2, (zeroValue t).run P w2 = .ok z w2) ∧ RepL m S w false z.cells.toList i.zero ∧ (∀ x ∈ i.zero, one x = true) ∧ i.zero.length = i.size ∧ (∃ info, P.info? t = some info ∧ info.zero = some z) := by
 obtain ⟨ds, info, z, hu, hinf, hd, hs, hby, hz, hzc, hz1, hzl, _⟩ := ht
 exact ⟨z, fun w2 => by simp [zeroValue, typeInfo, hinf, hz], (zero_rep hzc hz1).weak, hz1, hzl, info, hinf, hz⟩
theorem out_row (hR : Rel P base m S H w) (hs : SlotOk m H slot) {e : TypeId} {arr : Array Value} {info : TypeInfo} (hi : P.info? e = some info) {vs : List Value} {cs : List AV} (hv : RepL m S w false vs cs) (h1 : ∀ y ∈ cs, one y = true)
  (ha : ∀ (j : Nat) (v : Value), vs[j]? = some v → arr[j]? = some v) {w0 : World} (hw0 : w0 = w ∨ w0 = w.drew) (x : Nat → AV) (v' : Value)
  (hx : ∀ nm S' w', (muPut m nm w.heap.size 0) nm = some (w.heap.size, 0) → Shape w' w.heap.size e arr.size → Rep (muPut m nm w.heap.size 0) S' w' false v' (x nm)) :
  Out P base slot m S H w (.ok v' (w0.alloc (.cells arr e))) (layNew slot H (.row e cs false)).2 (x (layNew slot H (.row e cs false)).1) := by
 have hsz : w0.heap.size = w.heap.size := by rcases hw0 with rfl | rfl <;> rfl
 have hb : Born w (w0.alloc (.cells arr e)) := by
  rcases hw0 with rfl | rfl
  ·exact Born.alloc _ _
  ·exact Born.drew (Born.alloc _ _)
 have hh : (w0.alloc (.cells arr e)).heap[w.heap.size]? = some (.cells arr e (0, 0)) := by rw [← hsz]; exact alloc_new _ _
 obtain ⟨S', hst⟩ := hR.newRow hs hb hh (fun j => by simp [World.frozen?, hh]) hi hv h1 ha false (fun _ => trivial)
 exact ⟨v', _, _, S', rfl, hst, Gaps.lay, hx _ _ _ (by simp [muPut]) ⟨arr, (0, 0), hh, rfl⟩⟩
theorem alloc_ok (hE : EnvOk P E) (hR : Rel P base m S H w) (hs : SlotOk m H slot) {t : TypeId} {i : TyI} (hi : E.ty t = some i) :
  Out P base slot m S H w ((Instr.alloc t true (.tuple #[])).run P w) (layNew slot H (.row t i.zero false)).2 (.loc (layNew slot H (.row t i.zero false)).1 0) := by
 obtain ⟨z, hz, hzr, hz1, hzl, info, hinf, _⟩ := ty_zero (hE.ty t i hi) m S w
 have hrun : (Instr.alloc t true (.tuple #[])).run P w = .ok (.pointer (some ⟨w.heap.size, 0, none⟩)) (w.alloc (.cells z.cells t)) := by
  simp [Instr.alloc, Sem.run_bind, hz, newVar, newRow]
 rw [hrun]
 refine out_row hR hs hinf hzr hz1 (fun j v hj => by simpa using hj) (.inl rfl) (fun nm => .loc nm 0) _ (fun nm S' w' hm hsh => ?_)
 simpa using Rep.loc nm 0 w.heap.size 0 hm
theorem box_ok (hE : EnvOk P E) (hR : Rel P base m S H w) (hs : SlotOk m H slot) {t : TypeId} {i : TyI} (hi : E.ty t = some i) {x' : Value} {x : AV} (hx : Rep m S w false x' x) :
  Out P base slot m S H w ((Instr.box t x').run P w) (layNew slot H (.row t (cellsOf x) false)).2 (.loc (layNew slot H (.row t (cellsOf x) false)).1 0) := by
 obtain ⟨info, hinf, _⟩ := ty_info (hE.ty t i hi)
 have hrun : (Instr.box t x').run P w = .ok (.pointer (some ⟨w.heap.size, 0, none⟩)) (w.alloc (.cells x'.cells t)) := by
  simp [Instr.box, Sem.run_bind, newVar, newRow]
 rw [hrun]
 by_cases hne : cellsOf x = []
 ·rw [hne]
  refine out_row hR hs hinf (.nil _) (fun _ h => by cases h) (fun j v hj => by simp at hj) (.inl rfl) (fun nm => .loc nm 0) _ (fun nm S' w' hm hsh => ?_)
  simpa using Rep.loc nm 0 w.heap.size 0 hm
 ·obtain ⟨g1, g2, g3⟩ := cells_rep hx hne
  refine out_row hR hs hinf g1 g2 (fun j v hj => by simpa using hj) (.inl rfl) (fun nm => .loc nm 0) _ (fun nm S' w' hm hsh => ?_)
  simpa using Rep.loc nm 0 w.heap.size 0 hm
theorem buildSlice_ok (hE : EnvOk P E) (hR : Rel P base m S H w) (hs : SlotOk m H slot) {t : TypeId} {len : Nat} {ps' : Array (Nat × Value)} {ps : List (Nat × AV)} {o : AO} {f : Nat → AV} (hp : RepP m S w ps'.toList ps) (h : buildSliceA E t len ps = some (.new o f)) :
  Out P base slot m S H w ((Instr.buildSlice t len ps').run P w) (layNew slot H o).2 (f (layNew slot H o).1) := by
 unfold buildSliceA at h
 cases hi : E.ty t with
 | none => simp [hi] at h
 | some i =>
  simp only [hi, Option.bind_eq_bind, Option.bind_some] at h
  obtain ⟨ds, info, z, hu, hinf, hd, _⟩ := hE.ty t i hi
  split at h
  ·rename_i e hds
   obtain rfl := desc_slice (hd.symm.trans hds)
   cases hei : E.ty e with
   | none => simp [hei] at h
   | some ei =>
    simp only [hei, Option.bind_some] at h
    split at h
    ·cases h
    ·rename_i hc
     simp only [not_or, Nat.not_lt] at hc
     cases hf : fillA (fun k => some (k * ei.size, ei.size)) (zerosA ei.zero len) ps with
     | none => simp [hf] at h
     | some cs =>
      simp [hf] at h
      obtain ⟨rfl, rfl⟩ := h
      obtain ⟨ze, hze, hzr, hz1, hzl, infe, hinfe, hze2⟩ := ty_zero (hE.ty e ei hei) m S w
      obtain ⟨infe', hie', hse, _⟩ := ty_info (hE.ty e ei hei)
      rw [hinfe] at hie'; cases hie'
      have hzz := zeros_rep hzr (by omega) len
      have hsz : ze.cells.size = ei.size := by have := hzr.length; simp at this; omega
      obtain ⟨R, k1, k2, k3, k4⟩ := fill_ok (place' := fun k => some (k * infe.size, infe.size)) (fun k q hq => by rw [hse]; exact hq) hp hzz (zerosA_one _ hz1 len) hf
      have hrun : (Instr.buildSlice t len ps').run P w = .ok (.slice (some ⟨w.heap.size, 0, none⟩) len len) (w.alloc (.cells R e)) := by
       by_cases h0 : len * ei.size = 0
       ·have hl0 : len = 0 := by
         rcases Nat.mul_eq_zero.1 h0 with q | q
         ·exact q
         ·exact absurd q hc.2
        subst hl0
        have hz0 : ∀ (f : Nat → Value) (k : Nat), (Array.range (0 * k)).map f = #[] := fun f k => by rw [Nat.zero_mul]; apply Array.ext'; simp
        rw [hz0] at k1
        simp [Instr.buildSlice, run_underlying hu, sizeOf, typeInfo, hinfe, newRow, Sem.run_bind, show Array.range 0 = #[] from by apply Array.ext'; simp, k1]
       ·refine run_buildSlice w t e len ps' R infe ze hu hinfe hze2 ?_ ?_ ?_
        ·rw [hse]; omega
        ·rw [hse]; exact h0
        ·rw [← k1, hse, hsz]
      rw [hrun]
      have hRs : R.size = len * ei.size := by
       have := k2.length
       rw [k4, zerosA_length, hzl] at this
       simpa using this
      refine out_row hR hs hinfe k2 k3 (fun j v hj => by simpa using hj) (.inl rfl) (fun nm => .own nm 0 len ei.size) _ (fun nm S' w' hm hsh => ?_)
      simpa using Rep.own nm 0 len ei.size len w.heap.size 0 hm (Nat.le_refl _) ⟨e, R.size, hsh, by omega⟩
  ·cases h
theorem makeMap_ok (hE : EnvOk P E) (hR : Rel P base m S H w) (hs : SlotOk m H slot) {t : TypeId} {kt vt : Nat} :
  Out P base slot m S H w ((Instr.makeMap t none).run P w) (layNew slot H (.map kt vt [] [] 0)).2 (.map (layNew slot H (.map kt vt [] [] 0)).1) := by
 have hrun : (Instr.makeMap t none).run P w = .ok (.map (some w.heap.size)) (w.alloc (.map #[] 0)) := by
  simp [Instr.makeMap, Sem.run_bind]
 rw [hrun]
 obtain ⟨hl, hm⟩ := lay_slot hR hs (.map kt vt [] [] 0)
 have hst := hR.born (S' := S) hl hm (Born.alloc w (.map #[] 0)) (by simp) (fun _ _ h => h) (fun _ _ h _ => h) (fun j h => absurd (cell_lt (hR.sett _ _ h)) (Nat.lt_irrefl _)) (fun b j h => Nat.le_of_lt (cell_lt (hR.sett _ _ h)))
  ⟨w.heap.size, #[], by simp [muPut], hR.size, alloc_new _ _, by simpa using RepL.nil false, by simpa using RepL.nil false, rfl⟩
 exact ⟨_, _, _, _, rfl, hst, Gaps.lay, .map _ _ (by simp [muPut])⟩
theorem setCells_heap (b : Nat) : ∀ (vs : List Value) (o : Nat) (w : World), (∀ b', b' ≠ b → (w.setCells b o vs).heap[b']? = w.heap[b']?) ∧ (w.setCells b o vs).heap.size = w.heap.size ∧
  (w.setCells b o vs).os = w.os ∧ (w.setCells b o vs).tape = w.tape ∧ (w.setCells b o vs).output = w.output ∧ (∀ b' e n, Shape w b' e n → Shape (w.setCells b o vs) b' e n) ∧ (∀ (b' : Nat) (r : Loop), w.heap[b']? = some (Obj.loop r) → ∃ r', (w.setCells b o vs).heap[b']? = some (Obj.loop r'))
 | [], o, w => ⟨fun _ _ => rfl, rfl, rfl, rfl, rfl, fun _ _ _ h => h, fun _ r h => ⟨r, h⟩⟩
 | v :: vs, o, w => by
  obtain ⟨h1, h2, h3, h4, h5, h6, h7⟩ := setCells_heap b vs (o + 1) (w.setCell ⟨b, o, none⟩ v)
  refine ⟨fun b' hb => (h1 b' hb).trans (Below.heap_setCell w ⟨b, o, none⟩ v b' hb), h2.trans (by simp [World.setCell]), h3.trans rfl, h4.trans rfl, h5.trans rfl, fun b' e n hs => h6 b' e n ?_, fun b' r hr => h7 b' r (by
   by_cases hb : b' = b
   ·subst hb
    simp only [World.setCell, Array.getElem?_modify, hr]; simp
   ·exact (Below.heap_setCell w ⟨b, o, none⟩ v b' hb).trans hr)⟩
  obtain ⟨arr, rng, hh, hn⟩ := hs
  by_cases hb : b' = b
  ·subst hb
   exact ⟨arr.setIfInBounds o v, rng, by simp only [World.setCell, Array.getElem?_modify, hh]; simp, by simpa using hn⟩
  ·exact ⟨arr, rng, (Below.heap_setCell w ⟨b, o, none⟩ v b' hb).trans hh, hn⟩
theorem setCells_rng (b : Nat) : ∀ (vs : List Value) (o : Nat) (w : World) (b' : Nat) (arr : Array Value) (e : TypeId) (r : Nat × Nat), (w.setCells b o vs).heap[b']? = some (.cells arr e r) → ∃ arr0, w.heap[b']? = some (.cells arr0 e r)
 | [], o, w, b', arr, e, r, h => ⟨arr, h⟩
 | v :: vs, o, w, b', arr, e, r, h => by
  obtain ⟨arr1, h1⟩ := setCells_rng b vs (o + 1) (w.setCell ⟨b, o, none⟩ v) b' arr e r h
  by_cases hb : b' = b
  ·subst hb
   simp only [World.setCell, Array.getElem?_modify, if_true] at h1
   cases hh : w.heap[b']? with
   | none => simp [hh] at h1
   | some ob =>
    rw [hh] at h1
    cases ob with
    | cells c el fz =>
     simp at h1
     obtain ⟨_, rfl, rfl⟩ := h1
     exact ⟨c, rfl⟩
    | _ => simp at h1
  ·exact ⟨arr1, (Below.heap_setCell w ⟨b, o, none⟩ v b' hb).symm.trans h1⟩
theorem put_row (hR : Rel P base m S H w) {nm : Nat} {e : TypeId} {cs : List AV} (hrow : H[nm]? = some (.row e cs false)) {b q n : Nat} {info : TypeInfo} (r : RowIn P base m S w nm e cs false b q n info)
  {off : Nat} {us : List Value} {ys : List AV} (hu : RepL m S w false us ys) (h1 : ∀ y ∈ ys, one y = true) (hl : off + ys.length ≤ cs.length) :
  Step P base m S H w m S (H.set nm (.row e (lay cs off ys) false)) (w.setCells b (q + off) us) := by
 have hlt : nm < H.length := (List.getElem?_eq_some_iff.1 hrow).1
 obtain ⟨g1, g2, g3, g4, g5, g6, g7⟩ := setCells_heap b us (q + off) w
 have hul := hu.length
 have hsome : ∀ j, j < cs.length → (w.cell? ⟨b, q + j, none⟩).isSome = true := fun j hj => by
  obtain ⟨v, hv, _⟩ := r.cells j cs[j] (by simp [hj])
  rw [hv]; rfl
 have hin : ∀ j (hj : j < us.length), (w.setCells b (q + off) us).cell? ⟨b, q + off + j, none⟩ = some us[j] := World.cell?_setCells_in b us (q + off) w (fun j hj => by
  have := hsome (off + j) (by omega)
  have e1 : q + (off + j) = q + off + j := by omega
  rwa [e1] at this)
 have hout : ∀ b' j, (b' = b → j < q + off ∨ q + off + us.length ≤ j) → (w.setCells b (q + off) us).cell? ⟨b', j, none⟩ = w.cell? ⟨b', j, none⟩ := fun b' j h =>
  World.cell?_setCells_out b us (q + off) w ⟨b', j, none⟩ (fun hb _ => h hb)
 have hS : ∀ b' j, S b' j → (w.setCells b (q + off) us).cell? ⟨b', j, none⟩ = w.cell? ⟨b', j, none⟩ := fun b' j hs => hout b' j (fun e => by subst e; exact absurd hs (r.uns rfl j))
 refine hR.touch ⟨_, hrow, by simp⟩ r.mu (fun k hk => by rw [List.getElem?_set_ne (Ne.symm hk)]) (by simp) (fun o ho => ?_) g1 g2 g6 hS g3 g4 g5 g7 (World.frozen?_setCells b us (q + off) w)
 rw [List.getElem?_set_self hlt] at ho
 cases ho
 have hll := lay_length hl
 refine ⟨b, q, n, info, r.mu, r.base, g6 _ _ _ r.shape, by rw [hll]; exact r.fits, fun j hq => by rw [World.frozen?_setCells]; exact r.free j (.inl rfl), (fun arr e' lo hi h => by obtain ⟨a0, h0⟩ := setCells_rng _ _ _ _ _ _ _ _ h; exact r.ord _ _ _ _ h0), fun j x hx => ?_, r.info, (fun h => by cases h), fun _ => r.uns rfl, fun j hj => absurd hj (r.uns rfl j), r.z⟩
 rw [lay_get hl] at hx
 split at hx
 ·rename_i hc
  obtain ⟨v, a1, a2⟩ := hu.get hx
  have hlt2 := (List.getElem?_eq_some_iff.1 a1).1
  have e1 : q + j = q + off + (j - off) := by omega
  refine ⟨v, ?_, Rep.keep (fun _ _ h => h) (fun _ _ h => h) hS g6 a2, h1 x (List.mem_of_getElem? hx)⟩
  rw [e1, hin _ hlt2]
  rw [List.getElem?_eq_getElem hlt2] at a1
  exact a1
 ·rename_i hc
  obtain ⟨v, a1, a2, a3⟩ := r.cells j x hx
  refine ⟨v, ?_, Rep.keep (fun _ _ h => h) (fun _ _ h => h) hS g6 a2, a3⟩
  rw [hout b (q + j) (fun _ => by omega)]
  exact a1
theorem there_row {nm : Nat} {e : TypeId} {cs : List AV} {b q n : Nat} {info : TypeInfo} (r : RowIn P base m S w nm e cs false b q n info) {off k : Nat} (hl : off + k ≤ cs.length) : w.there b (q + off) k := by
 intro j hj
 obtain ⟨v, hv, _⟩ := r.cells (off + j) cs[off + j] (by simp [show off + j < cs.length by omega])
 have e1 : q + (off + j) = q + off + j := by omega
 rw [e1] at hv
 have := r.fits
 exact ⟨by rw [hv]; rfl, r.free _ (.inl rfl)⟩
theorem store_ok (hE : EnvOk P E) (hR : Rel P base m S H w) {t : TypeId} {p' v' : Value} {p v x : AV} {nm : Nat} {o : AO} {acc : Acc} (hp : Rep m S w false p' p) (hv : Rep m S w false v' v) (h : storeA E H t p v = some (.put nm o x, acc)) :
  ∃ w' m' S', (Instr.storeAt t p' v').run P w = .ok () w' ∧ Step P base m S H w m' S' (H.set nm o) w' ∧ Gaps slot m H m' (H.set nm o) ∧ x = .tup [] := by
 unfold storeA at h
 cases hi : E.ty t with
 | none => simp [hi] at h
 | some i =>
  simp only [hi, Option.bind_eq_bind, Option.bind_some] at h
  obtain ⟨info, hinf, hsz, _⟩ := ty_info (hE.ty t i hi)
  cases hp with
  | loc nm0 off b q hm =>
   simp only at h
   split at h
   ·rename_i e cs hrow
    split at h
    ·rename_i hc
     simp at h
     obtain ⟨⟨rfl, rfl, rfl⟩, _⟩ := h
     obtain ⟨b', q', n, inf2, r⟩ := hR.obj nm0 _ hrow
     have hmu := r.mu
     rw [hm] at hmu; cases hmu
     obtain ⟨g1, g2, g3⟩ := cells_rep hv (by intro e; rw [e] at hc; simp at hc; omega)
     have hvs : v'.cells.size = i.size := by simpa [hc.1] using g3
     have hlen : off + (cellsOf v).length ≤ cs.length := by omega
     refine ⟨_, m, S, ?_, put_row hR hrow r g1 g2 hlen, fun k hlt hne hmk => ⟨hmk, fun hd => ?_⟩, rfl⟩
     ·refine run_storeAt_mid w b (q + off) t v'.cells ?_ (by simp [hinf, hsz, hvs]) ?_
      ·rw [hvs]; exact there_row r (by omega)
      ·rw [← Array.all_toList, List.all_eq_true]
       exact repL_oneCell g1 g2
     ·have : k ≠ nm0 := fun e => by subst e; rw [hrow] at hd; cases hd
      rw [List.getElem?_set_ne (Ne.symm this)]; exact hd
    ·simp at h
   ·simp at h
  | _ => simp at h
end ops
end Go.Px
