/- Which temporaries are variables. -/
import Derived.Test.YtnpphcbfainkbaaPyC
namespace Go.Px
open Go

def memN (l : List Nat) (x : Nat) : Bool := l.any fun y => Nat.beq y x
def addN (l : List Nat) (x : Nat) : List Nat := if memN l x then l else l ++ [x]

/-- Those looked at ahead of being written in a region. -/
def exposed (ops : List Oper) : List Oper → List Nat → List Nat → List Nat × List Nat
  | [], W, X => (W, X)
  | o :: rest, W, X => exposed ops rest (match o.dst with
    | some d => d :: W
    | none => W) ((looksL ops o).foldl (fun X t => if memN W t then X else addN X t) X)

def varsC : Code → List Nat → List Nat → List Nat × List Nat
  | .region _ ops _, _, X => exposed ops.toList ops.toList [] X
  | .seq a b, W, X => match varsC a W X with
    | (W, X) => varsC b W X
  | .cond c a b, W, X => match varsC a W (match c with
      | .tmp t => if memN W t then X else addN X t
      | _ => X) with
    | (_, X) => match varsC b W X with
      | (_, X) => ([], X)
  | .block _ b, W, X => match varsC b W X with
    | (_, X) => ([], X)
  | .loop b, _, X => match varsC b [] X with
    | (_, X) => ([], X)
  | _, W, X => (W, X)

def varsF (fn : Func) : List Nat :=
  match fn.body with
  | some b => fn.results.toList.foldl (fun X r => match r with
    | .tmp t => addN X t
    | .cell a _ => addN X a) (varsC b [] []).2
  | none => []
end Go.Px
