/-
  NARROWER THAN 'FOR EVERY INPUT', by the rows' own cells (each row's printed sentence says how): CauseAbove: loops.
  DERIVED. THE GIVEN ROWS OF THIS SEAT. 3 by the template 'for every input the law returns true; each argument reads behind the call as it read before'; 0 by the template 'total and deterministic' (their statements: YtnpphcbfainkbaaGreatTotals.lean).
  GIVEN WITH THE SEED: the statements are not yours to turn. If you find one false, say at which input.
  Laid BY PROGRAM, IN A SANDBOX (cutbox-rows.mjs): the forced cells as the released guide's own fill.sh prints them over the translation 00f5b45984792bfb… (all of the seat's roots in one cut). By AI agents, Wed Nov 11 2026. No macro, syntax, notation, axiom, sorry.
-/
import Derived.Test.YtnpphcbfainkbaaGreatChecked
import GoSem.Claim
import GoSem.ClaimJoined
import GoSem.ClaimMapViews
import Derived.JoinedTies
import Derived.KernelRfl
namespace Go.Proofs.YtnpphcbfainkbaaGreat
/- THE CELL 'sum', in the pinned program and in every row, IS THE sha256 OF THE DUMP (.gsa) THAT YtnpphcbfainkbaaGreatProg.lean LOADS. Nothing in Lean hashes anything: it is a label: what it is worth is what the hold of that sum in a sandbox is worth. -/
noncomputable def Tryz.pinned : Pinned := { name := "ytnpphcbfainkbaagreat", sum := "00f5b45984792bfb5440a991f0e096ef4380dfe05d1521272a82ae86a42c0ea2", checked := Tryz.checked }
namespace Rows
def none {H : Type} : Left H := { results := [], args := [] }

/-- 'trefoillaw12.CauseAbove': WHATEVER THE INPUT: true; the input reads as it did. -/
def causeAboveSpec : ChangeSpec := { name := "causeAbove", fn := fun _ => fun
  | [d1, d2, d3, d4, d5, d6] => { results := [.lit (.bool true)], args := [d1, d2, d3, d4, d5, d6] }
  | _ => none }
def causeAboveRow : OpenClaim := { program := "ytnpphcbfainkbaagreat", sum := "00f5b45984792bfb5440a991f0e096ef4380dfe05d1521272a82ae86a42c0ea2", func := "trefoil/trefoillaw12.CauseAbove", spec := "causeAbove", inPlace := ["internal/bytealg.abigen_runtime_cmpstring", "internal/reflectlite.TypeOf"], unfollowed := true, recurses := true, loops := true, apart := false }
def CauseAboveSaid : Prop := causeAboveRow.holds Tryz.pinned (OpenSpec.ofChange causeAboveSpec)

/-- ITS FALSE NEIGHBOUR: 'it returns false'. Refute it at one input. -/
def causeAboveWrong : ChangeSpec := { name := "causeAbove", fn := fun _ => fun
  | [d1, d2, d3, d4, d5, d6] => { results := [.lit (.bool false)], args := [d1, d2, d3, d4, d5, d6] }
  | _ => none }
def CauseAboveWrongFalsely : Prop := causeAboveRow.holds Tryz.pinned (OpenSpec.ofChange causeAboveWrong)

/-- 'trefoillaw12.CauseWrites': WHATEVER THE INPUT: true; the input reads as it did. -/
def causeWritesSpec : ChangeSpec := { name := "causeWrites", fn := fun _ => fun
  | [d1, d2] => { results := [.lit (.bool true)], args := [d1, d2] }
  | _ => none }
def causeWritesRow : OpenClaim := { program := "ytnpphcbfainkbaagreat", sum := "00f5b45984792bfb5440a991f0e096ef4380dfe05d1521272a82ae86a42c0ea2", func := "trefoil/trefoillaw12.CauseWrites", spec := "causeWrites", inPlace := ["internal/bytealg.abigen_runtime_cmpstring", "internal/reflectlite.TypeOf"], unfollowed := true, recurses := true, apart := false }
def CauseWritesSaid : Prop := causeWritesRow.holds Tryz.pinned (OpenSpec.ofChange causeWritesSpec)

/-- ITS FALSE NEIGHBOUR: 'it returns false'. Refute it at one input. -/
def causeWritesWrong : ChangeSpec := { name := "causeWrites", fn := fun _ => fun
  | [d1, d2] => { results := [.lit (.bool false)], args := [d1, d2] }
  | _ => none }
def CauseWritesWrongFalsely : Prop := causeWritesRow.holds Tryz.pinned (OpenSpec.ofChange causeWritesWrong)

/-- 'trefoillaw12.CauseLeans': WHATEVER THE INPUT: true; the input reads as it did. -/
def causeLeansSpec : ChangeSpec := { name := "causeLeans", fn := fun _ => fun
  | [d1, d2] => { results := [.lit (.bool true)], args := [d1, d2] }
  | _ => none }
def causeLeansRow : OpenClaim := { program := "ytnpphcbfainkbaagreat", sum := "00f5b45984792bfb5440a991f0e096ef4380dfe05d1521272a82ae86a42c0ea2", func := "trefoil/trefoillaw12.CauseLeans", spec := "causeLeans", inPlace := ["internal/bytealg.abigen_runtime_cmpstring", "internal/reflectlite.TypeOf"], unfollowed := true, recurses := true, apart := false }
def CauseLeansSaid : Prop := causeLeansRow.holds Tryz.pinned (OpenSpec.ofChange causeLeansSpec)

/-- ITS FALSE NEIGHBOUR: 'it returns false'. Refute it at one input. -/
def causeLeansWrong : ChangeSpec := { name := "causeLeans", fn := fun _ => fun
  | [d1, d2] => { results := [.lit (.bool false)], args := [d1, d2] }
  | _ => none }
def CauseLeansWrongFalsely : Prop := causeLeansRow.holds Tryz.pinned (OpenSpec.ofChange causeLeansWrong)

/- THE SECOND FORM. 'bulk': how many values and letters a reading holds, each counted each time it is reached (what is shared counts as often as it is met; a slice's spare places count too). A statement '..UptoSaid' is the law's where the arguments, and the package variables that the reading takes, are together of bulk at most 1048576: NARROWER than '..Said'. Prove '..Said' where nothing that the law and all that it calls make is longer than what came in: it says more and counts as full. Else prove '..UptoSaid'. A law counts once. -/
mutual
def uptoBulk {H : Type} : DataW H → Nat
  | .lit (.string bytes) => bytes.length + 1
  | .lit _ => 1
  | .nil => 1
  | .ptr d => uptoBulk d + 1
  | .slice elems spare => uptoBulkAll elems + uptoBulkAll spare + 1
  | .agg parts => uptoBulkAll parts + 1
  | .iface _ d => uptoBulk d + 1
  | .map entries => uptoBulkEntries entries + 1
  | .held _ => 1
def uptoBulkAll {H : Type} : List (DataW H) → Nat
  | [] => 0
  | d :: r => uptoBulk d + uptoBulkAll r
def uptoBulkEntries {H : Type} : List (Lit × DataW H) → Nat
  | [] => 0
  | x :: r => uptoBulkEntry x + uptoBulkEntries r
def uptoBulkEntry {H : Type} : Lit × DataW H → Nat
  | (.string bytes, d) => bytes.length + uptoBulk d + 1
  | (_, d) => uptoBulk d + 1
 end
def uptoSmall : (H : Type) → List (DataW H) → Bool := fun _ ds => decide (uptoBulkAll ds ≤ 1048576)
def OpenSpec.upto (s : _root_.Go.ChangeSpec) : _root_.Go.OpenSpec := { _root_.Go.OpenSpec.ofChange s with cond := some uptoSmall }

/-- 'trefoillaw12.CauseAbove', WHERE WHAT IT READS IS OF BULK AT MOST 1048576: true; the input reads as it did. -/
def causeAboveUptoRow : OpenClaim := { program := "ytnpphcbfainkbaagreat", sum := "00f5b45984792bfb5440a991f0e096ef4380dfe05d1521272a82ae86a42c0ea2", func := "trefoil/trefoillaw12.CauseAbove", spec := "causeAbove", inPlace := ["internal/bytealg.abigen_runtime_cmpstring", "internal/reflectlite.TypeOf"], unfollowed := true, recurses := true, loops := true, apart := false, narrowed := true }
def CauseAboveUptoSaid : Prop := causeAboveUptoRow.holds Tryz.pinned (OpenSpec.upto causeAboveSpec)

/-- 'trefoillaw12.CauseWrites', WHERE WHAT IT READS IS OF BULK AT MOST 1048576: true; the input reads as it did. -/
def causeWritesUptoRow : OpenClaim := { program := "ytnpphcbfainkbaagreat", sum := "00f5b45984792bfb5440a991f0e096ef4380dfe05d1521272a82ae86a42c0ea2", func := "trefoil/trefoillaw12.CauseWrites", spec := "causeWrites", inPlace := ["internal/bytealg.abigen_runtime_cmpstring", "internal/reflectlite.TypeOf"], unfollowed := true, recurses := true, apart := false, narrowed := true }
def CauseWritesUptoSaid : Prop := causeWritesUptoRow.holds Tryz.pinned (OpenSpec.upto causeWritesSpec)

/-- 'trefoillaw12.CauseLeans', WHERE WHAT IT READS IS OF BULK AT MOST 1048576: true; the input reads as it did. -/
def causeLeansUptoRow : OpenClaim := { program := "ytnpphcbfainkbaagreat", sum := "00f5b45984792bfb5440a991f0e096ef4380dfe05d1521272a82ae86a42c0ea2", func := "trefoil/trefoillaw12.CauseLeans", spec := "causeLeans", inPlace := ["internal/bytealg.abigen_runtime_cmpstring", "internal/reflectlite.TypeOf"], unfollowed := true, recurses := true, apart := false, narrowed := true }
def CauseLeansUptoSaid : Prop := causeLeansUptoRow.holds Tryz.pinned (OpenSpec.upto causeLeansSpec)

end Rows
end Go.Proofs.YtnpphcbfainkbaaGreat
