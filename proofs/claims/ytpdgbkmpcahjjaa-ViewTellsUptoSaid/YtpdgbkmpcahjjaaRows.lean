/-
  No cell of these rows narrows 'for every input' (looked for: loops, veiled, ifaces, maps, wideKeys, modest, calm, conditions, laid).
  DERIVED. THE GIVEN ROWS OF THIS SEAT. 6 by the template 'for every input the law returns true; each argument reads behind the call as it read before'; 0 by the template 'total and deterministic' (their statements: YtpdgbkmpcahjjaaTotals.lean).
  GIVEN WITH THE SEED: the statements are not yours to turn. If you find one false, say at which input.
  Laid BY PROGRAM, IN A SANDBOX (cutbox-rows.mjs): the forced cells as the released guide's own fill.sh prints them over the translation f6e8124da06b095e… (all of the seat's roots in one cut). By AI agents, Wed Nov 11 2026. No macro, syntax, notation, axiom, sorry.
-/
import Derived.Test.YtpdgbkmpcahjjaaChecked
import GoSem.Claim
import GoSem.ClaimJoined
import GoSem.ClaimMapViews
import Derived.JoinedTies
import Derived.KernelRfl
namespace Go.Proofs.Ytpdgbkmpcahjjaa
/- THE CELL 'sum', in the pinned program and in every row, IS THE sha256 OF THE DUMP (.gsa) THAT YtpdgbkmpcahjjaaProg.lean LOADS. Nothing in Lean hashes anything: it is a label: what it is worth is what the hold of that sum in a sandbox is worth. -/
noncomputable def Try.pinned : Pinned := { name := "ytpdgbkmpcahjjaa", sum := "f6e8124da06b095e829ae3b7d7a2efe79afd81b1dd85a07b6f9fef2c249ef53a", checked := Try.checked }
namespace Rows
def none {H : Type} : Left H := { results := [], args := [] }

/-- 'trefoillaw17.ViewTells': WHATEVER THE INPUT: true; the input reads as it did. -/
def viewTellsSpec : ChangeSpec := { name := "viewTells", fn := fun _ => fun
  | [d1, d2, d3, d4, d5] => { results := [.lit (.bool true)], args := [d1, d2, d3, d4, d5] }
  | _ => none }
def viewTellsRow : OpenClaim := { program := "ytpdgbkmpcahjjaa", sum := "f6e8124da06b095e829ae3b7d7a2efe79afd81b1dd85a07b6f9fef2c249ef53a", func := "trefoil/trefoillaw17.ViewTells", spec := "viewTells", inPlace := ["slices.overlaps[trefoil/api.Member]", "internal/bytealg.abigen_runtime_cmpstring", "slices.overlaps[trefoil/api.Copies]"], unfollowed := true, recurses := true, apart := false }
def ViewTellsSaid : Prop := viewTellsRow.holds Try.pinned (OpenSpec.ofChange viewTellsSpec)

/-- ITS FALSE NEIGHBOUR: 'it returns false'. Refute it at one input. -/
def viewTellsWrong : ChangeSpec := { name := "viewTells", fn := fun _ => fun
  | [d1, d2, d3, d4, d5] => { results := [.lit (.bool false)], args := [d1, d2, d3, d4, d5] }
  | _ => none }
def ViewTellsWrongFalsely : Prop := viewTellsRow.holds Try.pinned (OpenSpec.ofChange viewTellsWrong)

/-- 'trefoillaw17.ViewCopies': WHATEVER THE INPUT: true; the input reads as it did. -/
def viewCopiesSpec : ChangeSpec := { name := "viewCopies", fn := fun _ => fun
  | [d1, d2, d3] => { results := [.lit (.bool true)], args := [d1, d2, d3] }
  | _ => none }
def viewCopiesRow : OpenClaim := { program := "ytpdgbkmpcahjjaa", sum := "f6e8124da06b095e829ae3b7d7a2efe79afd81b1dd85a07b6f9fef2c249ef53a", func := "trefoil/trefoillaw17.ViewCopies", spec := "viewCopies", inPlace := ["slices.overlaps[trefoil/api.Member]", "internal/bytealg.abigen_runtime_cmpstring", "slices.overlaps[trefoil/api.Copies]"], unfollowed := true, recurses := true, apart := false }
def ViewCopiesSaid : Prop := viewCopiesRow.holds Try.pinned (OpenSpec.ofChange viewCopiesSpec)

/-- ITS FALSE NEIGHBOUR: 'it returns false'. Refute it at one input. -/
def viewCopiesWrong : ChangeSpec := { name := "viewCopies", fn := fun _ => fun
  | [d1, d2, d3] => { results := [.lit (.bool false)], args := [d1, d2, d3] }
  | _ => none }
def ViewCopiesWrongFalsely : Prop := viewCopiesRow.holds Try.pinned (OpenSpec.ofChange viewCopiesWrong)

/-- 'trefoillaw16.RingTells': WHATEVER THE INPUT: true; the input reads as it did. -/
def ringTellsSpec : ChangeSpec := { name := "ringTells", fn := fun _ => fun
  | [d1, d2, d3, d4, d5] => { results := [.lit (.bool true)], args := [d1, d2, d3, d4, d5] }
  | _ => none }
def ringTellsRow : OpenClaim := { program := "ytpdgbkmpcahjjaa", sum := "f6e8124da06b095e829ae3b7d7a2efe79afd81b1dd85a07b6f9fef2c249ef53a", func := "trefoil/trefoillaw16.RingTells", spec := "ringTells", unfollowed := true, recurses := true, apart := false }
def RingTellsSaid : Prop := ringTellsRow.holds Try.pinned (OpenSpec.ofChange ringTellsSpec)

/-- ITS FALSE NEIGHBOUR: 'it returns false'. Refute it at one input. -/
def ringTellsWrong : ChangeSpec := { name := "ringTells", fn := fun _ => fun
  | [d1, d2, d3, d4, d5] => { results := [.lit (.bool false)], args := [d1, d2, d3, d4, d5] }
  | _ => none }
def RingTellsWrongFalsely : Prop := ringTellsRow.holds Try.pinned (OpenSpec.ofChange ringTellsWrong)

/-- 'trefoillaw16.RingMoves': WHATEVER THE INPUT: true; the input reads as it did. -/
def ringMovesSpec : ChangeSpec := { name := "ringMoves", fn := fun _ => fun
  | [d1, d2, d3, d4] => { results := [.lit (.bool true)], args := [d1, d2, d3, d4] }
  | _ => none }
def ringMovesRow : OpenClaim := { program := "ytpdgbkmpcahjjaa", sum := "f6e8124da06b095e829ae3b7d7a2efe79afd81b1dd85a07b6f9fef2c249ef53a", func := "trefoil/trefoillaw16.RingMoves", spec := "ringMoves", unfollowed := true, recurses := true, apart := false }
def RingMovesSaid : Prop := ringMovesRow.holds Try.pinned (OpenSpec.ofChange ringMovesSpec)

/-- ITS FALSE NEIGHBOUR: 'it returns false'. Refute it at one input. -/
def ringMovesWrong : ChangeSpec := { name := "ringMoves", fn := fun _ => fun
  | [d1, d2, d3, d4] => { results := [.lit (.bool false)], args := [d1, d2, d3, d4] }
  | _ => none }
def RingMovesWrongFalsely : Prop := ringMovesRow.holds Try.pinned (OpenSpec.ofChange ringMovesWrong)

/-- 'trefoillaw16.RingAll': WHATEVER THE INPUT: true; the input reads as it did. -/
def ringAllSpec : ChangeSpec := { name := "ringAll", fn := fun _ => fun
  | [d1, d2, d3] => { results := [.lit (.bool true)], args := [d1, d2, d3] }
  | _ => none }
def ringAllRow : OpenClaim := { program := "ytpdgbkmpcahjjaa", sum := "f6e8124da06b095e829ae3b7d7a2efe79afd81b1dd85a07b6f9fef2c249ef53a", func := "trefoil/trefoillaw16.RingAll", spec := "ringAll", unfollowed := true, recurses := true, apart := false }
def RingAllSaid : Prop := ringAllRow.holds Try.pinned (OpenSpec.ofChange ringAllSpec)

/-- ITS FALSE NEIGHBOUR: 'it returns false'. Refute it at one input. -/
def ringAllWrong : ChangeSpec := { name := "ringAll", fn := fun _ => fun
  | [d1, d2, d3] => { results := [.lit (.bool false)], args := [d1, d2, d3] }
  | _ => none }
def RingAllWrongFalsely : Prop := ringAllRow.holds Try.pinned (OpenSpec.ofChange ringAllWrong)

/-- 'trefoillaw18.HomeTells': WHATEVER THE INPUT: true; the input reads as it did. -/
def homeTellsSpec : ChangeSpec := { name := "homeTells", fn := fun _ => fun
  | [d1, d2, d3, d4] => { results := [.lit (.bool true)], args := [d1, d2, d3, d4] }
  | _ => none }
def homeTellsRow : OpenClaim := { program := "ytpdgbkmpcahjjaa", sum := "f6e8124da06b095e829ae3b7d7a2efe79afd81b1dd85a07b6f9fef2c249ef53a", func := "trefoil/trefoillaw18.HomeTells", spec := "homeTells", inPlace := ["internal/bytealg.abigen_runtime_cmpstring"], unfollowed := true, recurses := true, apart := false }
def HomeTellsSaid : Prop := homeTellsRow.holds Try.pinned (OpenSpec.ofChange homeTellsSpec)

/-- ITS FALSE NEIGHBOUR: 'it returns false'. Refute it at one input. -/
def homeTellsWrong : ChangeSpec := { name := "homeTells", fn := fun _ => fun
  | [d1, d2, d3, d4] => { results := [.lit (.bool false)], args := [d1, d2, d3, d4] }
  | _ => none }
def HomeTellsWrongFalsely : Prop := homeTellsRow.holds Try.pinned (OpenSpec.ofChange homeTellsWrong)

/- THE SECOND FORM. 'bulk': how many values and letters a reading holds, each counted each time it is reached (what is shared counts as often as it is met; a slice's spare places count too). A statement '..UptoSaid' is the law's where the arguments, and the package variables that the reading takes, are together of bulk at most 1048576: NARROWER than '..Said'. Prove '..Said' where nothing that the law and all that it calls make is longer than what came in: it says more and counts as full. Else prove '..UptoSaid'. A law counts once. -/
mutual
def uptoBulk {H : Type} : DataW H → Nat
  | .lit (.string bytes) => bytes.length + 1
  | .lit _ => 1
  | .nil => 1
  | .ptr d => uptoBulk d + 1
  | .slice elems spare => uptoBulkAll elems + uptoBulkAll spare + 1
  | .agg parts => uptoBulkAll parts + 1
  | .iface _ d => uptoBulk d + 1
  | .map entries => uptoBulkEntries entries + 1
  | .held _ => 1
def uptoBulkAll {H : Type} : List (DataW H) → Nat
  | [] => 0
  | d :: r => uptoBulk d + uptoBulkAll r
def uptoBulkEntries {H : Type} : List (Lit × DataW H) → Nat
  | [] => 0
  | x :: r => uptoBulkEntry x + uptoBulkEntries r
def uptoBulkEntry {H : Type} : Lit × DataW H → Nat
  | (.string bytes, d) => bytes.length + uptoBulk d + 1
  | (_, d) => uptoBulk d + 1
 end
def uptoSmall : (H : Type) → List (DataW H) → Bool := fun _ ds => decide (uptoBulkAll ds ≤ 1048576)
def OpenSpec.upto (s : _root_.Go.ChangeSpec) : _root_.Go.OpenSpec := { _root_.Go.OpenSpec.ofChange s with cond := some uptoSmall }

/-- 'trefoillaw17.ViewTells', WHERE WHAT IT READS IS OF BULK AT MOST 1048576: true; the input reads as it did. -/
def viewTellsUptoRow : OpenClaim := { program := "ytpdgbkmpcahjjaa", sum := "f6e8124da06b095e829ae3b7d7a2efe79afd81b1dd85a07b6f9fef2c249ef53a", func := "trefoil/trefoillaw17.ViewTells", spec := "viewTells", inPlace := ["slices.overlaps[trefoil/api.Member]", "internal/bytealg.abigen_runtime_cmpstring", "slices.overlaps[trefoil/api.Copies]"], unfollowed := true, recurses := true, apart := false, narrowed := true }
def ViewTellsUptoSaid : Prop := viewTellsUptoRow.holds Try.pinned (OpenSpec.upto viewTellsSpec)

/-- 'trefoillaw17.ViewCopies', WHERE WHAT IT READS IS OF BULK AT MOST 1048576: true; the input reads as it did. -/
def viewCopiesUptoRow : OpenClaim := { program := "ytpdgbkmpcahjjaa", sum := "f6e8124da06b095e829ae3b7d7a2efe79afd81b1dd85a07b6f9fef2c249ef53a", func := "trefoil/trefoillaw17.ViewCopies", spec := "viewCopies", inPlace := ["slices.overlaps[trefoil/api.Member]", "internal/bytealg.abigen_runtime_cmpstring", "slices.overlaps[trefoil/api.Copies]"], unfollowed := true, recurses := true, apart := false, narrowed := true }
def ViewCopiesUptoSaid : Prop := viewCopiesUptoRow.holds Try.pinned (OpenSpec.upto viewCopiesSpec)

/-- 'trefoillaw16.RingTells', WHERE WHAT IT READS IS OF BULK AT MOST 1048576: true; the input reads as it did. -/
def ringTellsUptoRow : OpenClaim := { program := "ytpdgbkmpcahjjaa", sum := "f6e8124da06b095e829ae3b7d7a2efe79afd81b1dd85a07b6f9fef2c249ef53a", func := "trefoil/trefoillaw16.RingTells", spec := "ringTells", unfollowed := true, recurses := true, apart := false, narrowed := true }
def RingTellsUptoSaid : Prop := ringTellsUptoRow.holds Try.pinned (OpenSpec.upto ringTellsSpec)

/-- 'trefoillaw16.RingMoves', WHERE WHAT IT READS IS OF BULK AT MOST 1048576: true; the input reads as it did. -/
def ringMovesUptoRow : OpenClaim := { program := "ytpdgbkmpcahjjaa", sum := "f6e8124da06b095e829ae3b7d7a2efe79afd81b1dd85a07b6f9fef2c249ef53a", func := "trefoil/trefoillaw16.RingMoves", spec := "ringMoves", unfollowed := true, recurses := true, apart := false, narrowed := true }
def RingMovesUptoSaid : Prop := ringMovesUptoRow.holds Try.pinned (OpenSpec.upto ringMovesSpec)

/-- 'trefoillaw16.RingAll', WHERE WHAT IT READS IS OF BULK AT MOST 1048576: true; the input reads as it did. -/
def ringAllUptoRow : OpenClaim := { program := "ytpdgbkmpcahjjaa", sum := "f6e8124da06b095e829ae3b7d7a2efe79afd81b1dd85a07b6f9fef2c249ef53a", func := "trefoil/trefoillaw16.RingAll", spec := "ringAll", unfollowed := true, recurses := true, apart := false, narrowed := true }
def RingAllUptoSaid : Prop := ringAllUptoRow.holds Try.pinned (OpenSpec.upto ringAllSpec)

/-- 'trefoillaw18.HomeTells', WHERE WHAT IT READS IS OF BULK AT MOST 1048576: true; the input reads as it did. -/
def homeTellsUptoRow : OpenClaim := { program := "ytpdgbkmpcahjjaa", sum := "f6e8124da06b095e829ae3b7d7a2efe79afd81b1dd85a07b6f9fef2c249ef53a", func := "trefoil/trefoillaw18.HomeTells", spec := "homeTells", inPlace := ["internal/bytealg.abigen_runtime_cmpstring"], unfollowed := true, recurses := true, apart := false, narrowed := true }
def HomeTellsUptoSaid : Prop := homeTellsUptoRow.holds Try.pinned (OpenSpec.upto homeTellsSpec)

end Rows
end Go.Proofs.Ytpdgbkmpcahjjaa
