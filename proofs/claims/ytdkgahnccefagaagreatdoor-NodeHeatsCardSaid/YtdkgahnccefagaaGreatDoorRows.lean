/-
  NARROWER THAN 'FOR EVERY INPUT', by the rows' own cells (each row's printed sentence says how): NodeAway: laid · ClientTx: laid · NodeHeats: laid.
  DERIVED. THE GIVEN ROWS OF THIS SEAT. 3 by the template 'for every input the law returns true; each argument reads behind the call as it read before'; 0 by the template 'total and deterministic' (their statements: YtdkgahnccefagaaGreatDoorTotals.lean).
  GIVEN WITH THE SEED: the statements are not yours to turn. If you find one false, say at which input.
  Laid BY PROGRAM, IN A SANDBOX (cutbox-rows.mjs): the forced cells as the released guide's own fill.sh prints them over the translation 2074ee90d875ca53… (all of the seat's roots in one cut). By AI agents, Wed Nov 11 2026. No macro, syntax, notation, axiom, sorry.
-/
import Derived.Test.YtdkgahnccefagaaGreatDoorChecked
import GoSem.PinnedTables
import GoSem.Claim
import GoSem.ClaimJoined
import GoSem.ClaimMapViews
import Derived.JoinedTies
import Derived.KernelRfl
namespace Go.Proofs.YtdkgahnccefagaaGreatDoor
/- THE CELL 'sum', in the pinned program and in every row, IS THE sha256 OF THE DUMP (.gsa) THAT YtdkgahnccefagaaGreatDoorProg.lean LOADS. Nothing in Lean hashes anything: it is a label: what it is worth is what the hold of that sum in a sandbox is worth. -/
noncomputable def Tryz.pinned : Pinned := { name := "ytdkgahnccefagaagreatdoor", sum := "2074ee90d875ca53b6437f0789598ffb8d86cd41110813dc26c63d1e26890b6d", checked := Tryz.checked }
namespace Rows
def none {H : Type} : Left H := { results := [], args := [] }

/- WHAT THE LISTED PACKAGE-LEVEL VARIABLES READ AS WHEN THE CALL BEGINS. Each datum BY PROGRAM (the guide's laid-datum.mjs) off the statement by which the dump's own 'gosem.cut.vars' lays the variable. In a bare row this is a premise. The card (YtdkgahnccefagaaGreatDoorCards.lean) ties it to the program's text. -/
def laid_unicode_utf8_acceptRanges {H : Type} : DataW H := .agg [.agg [.lit (.int .u8 128), .lit (.int .u8 191)], .agg [.lit (.int .u8 160), .lit (.int .u8 191)], .agg [.lit (.int .u8 128), .lit (.int .u8 159)], .agg [.lit (.int .u8 144), .lit (.int .u8 191)], .agg [.lit (.int .u8 128), .lit (.int .u8 143)], .agg [.lit (.int .u8 0), .lit (.int .u8 0)], .agg [.lit (.int .u8 0), .lit (.int .u8 0)], .agg [.lit (.int .u8 0), .lit (.int .u8 0)], .agg [.lit (.int .u8 0), .lit (.int .u8 0)], .agg [.lit (.int .u8 0), .lit (.int .u8 0)], .agg [.lit (.int .u8 0), .lit (.int .u8 0)], .agg [.lit (.int .u8 0), .lit (.int .u8 0)], .agg [.lit (.int .u8 0), .lit (.int .u8 0)], .agg [.lit (.int .u8 0), .lit (.int .u8 0)], .agg [.lit (.int .u8 0), .lit (.int .u8 0)], .agg [.lit (.int .u8 0), .lit (.int .u8 0)]]
/-- One of Go's own tables, pinned by name: the form's constant. -/
def laid_unicode_utf8_first : DataW Unit := Go.Pinned.utf8First

/-- 'trefoillaw22.NodeAway': WHATEVER THE INPUT: true; the input reads as it did. -/
def nodeAwaySpec : ChangeSpec := { name := "nodeAway", fn := fun _ => fun
  | [d1, d2] => { results := [.lit (.bool true)], args := [d1, d2] }
  | _ => none }
def nodeAwayRow : OpenClaim := { program := "ytdkgahnccefagaagreatdoor", sum := "2074ee90d875ca53b6437f0789598ffb8d86cd41110813dc26c63d1e26890b6d", func := "trefoil/trefoillaw22.NodeAway", spec := "nodeAway", inPlace := ["internal/bytealg.IndexByteString", "internal/bytealg.IndexString", "internal/bytealg.abigen_runtime_cmpstring", "internal/abi.NoEscape", "slices.overlaps[string]", "slices.overlaps[trefoil/api.Copies]", "slices.overlaps[trefoil/api.Member]"], unfollowed := true, recurses := true, named := ["unicode/utf8.first", "unicode/utf8.acceptRanges", "internal/bytealg.MaxLen"], apart := false, laid := [("unicode/utf8.acceptRanges", laid_unicode_utf8_acceptRanges), ("unicode/utf8.first", laid_unicode_utf8_first)] }
def NodeAwaySaid : Prop := nodeAwayRow.holds Tryz.pinned (OpenSpec.ofChange nodeAwaySpec)

/-- ITS FALSE NEIGHBOUR: 'it returns false'. Refute it at one input. -/
def nodeAwayWrong : ChangeSpec := { name := "nodeAway", fn := fun _ => fun
  | [d1, d2] => { results := [.lit (.bool false)], args := [d1, d2] }
  | _ => none }
def NodeAwayWrongFalsely : Prop := nodeAwayRow.holds Tryz.pinned (OpenSpec.ofChange nodeAwayWrong)

/-- 'trefoillaw24.ClientTx': WHATEVER THE INPUT: true; the input reads as it did. -/
def clientTxSpec : ChangeSpec := { name := "clientTx", fn := fun _ => fun
  | [d1, d2] => { results := [.lit (.bool true)], args := [d1, d2] }
  | _ => none }
def clientTxRow : OpenClaim := { program := "ytdkgahnccefagaagreatdoor", sum := "2074ee90d875ca53b6437f0789598ffb8d86cd41110813dc26c63d1e26890b6d", func := "trefoil/trefoillaw24.ClientTx", spec := "clientTx", inPlace := ["internal/bytealg.IndexByteString", "internal/bytealg.IndexString", "internal/bytealg.abigen_runtime_cmpstring", "internal/abi.NoEscape", "slices.overlaps[string]", "slices.overlaps[trefoil/api.Copies]", "slices.overlaps[trefoil/api.Member]", "internal/reflectlite.TypeOf"], unfollowed := true, recurses := true, named := ["unicode/utf8.first", "unicode/utf8.acceptRanges", "internal/bytealg.MaxLen"], apart := false, laid := [("unicode/utf8.acceptRanges", laid_unicode_utf8_acceptRanges), ("unicode/utf8.first", laid_unicode_utf8_first)] }
def ClientTxSaid : Prop := clientTxRow.holds Tryz.pinned (OpenSpec.ofChange clientTxSpec)

/-- ITS FALSE NEIGHBOUR: 'it returns false'. Refute it at one input. -/
def clientTxWrong : ChangeSpec := { name := "clientTx", fn := fun _ => fun
  | [d1, d2] => { results := [.lit (.bool false)], args := [d1, d2] }
  | _ => none }
def ClientTxWrongFalsely : Prop := clientTxRow.holds Tryz.pinned (OpenSpec.ofChange clientTxWrong)

/-- 'trefoillaw22.NodeHeats': WHATEVER THE INPUT: true; the input reads as it did. -/
def nodeHeatsSpec : ChangeSpec := { name := "nodeHeats", fn := fun _ => fun
  | [d] => { results := [.lit (.bool true)], args := [d] }
  | _ => none }
def nodeHeatsRow : OpenClaim := { program := "ytdkgahnccefagaagreatdoor", sum := "2074ee90d875ca53b6437f0789598ffb8d86cd41110813dc26c63d1e26890b6d", func := "trefoil/trefoillaw22.NodeHeats", spec := "nodeHeats", inPlace := ["internal/bytealg.IndexByteString", "internal/bytealg.IndexString", "internal/bytealg.abigen_runtime_cmpstring", "internal/abi.NoEscape", "slices.overlaps[string]", "slices.overlaps[trefoil/api.Copies]", "slices.overlaps[trefoil/api.Member]"], unfollowed := true, recurses := true, named := ["unicode/utf8.first", "unicode/utf8.acceptRanges", "internal/bytealg.MaxLen"], apart := false, laid := [("unicode/utf8.acceptRanges", laid_unicode_utf8_acceptRanges), ("unicode/utf8.first", laid_unicode_utf8_first)] }
def NodeHeatsSaid : Prop := nodeHeatsRow.holds Tryz.pinned (OpenSpec.ofChange nodeHeatsSpec)

/-- ITS FALSE NEIGHBOUR: 'it returns false'. Refute it at one input. -/
def nodeHeatsWrong : ChangeSpec := { name := "nodeHeats", fn := fun _ => fun
  | [d] => { results := [.lit (.bool false)], args := [d] }
  | _ => none }
def NodeHeatsWrongFalsely : Prop := nodeHeatsRow.holds Tryz.pinned (OpenSpec.ofChange nodeHeatsWrong)

/- THE SECOND FORM. 'bulk': how many values and letters a reading holds, each counted each time it is reached (what is shared counts as often as it is met; a slice's spare places count too). A statement '..UptoSaid' is the law's where the arguments, and the package variables that the reading takes, are together of bulk at most 1048576: NARROWER than '..Said'. Prove '..Said' where nothing that the law and all that it calls make is longer than what came in: it says more and counts as full. Else prove '..UptoSaid'. A law counts once. -/
mutual
def uptoBulk {H : Type} : DataW H → Nat
  | .lit (.string bytes) => bytes.length + 1
  | .lit _ => 1
  | .nil => 1
  | .ptr d => uptoBulk d + 1
  | .slice elems spare => uptoBulkAll elems + uptoBulkAll spare + 1
  | .agg parts => uptoBulkAll parts + 1
  | .iface _ d => uptoBulk d + 1
  | .map entries => uptoBulkEntries entries + 1
  | .held _ => 1
def uptoBulkAll {H : Type} : List (DataW H) → Nat
  | [] => 0
  | d :: r => uptoBulk d + uptoBulkAll r
def uptoBulkEntries {H : Type} : List (Lit × DataW H) → Nat
  | [] => 0
  | x :: r => uptoBulkEntry x + uptoBulkEntries r
def uptoBulkEntry {H : Type} : Lit × DataW H → Nat
  | (.string bytes, d) => bytes.length + uptoBulk d + 1
  | (_, d) => uptoBulk d + 1
 end
def uptoSmall : (H : Type) → List (DataW H) → Bool := fun _ ds => decide (uptoBulkAll ds ≤ 1048576)
def OpenSpec.upto (s : _root_.Go.ChangeSpec) : _root_.Go.OpenSpec := { _root_.Go.OpenSpec.ofChange s with cond := some uptoSmall }

/-- 'trefoillaw22.NodeAway', WHERE WHAT IT READS IS OF BULK AT MOST 1048576: true; the input reads as it did. -/
def nodeAwayUptoRow : OpenClaim := { program := "ytdkgahnccefagaagreatdoor", sum := "2074ee90d875ca53b6437f0789598ffb8d86cd41110813dc26c63d1e26890b6d", func := "trefoil/trefoillaw22.NodeAway", spec := "nodeAway", inPlace := ["internal/bytealg.IndexByteString", "internal/bytealg.IndexString", "internal/bytealg.abigen_runtime_cmpstring", "internal/abi.NoEscape", "slices.overlaps[string]", "slices.overlaps[trefoil/api.Copies]", "slices.overlaps[trefoil/api.Member]"], unfollowed := true, recurses := true, named := ["unicode/utf8.first", "unicode/utf8.acceptRanges", "internal/bytealg.MaxLen"], apart := false, laid := [("unicode/utf8.acceptRanges", laid_unicode_utf8_acceptRanges), ("unicode/utf8.first", laid_unicode_utf8_first)], narrowed := true }
def NodeAwayUptoSaid : Prop := nodeAwayUptoRow.holds Tryz.pinned (OpenSpec.upto nodeAwaySpec)

/-- 'trefoillaw24.ClientTx', WHERE WHAT IT READS IS OF BULK AT MOST 1048576: true; the input reads as it did. -/
def clientTxUptoRow : OpenClaim := { program := "ytdkgahnccefagaagreatdoor", sum := "2074ee90d875ca53b6437f0789598ffb8d86cd41110813dc26c63d1e26890b6d", func := "trefoil/trefoillaw24.ClientTx", spec := "clientTx", inPlace := ["internal/bytealg.IndexByteString", "internal/bytealg.IndexString", "internal/bytealg.abigen_runtime_cmpstring", "internal/abi.NoEscape", "slices.overlaps[string]", "slices.overlaps[trefoil/api.Copies]", "slices.overlaps[trefoil/api.Member]", "internal/reflectlite.TypeOf"], unfollowed := true, recurses := true, named := ["unicode/utf8.first", "unicode/utf8.acceptRanges", "internal/bytealg.MaxLen"], apart := false, laid := [("unicode/utf8.acceptRanges", laid_unicode_utf8_acceptRanges), ("unicode/utf8.first", laid_unicode_utf8_first)], narrowed := true }
def ClientTxUptoSaid : Prop := clientTxUptoRow.holds Tryz.pinned (OpenSpec.upto clientTxSpec)

/-- 'trefoillaw22.NodeHeats', WHERE WHAT IT READS IS OF BULK AT MOST 1048576: true; the input reads as it did. -/
def nodeHeatsUptoRow : OpenClaim := { program := "ytdkgahnccefagaagreatdoor", sum := "2074ee90d875ca53b6437f0789598ffb8d86cd41110813dc26c63d1e26890b6d", func := "trefoil/trefoillaw22.NodeHeats", spec := "nodeHeats", inPlace := ["internal/bytealg.IndexByteString", "internal/bytealg.IndexString", "internal/bytealg.abigen_runtime_cmpstring", "internal/abi.NoEscape", "slices.overlaps[string]", "slices.overlaps[trefoil/api.Copies]", "slices.overlaps[trefoil/api.Member]"], unfollowed := true, recurses := true, named := ["unicode/utf8.first", "unicode/utf8.acceptRanges", "internal/bytealg.MaxLen"], apart := false, laid := [("unicode/utf8.acceptRanges", laid_unicode_utf8_acceptRanges), ("unicode/utf8.first", laid_unicode_utf8_first)], narrowed := true }
def NodeHeatsUptoSaid : Prop := nodeHeatsUptoRow.holds Tryz.pinned (OpenSpec.upto nodeHeatsSpec)

end Rows
end Go.Proofs.YtdkgahnccefagaaGreatDoor
