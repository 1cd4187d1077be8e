/-
  No cell of these rows narrows 'for every input' (looked for: loops, veiled, ifaces, maps, wideKeys, modest, calm, conditions, laid).
  DERIVED. THE GIVEN ROWS OF THIS SEAT. 2 by the template 'for every input the law returns true; each argument reads behind the call as it read before'; 0 by the template 'total and deterministic' (their statements: YtjpllnhlpgbgmaaGreatTotals.lean).
  GIVEN WITH THE SEED: the statements are not yours to turn. If you find one false, say at which input.
  Laid BY PROGRAM, IN A SANDBOX (cutbox-rows.mjs): the forced cells as the released guide's own fill.sh prints them over the translation dfee2f2ec83f6b66… (all of the seat's roots in one cut). By AI agents, Wed Nov 11 2026. No macro, syntax, notation, axiom, sorry.
-/
import Derived.Test.YtjpllnhlpgbgmaaGreatChecked
import GoSem.Claim
import GoSem.ClaimJoined
import GoSem.ClaimMapViews
import Derived.JoinedTies
import Derived.KernelRfl
namespace Go.Proofs.YtjpllnhlpgbgmaaGreat
/- THE CELL 'sum', in the pinned program and in every row, IS THE sha256 OF THE DUMP (.gsa) THAT YtjpllnhlpgbgmaaGreatProg.lean LOADS. Nothing in Lean hashes anything: it is a label: what it is worth is what the hold of that sum in a sandbox is worth. -/
noncomputable def Tryz.pinned : Pinned := { name := "ytjpllnhlpgbgmaagreat", sum := "dfee2f2ec83f6b662ac96c6531b8a97343f7116b5581fad7614006b2426a6ffb", checked := Tryz.checked }
namespace Rows
def none {H : Type} : Left H := { results := [], args := [] }

/-- 'trefoillaw7.CanonMaps': WHATEVER THE INPUT: true; the input reads as it did. -/
def canonMapsSpec : ChangeSpec := { name := "canonMaps", fn := fun _ => fun
  | [d1, d2] => { results := [.lit (.bool true)], args := [d1, d2] }
  | _ => none }
def canonMapsRow : OpenClaim := { program := "ytjpllnhlpgbgmaagreat", sum := "dfee2f2ec83f6b662ac96c6531b8a97343f7116b5581fad7614006b2426a6ffb", func := "trefoil/trefoillaw7.CanonMaps", spec := "canonMaps", inPlace := ["internal/bytealg.abigen_runtime_cmpstring", "internal/reflectlite.TypeOf"], unfollowed := true, recurses := true, apart := false }
def CanonMapsSaid : Prop := canonMapsRow.holds Tryz.pinned (OpenSpec.ofChange canonMapsSpec)

/-- ITS FALSE NEIGHBOUR: 'it returns false'. Refute it at one input. -/
def canonMapsWrong : ChangeSpec := { name := "canonMaps", fn := fun _ => fun
  | [d1, d2] => { results := [.lit (.bool false)], args := [d1, d2] }
  | _ => none }
def CanonMapsWrongFalsely : Prop := canonMapsRow.holds Tryz.pinned (OpenSpec.ofChange canonMapsWrong)

/-- 'trefoillaw7.CanonVersions': WHATEVER THE INPUT: true; the input reads as it did. -/
def canonVersionsSpec : ChangeSpec := { name := "canonVersions", fn := fun _ => fun
  | [d] => { results := [.lit (.bool true)], args := [d] }
  | _ => none }
def canonVersionsRow : OpenClaim := { program := "ytjpllnhlpgbgmaagreat", sum := "dfee2f2ec83f6b662ac96c6531b8a97343f7116b5581fad7614006b2426a6ffb", func := "trefoil/trefoillaw7.CanonVersions", spec := "canonVersions", inPlace := ["internal/bytealg.abigen_runtime_cmpstring", "internal/reflectlite.TypeOf"], unfollowed := true, recurses := true, apart := false }
def CanonVersionsSaid : Prop := canonVersionsRow.holds Tryz.pinned (OpenSpec.ofChange canonVersionsSpec)

/-- ITS FALSE NEIGHBOUR: 'it returns false'. Refute it at one input. -/
def canonVersionsWrong : ChangeSpec := { name := "canonVersions", fn := fun _ => fun
  | [d] => { results := [.lit (.bool false)], args := [d] }
  | _ => none }
def CanonVersionsWrongFalsely : Prop := canonVersionsRow.holds Tryz.pinned (OpenSpec.ofChange canonVersionsWrong)

/- THE SECOND FORM. 'bulk': how many values and letters a reading holds, each counted each time it is reached (what is shared counts as often as it is met; a slice's spare places count too). A statement '..UptoSaid' is the law's where the arguments, and the package variables that the reading takes, are together of bulk at most 1048576: NARROWER than '..Said'. Prove '..Said' where nothing that the law and all that it calls make is longer than what came in: it says more and counts as full. Else prove '..UptoSaid'. A law counts once. -/
mutual
def uptoBulk {H : Type} : DataW H → Nat
  | .lit (.string bytes) => bytes.length + 1
  | .lit _ => 1
  | .nil => 1
  | .ptr d => uptoBulk d + 1
  | .slice elems spare => uptoBulkAll elems + uptoBulkAll spare + 1
  | .agg parts => uptoBulkAll parts + 1
  | .iface _ d => uptoBulk d + 1
  | .map entries => uptoBulkEntries entries + 1
  | .held _ => 1
def uptoBulkAll {H : Type} : List (DataW H) → Nat
  | [] => 0
  | d :: r => uptoBulk d + uptoBulkAll r
def uptoBulkEntries {H : Type} : List (Lit × DataW H) → Nat
  | [] => 0
  | x :: r => uptoBulkEntry x + uptoBulkEntries r
def uptoBulkEntry {H : Type} : Lit × DataW H → Nat
  | (.string bytes, d) => bytes.length + uptoBulk d + 1
  | (_, d) => uptoBulk d + 1
 end
def uptoSmall : (H : Type) → List (DataW H) → Bool := fun _ ds => decide (uptoBulkAll ds ≤ 1048576)
def OpenSpec.upto (s : _root_.Go.ChangeSpec) : _root_.Go.OpenSpec := { _root_.Go.OpenSpec.ofChange s with cond := some uptoSmall }

/-- 'trefoillaw7.CanonMaps', WHERE WHAT IT READS IS OF BULK AT MOST 1048576: true; the input reads as it did. -/
def canonMapsUptoRow : OpenClaim := { program := "ytjpllnhlpgbgmaagreat", sum := "dfee2f2ec83f6b662ac96c6531b8a97343f7116b5581fad7614006b2426a6ffb", func := "trefoil/trefoillaw7.CanonMaps", spec := "canonMaps", inPlace := ["internal/bytealg.abigen_runtime_cmpstring", "internal/reflectlite.TypeOf"], unfollowed := true, recurses := true, apart := false, narrowed := true }
def CanonMapsUptoSaid : Prop := canonMapsUptoRow.holds Tryz.pinned (OpenSpec.upto canonMapsSpec)

/-- 'trefoillaw7.CanonVersions', WHERE WHAT IT READS IS OF BULK AT MOST 1048576: true; the input reads as it did. -/
def canonVersionsUptoRow : OpenClaim := { program := "ytjpllnhlpgbgmaagreat", sum := "dfee2f2ec83f6b662ac96c6531b8a97343f7116b5581fad7614006b2426a6ffb", func := "trefoil/trefoillaw7.CanonVersions", spec := "canonVersions", inPlace := ["internal/bytealg.abigen_runtime_cmpstring", "internal/reflectlite.TypeOf"], unfollowed := true, recurses := true, apart := false, narrowed := true }
def CanonVersionsUptoSaid : Prop := canonVersionsUptoRow.holds Tryz.pinned (OpenSpec.upto canonVersionsSpec)

end Rows
end Go.Proofs.YtjpllnhlpgbgmaaGreat
