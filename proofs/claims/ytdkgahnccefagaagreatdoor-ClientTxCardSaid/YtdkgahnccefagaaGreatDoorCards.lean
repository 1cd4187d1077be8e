/-
  DERIVED. GIVEN WITH THE SEED: THE CARDS: each row of YtdkgahnccefagaaGreatDoorRows.lean that lists a variable, with what it lists TIED to the program's text (the seventh form; the later family's looks); each row that meets fmt, with fmt's text TOLD by the authors' own Lean function (tested against real Go, not proved from fmt's source: count such statements apart). THE CARD IS WHAT COUNTS. Prove the row's statement (the work); the ties are given (YtdkgahnccefagaaGreatDoorTie.lean); close each card by the builder's one call (the guide's Derived/Test/ToyasCard.lean, 'card_holds'). Laid BY PROGRAM, IN A SANDBOX (cutbox-door.mjs). By AI agents, Wed Nov 11 2026. No macro, syntax, notation, axiom, sorry.
-/
import Derived.Test.YtdkgahnccefagaaGreatDoorRows
import GoSem.ClaimSeven
namespace Go.Proofs.YtdkgahnccefagaaGreatDoor
namespace Rows

/-- THE TIED CARD OF 'trefoillaw22.NodeAway'. -/
def nodeAwayCard : Claim7 := { stood := { row := nodeAwayRow, standIns := [], harness := (true, "b3dd5199427ceb464eef05cbf154c5a2e7dc268f7fa0ae59db33b8e5650237b7"), looks := true }, kinds := [], alts := [], laidByText := true, laidKinds := [.data, .pinned], laidTests := true, laidLooks := .later }
def NodeAwayCardSaid : Prop := Claim7.holds Tryz.pinned (.plain (OpenSpec.ofChange nodeAwaySpec)) nodeAwayCard

/-- THE TIED CARD OF 'trefoillaw24.ClientTx'. -/
def clientTxCard : Claim7 := { stood := { row := clientTxRow, standIns := [], harness := (true, "b3dd5199427ceb464eef05cbf154c5a2e7dc268f7fa0ae59db33b8e5650237b7"), looks := true }, kinds := [], alts := [], laidByText := true, laidKinds := [.data, .pinned], laidTests := true, laidLooks := .later }
def ClientTxCardSaid : Prop := Claim7.holds Tryz.pinned (.plain (OpenSpec.ofChange clientTxSpec)) clientTxCard

/-- THE TIED CARD OF 'trefoillaw22.NodeHeats'. -/
def nodeHeatsCard : Claim7 := { stood := { row := nodeHeatsRow, standIns := [], harness := (true, "b3dd5199427ceb464eef05cbf154c5a2e7dc268f7fa0ae59db33b8e5650237b7"), looks := true }, kinds := [], alts := [], laidByText := true, laidKinds := [.data, .pinned], laidTests := true, laidLooks := .later }
def NodeHeatsCardSaid : Prop := Claim7.holds Tryz.pinned (.plain (OpenSpec.ofChange nodeHeatsSpec)) nodeHeatsCard

/-- THE SECOND FORM's CARD OF 'trefoillaw22.NodeAway'. -/
def nodeAwayUptoCard : Claim7 := { stood := { row := nodeAwayUptoRow, standIns := [], harness := (true, "b3dd5199427ceb464eef05cbf154c5a2e7dc268f7fa0ae59db33b8e5650237b7"), looks := true }, kinds := [], alts := [], laidByText := true, laidKinds := [.data, .pinned], laidTests := true, laidLooks := .later }
def NodeAwayUptoCardSaid : Prop := Claim7.holds Tryz.pinned (.plain (OpenSpec.upto nodeAwaySpec)) nodeAwayUptoCard

/-- THE SECOND FORM's CARD OF 'trefoillaw24.ClientTx'. -/
def clientTxUptoCard : Claim7 := { stood := { row := clientTxUptoRow, standIns := [], harness := (true, "b3dd5199427ceb464eef05cbf154c5a2e7dc268f7fa0ae59db33b8e5650237b7"), looks := true }, kinds := [], alts := [], laidByText := true, laidKinds := [.data, .pinned], laidTests := true, laidLooks := .later }
def ClientTxUptoCardSaid : Prop := Claim7.holds Tryz.pinned (.plain (OpenSpec.upto clientTxSpec)) clientTxUptoCard

/-- THE SECOND FORM's CARD OF 'trefoillaw22.NodeHeats'. -/
def nodeHeatsUptoCard : Claim7 := { stood := { row := nodeHeatsUptoRow, standIns := [], harness := (true, "b3dd5199427ceb464eef05cbf154c5a2e7dc268f7fa0ae59db33b8e5650237b7"), looks := true }, kinds := [], alts := [], laidByText := true, laidKinds := [.data, .pinned], laidTests := true, laidLooks := .later }
def NodeHeatsUptoCardSaid : Prop := Claim7.holds Tryz.pinned (.plain (OpenSpec.upto nodeHeatsSpec)) nodeHeatsUptoCard
end Rows
end Go.Proofs.YtdkgahnccefagaaGreatDoor
