/- The closed facts of the card. -/
import Derived.Test.YtdkgahnccefagaaGreatDoorCards
import Derived.SevenTiedAt
import Derived.KernelRfl
set_option maxRecDepth 100000
namespace Go.Proofs.YtdkgahnccefagaaGreatDoor.nodeAway
open Go
theorem fwf : Rows.nodeAwayRow.wfByText (OpenSpec.ofChange Rows.nodeAwaySpec) = true := by kernel_rfl
theorem fmain : Tryz.prog.mainIs = some (true, "b3dd5199427ceb464eef05cbf154c5a2e7dc268f7fa0ae59db33b8e5650237b7".toList) := by kernel_rfl
theorem flooks : true = Tryz.prog.looks [] := by kernel_rfl
theorem fstand : ([5, 4].all fun u => !Tryz.prog.wantsStandIn u) = true := by kernel_rfl
theorem fgoes : false = Rows.nodeAwayRow.goesBy Tryz.prog := by kernel_rfl
theorem fnamed : Tryz.prog.funcNamed "trefoil/trefoillaw22.NodeAway" = some 3 := by kernel_rfl
end Go.Proofs.YtdkgahnccefagaaGreatDoor.nodeAway
