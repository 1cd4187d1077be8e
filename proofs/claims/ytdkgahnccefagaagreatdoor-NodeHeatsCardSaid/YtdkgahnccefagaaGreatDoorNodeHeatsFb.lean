/- The closed facts of the card. -/
import Derived.Test.YtdkgahnccefagaaGreatDoorCards
import Derived.SevenTiedAt
import Derived.KernelRfl
set_option maxRecDepth 100000
namespace Go.Proofs.YtdkgahnccefagaaGreatDoor.nodeHeats
open Go
theorem fwf : Rows.nodeHeatsRow.wfByText (OpenSpec.ofChange Rows.nodeHeatsSpec) = true := by kernel_rfl
theorem fmain : Tryz.prog.mainIs = some (true, "b3dd5199427ceb464eef05cbf154c5a2e7dc268f7fa0ae59db33b8e5650237b7".toList) := by kernel_rfl
theorem flooks : true = Tryz.prog.looks [] := by kernel_rfl
theorem fstand : ([5].all fun u => !Tryz.prog.wantsStandIn u) = true := by kernel_rfl
theorem fgoes : false = Rows.nodeHeatsRow.goesBy Tryz.prog := by kernel_rfl
theorem fnamed : Tryz.prog.funcNamed "trefoil/trefoillaw22.NodeHeats" = some 5 := by kernel_rfl
end Go.Proofs.YtdkgahnccefagaaGreatDoor.nodeHeats
