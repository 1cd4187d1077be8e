/- The closed facts of the card. -/
import Derived.Test.YtdkgahnccefagaaGreatDoorCards
import Derived.SevenTiedAt
import Derived.KernelRfl
set_option maxRecDepth 100000
namespace Go.Proofs.YtdkgahnccefagaaGreatDoor.clientTx
open Go
theorem fwf : Rows.clientTxRow.wfByText (OpenSpec.ofChange Rows.clientTxSpec) = true := by kernel_rfl
theorem fmain : Tryz.prog.mainIs = some (true, "b3dd5199427ceb464eef05cbf154c5a2e7dc268f7fa0ae59db33b8e5650237b7".toList) := by kernel_rfl
theorem flooks : true = Tryz.prog.looks [] := by kernel_rfl
theorem fstand : ([5, 4].all fun u => !Tryz.prog.wantsStandIn u) = true := by kernel_rfl
theorem fgoes : false = Rows.clientTxRow.goesBy Tryz.prog := by kernel_rfl
theorem fnamed : Tryz.prog.funcNamed "trefoil/trefoillaw24.ClientTx" = some 4 := by kernel_rfl
end Go.Proofs.YtdkgahnccefagaaGreatDoor.clientTx
