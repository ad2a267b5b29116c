/- Closed facts of the row of MachineNil; no condition. -/
import Derived.Test.YtladebngkmgkoaaGreatDoorRows
import Derived.JoinedOf
import Derived.KernelRfl
namespace Go.Proofs.YtladebngkmgkoaaGreatDoor
set_option maxRecDepth 100000
theorem fact12 : ((Rows.machineNilRow.named == Tryz.prog.varsNamed 3)) = true := by kernel_rfl
end Go.Proofs.YtladebngkmgkoaaGreatDoor
