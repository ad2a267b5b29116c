/- Closed facts of the row of MachineNil; no condition. -/
import Derived.Test.YtladebngkmgkoaaGreatDoorRows
import Derived.JoinedOf
import Derived.KernelRfl
namespace Go.Proofs.YtladebngkmgkoaaGreatDoor
set_option maxRecDepth 100000
theorem fact10 : ((Rows.machineNilRow.unfollowed == Tryz.prog.unfollowed 3)) = true := by kernel_rfl
end Go.Proofs.YtladebngkmgkoaaGreatDoor
