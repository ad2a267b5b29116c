/- Closed facts of the row of MachineNil; no condition. -/
import Derived.Test.YtladebngkmgkoaaGreatDoorRows
import Derived.JoinedOf
import Derived.KernelRfl
namespace Go.Proofs.YtladebngkmgkoaaGreatDoor
set_option maxRecDepth 100000
theorem fact13 : ((Rows.machineNilRow.maps == (Tryz.f3.params.toList ++ Rows.machineNilSpec.plain.varTypes Tryz.prog).any (Tryz.prog.mapsRec ·))) = true := by kernel_rfl
theorem fact14 : ((Rows.machineNilRow.ifaces == (Tryz.f3.params.toList ++ Rows.machineNilSpec.plain.varTypes Tryz.prog).any (Tryz.prog.ifacesRec ·))) = true := by kernel_rfl
theorem fact15 : ((Rows.machineNilRow.mapsOut == Tryz.prog.mapsAmong Tryz.f3.resultTypes.toList)) = true := by kernel_rfl
theorem fact16 : ((Rows.machineNilRow.loops == (Tryz.f3.params.toList ++ Rows.machineNilSpec.plain.varTypes Tryz.prog).any (Tryz.prog.loopsFrom ·))) = true := by kernel_rfl
theorem fact17 : ((Rows.machineNilRow.wideKeys == (Tryz.f3.params.toList ++ Rows.machineNilSpec.plain.varTypes Tryz.prog ++ Tryz.f3.resultTypes.toList).any (Tryz.prog.wideKeysFrom ·))) = true := by kernel_rfl
end Go.Proofs.YtladebngkmgkoaaGreatDoor
