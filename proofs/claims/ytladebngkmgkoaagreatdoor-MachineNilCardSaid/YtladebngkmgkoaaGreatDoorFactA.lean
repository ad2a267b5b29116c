/- Closed facts of the row of MachineNil; no condition. -/
import Derived.Test.YtladebngkmgkoaaGreatDoorRows
import Derived.JoinedOf
import Derived.KernelRfl
namespace Go.Proofs.YtladebngkmgkoaaGreatDoor
set_option maxRecDepth 100000
theorem fact0 : (Rows.machineNilRow.wf (OpenSpec.ofChange Rows.machineNilSpec)) = true := by kernel_rfl
theorem fact1 : (laidOutB Tryz.prog) = true := by kernel_rfl
theorem fact2 : (mapsRowed Tryz.prog) = true := by kernel_rfl
theorem fact3 : (Tryz.f3.params.all (Tryz.prog.readableRec ·)) = true := by kernel_rfl
theorem fact4 : (namedTie Tryz.prog Rows.machineNilRow.named Rows.machineNilSpec.vars) = true := by kernel_rfl
theorem fact5 : ((Rows.machineNilRow.stops == [])) = true := by kernel_rfl
theorem fact6 : ((Tryz.prog.stops == [])) = true := by kernel_rfl
theorem fact7 : ((Rows.machineNilRow.knobs == [])) = true := by kernel_rfl
theorem fact8 : ((Tryz.prog.stopKnobs == [])) = true := by kernel_rfl
end Go.Proofs.YtladebngkmgkoaaGreatDoor
