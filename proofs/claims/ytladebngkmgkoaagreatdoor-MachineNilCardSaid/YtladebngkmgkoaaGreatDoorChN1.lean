/- The law MachineNil, run by the abstract machine: region 1; no condition. -/
import Derived.Test.YtladebngkmgkoaaGreatDoorChN0
namespace Go.Proofs.YtladebngkmgkoaaGreatDoor
open Go.Abs
set_option maxRecDepth 100000
def tN1 : List Value := [vf, v0, vx, vx, vx, vx, vx, vx, vx, vx, vx, vx, vx, vx, vx, vx, vx, vx, vx, vx, vx, vx, vx, vx, vx, vx, vx, vx, vx, vx, vx, vx, vx, vx, vx, vx, vx, vx, vx, vx, vx, vx, vx, vx, vx, vx, vx, vx, vx, vx, vx, vx, vx, vx, vx, vx, vx, vx, vx, vx, vx, vx, vx, vx, vx, vx, vx, vx, vx, vx, vx, vx, vx, vx, vx, vx, vx, vx, vx, vx, vx, vx, vx, vx, vx, vx, vx]
theorem chN1 : outIs (execC lawC rN none (nthC 1 nilK) ⟨tN0, []⟩ H0) .normal tN1 H0 = true := by kernel_rfl
end Go.Proofs.YtladebngkmgkoaaGreatDoor
