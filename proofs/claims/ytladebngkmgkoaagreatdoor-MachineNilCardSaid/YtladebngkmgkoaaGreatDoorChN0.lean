/- The law MachineNil, run by the abstract machine: region 0; no condition. -/
import Derived.Test.YtladebngkmgkoaaGreatDoorLaw0
namespace Go.Proofs.YtladebngkmgkoaaGreatDoor
open Go.Abs
set_option maxRecDepth 100000
def tN0 : List Value := [vf, vx, vx, vx, vx, vx, vx, vx, vx, vx, vx, vx, vx, vx, vx, vx, vx, vx, vx, vx, vx, vx, vx, vx, vx, vx, vx, vx, vx, vx, vx, vx, vx, vx, vx, vx, vx, vx, vx, vx, vx, vx, vx, vx, vx, vx, vx, vx, vx, vx, vx, vx, vx, vx, vx, vx, vx, vx, vx, vx, vx, vx, vx, vx, vx, vx, vx, vx, vx, vx, vx, vx, vx, vx, vx, vx, vx, vx, vx, vx, vx, vx, vx, vx, vx, vx, vx]
theorem chN0 : outIs (execC lawC rN none (nthC 0 nilK) (enterF Tryz.f3 []) H0) .normal tN0 H0 = true := by kernel_rfl
end Go.Proofs.YtladebngkmgkoaaGreatDoor
