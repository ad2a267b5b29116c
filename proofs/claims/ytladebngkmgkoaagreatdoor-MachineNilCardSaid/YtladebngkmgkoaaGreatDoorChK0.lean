/- The law MachineNil, run by the abstract machine: known, part 0; no condition. -/
import Derived.Test.YtladebngkmgkoaaGreatDoorChN6
namespace Go.Proofs.YtladebngkmgkoaaGreatDoor
open Go.Abs
set_option maxRecDepth 100000
def tK0 : List Value := [vf, vx, vx, vx, vx, vx, vx, vx, vx, vx, vx, vx, vx, vx, vx, vx, vx, vx, vx, vx, vx, vx, vx, vx, vx, vx, vx, vx, vx, vx, vx, vx, vx, vx, vx, vx, vx, vx, vx, vx, vx, vx, vx, vx, vx, vx, vx, vx, vx, vx, vx, vx, vx, vx, vx, vx, vx, vx, vx, vx, vx, vx, vx, vx, vx, vx, vx, vx, vx, vx, vx, vx, vx, vx, vx, vx, vx, vx]
theorem chK0 : outIs (execC lawC rK none (nthC 0 knK) (enterF Tryz.f15 []) HN6) .normal tK0 HN6 = true := by kernel_rfl
end Go.Proofs.YtladebngkmgkoaaGreatDoor
