/- The law MachineNil, run by the abstract machine: known, ahead of its loop; no condition. -/
import Derived.Test.YtladebngkmgkoaaGreatDoorChK4
namespace Go.Proofs.YtladebngkmgkoaaGreatDoor
open Go.Abs
set_option maxRecDepth 100000
def tK5 : List Value := [vf, (vo 96 0 6 6), (vp 154 0), (vi 0), (vl 158 0 6 6), (vi 0), vx, vx, (va [(vi 17), (vi (-3)), (vi 0), (vi 0), (vi 0), (vg []), (vg []), (v4 0), (vi 0), (vi 0), (vu 0), (vi 0), vt]), (vo 96 0 6 6), (vT [(vp 154 0), (vi 0)]), (va [(vl 99 0 1 1), (vi 4), (vi 8), (vi 8), (vu 9), (vu 99)]), (vo 96 0 6 6), (vg [17, 253, 255, 255, 255, 1]), (va [(vi 0), (vu 4), (vg [17, 253, 255, 255, 255, 1])]), (vl 97 0 1 1), (vT [(vp 154 0), (vi 0)]), (vp 154 0), (vi 0), (vi 0), vf, vf, (vp 154 0), vf, vf, (vl 158 0 6 6), vx, vx, vx, vx, vx, vx, vx, vx, vx, vx, vx, vx, vx, vx, vx, vx, vx, vx, vx, vx, vx, vx, vx, vx, vx, vx, vx, vx, vx, vx, vx, vx, vx, vx, vx, vx, vx, vx, vx, vx, vx, vx, vx, vx, vx, vx, vx, vx, vx, vx, vx, vx]
theorem chK5 : outIs (execC lawC rK none (nthC 0 (nthC 5 knK)) ⟨tK4, []⟩ HK4) .normal tK5 HK4 = true := by kernel_rfl
end Go.Proofs.YtladebngkmgkoaaGreatDoor
