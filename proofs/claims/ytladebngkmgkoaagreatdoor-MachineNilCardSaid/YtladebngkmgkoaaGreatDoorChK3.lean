/- The law MachineNil, run by the abstract machine: known, part 3; no condition. -/
import Derived.Test.YtladebngkmgkoaaGreatDoorChK2
namespace Go.Proofs.YtladebngkmgkoaaGreatDoor
open Go.Abs
set_option maxRecDepth 100000
def tK3 : List Value := [vf, (vo 96 0 6 6), (vp 154 0), (vi 0), vx, vx, vx, vx, (va [(vi 17), (vi (-3)), (vi 0), (vi 0), (vi 0), (vg []), (vg []), (v4 0), (vi 0), (vi 0), (vu 0), (vi 0), vt]), (vo 96 0 6 6), (vT [(vp 154 0), (vi 0)]), (va [(vl 99 0 1 1), (vi 4), (vi 8), (vi 8), (vu 9), (vu 99)]), (vo 96 0 6 6), (vg [17, 253, 255, 255, 255, 1]), (va [(vi 0), (vu 4), (vg [17, 253, 255, 255, 255, 1])]), (vl 97 0 1 1), (vT [(vp 154 0), (vi 0)]), (vp 154 0), (vi 0), (vi 0), vf, vf, (vp 154 0), vf, vf, vx, vx, vx, vx, vx, vx, vx, vx, vx, vx, vx, vx, vx, vx, vx, vx, vx, vx, vx, vx, vx, vx, vx, vx, vx, vx, vx, vx, vx, vx, vx, vx, vx, vx, vx, vx, vx, vx, vx, vx, vx, vx, vx, vx, vx, vx, vx, vx, vx, vx, vx, vx, vx]
theorem chK3 : outIs (execC lawC rK none (nthC 3 knK) ⟨tK2, []⟩ HK2) .normal tK3 HK2 = true := by kernel_rfl
end Go.Proofs.YtladebngkmgkoaaGreatDoor
