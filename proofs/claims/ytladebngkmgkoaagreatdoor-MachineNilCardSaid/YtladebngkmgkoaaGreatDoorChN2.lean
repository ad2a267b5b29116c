/- The law MachineNil, run by the abstract machine: region 2; no condition. -/
import Derived.Test.YtladebngkmgkoaaGreatDoorChN1
namespace Go.Proofs.YtladebngkmgkoaaGreatDoor
open Go.Abs
set_option maxRecDepth 100000
def tN2 : List Value := [vf, v0, (vp 13 0), vx, vx, vx, vx, vx, vx, vx, vx, vx, vx, vx, vx, vx, vx, vx, vx, vx, vx, vx, vx, vx, vx, vx, vx, vx, vx, vx, vx, vx, vx, vx, vx, vx, vx, vx, vx, vx, vx, vx, vx, vx, vx, vx, vx, vx, vx, vx, vx, vx, vx, vx, vx, vx, vx, vx, vx, vx, vx, vx, vx, vx, vx, vx, vx, vx, vx, vx, vx, vx, vx, vx, vx, vx, vx, vx, vx, vx, vx, vx, vx, vx, vx, vx, vx]
def HN2 : Heap := ⟨14, (vN (vN vL none (vN vL none (vN vL (vc [v0, vz, vz, vz, vz, vz, vz, vz, vz, vz, v0, v0, v0, v0, v0, v0, v0, v0, (vi 0), (vi 0), (vi 0), (vi 0), (vi 0), (vi 0), (vi 0), (vi 0), vz, vz] 33) vL))) (vc [(vg []), (vi 0), (vi 0), (vi 0), (vg [117, 115, 101, 114]), (vi 1), (vi 128), (vi 3), (vg [108, 111, 103, 111, 110]), (vi 1), (vi 64), (vi 2), (vg [98, 105, 103]), (vi 1), (vi 256), (vi 3), (vg [107, 101, 121, 114, 105, 110, 103]), (vi 0), (vi 0), (vi 5)] 523) vL)⟩
theorem chN2 : outIs (execC lawC rN none (nthC 2 nilK) ⟨tN1, []⟩ H0) .normal tN2 HN2 = true := by kernel_rfl
end Go.Proofs.YtladebngkmgkoaaGreatDoor
