/- The law MachineNil, run by the abstract machine: the names of its parts; no condition. -/
import Derived.Test.YtladebngkmgkoaaGreatDoorChecked
import Derived.KernelRfl
import Derived.Test.YtladebngkmgkoaaGreatDoorAbsB
namespace Go.Proofs.YtladebngkmgkoaaGreatDoor
open Go.Abs
set_option maxRecDepth 100000
noncomputable def lawC : Cfg := { P := Tryz.prog, K := [0] }
def nthC : Nat → Code → Code
  | 0, .seq a _ => a
  | 0, a => a
  | n + 1, .seq _ b => nthC n b
  | _, _ => .skip
def sndC : Code → Code
  | .seq _ b => b
  | c => c
def inBl : Code → Code
  | .block _ b => b
  | c => c
def inLp : Code → Code
  | .loop b => b
  | c => c
noncomputable def nilK : Code := Tryz.f3.body.getD .skip
noncomputable def knK : Code := Tryz.f15.body.getD .skip
noncomputable def bodyK : Code := inLp (inBl (sndC (nthC 5 knK)))
noncomputable def rN : Rec := recN lawC 1000 60
noncomputable def rK : Rec := recN lawC 1000 59
def H0 : Heap := ⟨13, (vN vL (vc [(vg []), (vi 0), (vi 0), (vi 0), (vg [117, 115, 101, 114]), (vi 1), (vi 128), (vi 3), (vg [108, 111, 103, 111, 110]), (vi 1), (vi 64), (vi 2), (vg [98, 105, 103]), (vi 1), (vi 256), (vi 3), (vg [107, 101, 121, 114, 105, 110, 103]), (vi 0), (vi 0), (vi 5)] 523) vL)⟩
end Go.Proofs.YtladebngkmgkoaaGreatDoor
