/- 'warderlaw25.MachineNil' returns true whatever the input (it takes none), and what was there reads as it did. CONDITIONS: the listed package-level variables hold what the program's text lays (the card ties them). -/
import Derived.Test.YtladebngkmgkoaaGreatDoorFactA
import Derived.Test.YtladebngkmgkoaaGreatDoorFactB
import Derived.Test.YtladebngkmgkoaaGreatDoorFactC
import Derived.Test.YtladebngkmgkoaaGreatDoorFactD
import Derived.Test.YtladebngkmgkoaaGreatDoorFactE
import Derived.Test.YtladebngkmgkoaaGreatDoorFactF
import Derived.Test.YtladebngkmgkoaaGreatDoorFactG
import Derived.Test.YtladebngkmgkoaaGreatDoorFactH
import Derived.Test.YtladebngkmgkoaaGreatDoorLaw5
namespace Go.Proofs.YtladebngkmgkoaaGreatDoor
open Go.Abs
set_option maxRecDepth 100000
theorem and_t {a b : Bool} (h : a = true) (h' : b = true) : (a && b) = true := by rw [h, h']; rfl
theorem facts : joinedFacts Tryz.prog 3 Tryz.f3 Rows.machineNilSpec Rows.machineNilRow = true := by
  unfold joinedFacts
  exact and_t (and_t (and_t (and_t (and_t (and_t (and_t (and_t (and_t (and_t (and_t (and_t (and_t (and_t (and_t (and_t (and_t (and_t (and_t (and_t (and_t (and_t (and_t (and_t (and_t (and_t (and_t (and_t (and_t (and_t (and_t (fact0) fact1) fact2) fact3) fact4) fact5) fact6) fact7) fact8) fact9) fact10) fact11) fact12) fact13) fact14) fact15) fact16) fact17) fact18) fact19) fact20) fact21) fact22) fact23) fact24) fact25) fact26) fact27) fact28) fact29) fact30) fact31
theorem machineNil_holds : Rows.MachineNilSaid :=
  OpenClaim.holds_of_wide 3 Tryz.f3 rfl rfl rfl rfl rfl rfl rfl ⟨rfl, rfl, rfl, rfl, rfl⟩ rfl rfl rfl rfl rfl (by kernel_rfl) Tryz.func3 facts
    (of_decide_eq_true (by kernel_rfl)) (by unfold Func.isWrapper; rw [if_neg (of_decide_eq_false (by kernel_rfl))]; exact ⟨rfl, rfl⟩)
    (fun os started H enc _ => law_lifted os started H enc)
end Go.Proofs.YtladebngkmgkoaaGreatDoor
