/- The law MachineNil: the row; no condition but the row's own. -/
import Derived.Test.YtladebngkmgkoaaGreatDoorLaw3
import Derived.ChangeSame
import Derived.ChangeVars
import Derived.JoinedOf
import Derived.RowKit
import Derived.LaidLaws
namespace Go.Proofs.YtladebngkmgkoaaGreatDoor
open Go.Abs
set_option maxRecDepth 100000
theorem type0 : (((begin Tryz.prog (fun _ _ => 0) default).world.heap[0]?).bind Obj.row?).map (·.2) = some 523 := by kernel_rfl
theorem named0 : Tryz.prog.globalNamed "warder/types.rows" = some 0 := by kernel_rfl
theorem tyOf0 : (Tryz.prog.globals[0]?).map (·.type) = some 523 := by kernel_rfl
theorem size5 : 0 < Tryz.prog.globals.size := by rw [Tryz.globals_size]; decide
theorem block0 {W : World} (hS : W.ShapedOpen Tryz.prog) (hL : laidMetH Tryz.prog Rows.machineNilRow.laid W) : ∃ arr, W.heap[0]? = some (.cells arr 523 (0, 0)) ∧ arr.toList = rowsL := by
  obtain ⟨x, hx, hx2⟩ := Option.map_eq_some_iff.1 type0
  obtain ⟨zero, t⟩ := x
  simp only at hx2
  subst hx2
  obtain ⟨cs, h1, _, _⟩ := hS.1 0 zero 523 size5 hx
  refine ⟨cs, h1, ?_⟩
  have hL' : laidMet Tryz.prog Rows.machineNilRow.laid W := hL
  obtain ⟨ps, hv, _, _⟩ := hL'
  obtain ⟨_, _, _, _, _, _, _, _, _, _, hv, _⟩ := hv
  obtain ⟨_, _, _, _, _, _, _, _, _, _, hv, _⟩ := hv
  obtain ⟨_, _, _, _, _, _, _, _, _, _, hv, _⟩ := hv
  obtain ⟨g, ty, cs', fuel, p, q, k1, k2, k3, k4, _, _⟩ := hv
  rw [named0] at k1
  cases k1
  rw [tyOf0] at k2
  cases k2
  have e : W.var? Tryz.prog "warder/types.rows" = some cs := by simp [World.var?, named0, h1]
  rw [e] at k3
  cases k3
  exact rows_of_trod k4
end Go.Proofs.YtladebngkmgkoaaGreatDoor
