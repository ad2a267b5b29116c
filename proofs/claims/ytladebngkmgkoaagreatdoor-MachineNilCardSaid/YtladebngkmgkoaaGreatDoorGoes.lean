/- No function of the program starts a goroutine; no condition. -/
import Derived.Test.YtladebngkmgkoaaGreatDoorRows
import GoSem.ClaimSeven
namespace Go.Proofs.YtladebngkmgkoaaGreatDoor
set_option maxRecDepth 100000
theorem no_goes : Tryz.prog.funcs.toList.any Func.goes = false := by kernel_rfl
theorem goes_false (f : FuncId) : Tryz.prog.goes f = false := by
  have h1 : ∀ g : FuncId, (Tryz.prog.funcs[g]?).any Func.goes = false := fun g => by
    cases hg : Tryz.prog.funcs[g]? with
    | none => rfl
    | some fn =>
      have h := List.any_eq_false.1 no_goes fn (by
        rw [Array.mem_toList_iff]
        exact Array.mem_of_getElem? hg)
      simpa using h
  have h2 : Tryz.prog.funcs.any Func.goes = false := by
    rw [← Array.any_toList]
    exact no_goes
  unfold Program.goes
  rw [h2, Bool.and_false, Bool.or_false, List.any_eq_false]
  intro g _
  rw [h1 g]
  simp
theorem goes_by : false = Rows.machineNilRow.goesBy Tryz.pinned.checked.prog := by
  show false = Tryz.prog.goesAt .entering _
  unfold Program.goesAt Program.goesFrom
  cases Tryz.prog.funcNamed Rows.machineNilRow.func with
  | none => rfl
  | some f => simp [goes_false f]
end Go.Proofs.YtladebngkmgkoaaGreatDoor
