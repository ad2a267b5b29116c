/- The law MachineNil: the row holds; no condition but the row's own. -/
import Derived.Test.YtladebngkmgkoaaGreatDoorLaw4
import Derived.Stop.Joined
namespace Go.Proofs.YtladebngkmgkoaaGreatDoor
open Go.Abs Go.ChangeShapes Go.WideShapes Go.RowKit
set_option maxRecDepth 100000
theorem ownT : ownKnob Tryz.prog.godebug = none := by kernel_rfl
def litV : Lit → Value
  | .string l => .string ⟨l.toArray⟩
  | .int k n => .int k n
  | .bool b => .bool b
  | _ => .nilIface
def flatD : Nat → DataW Unit → List Value
  | _, .lit l => [litV l]
  | n + 1, .agg xs => xs.flatMap (flatD n)
  | _, _ => []
def layAt (g : Nat) (d : DataW Unit) (h : Array Obj) : Array Obj := h.modify g fun
  | .cells _ t frozen => .cells (flatD 5 d).toArray t frozen
  | o => o
/-- A world that meets the condition. -/
noncomputable def laidWorld (os : Os) : World :=
  let w0 := World.holding Tryz.prog os ⟨#[], #[], []⟩
  { w0 with heap := layAt 4 Rows.laid_math_bits_deBruijn64tab (layAt 3 Rows.laid_math_bits_deBruijn32tab (layAt 2 Rows.laid_internal_strconv_uint64pow10 (layAt 0 Rows.laid_warder_types_rows w0.heap))) }
theorem laidWorld_met (os : Os) : laidMetH Tryz.prog Rows.machineNilRow.laid ((laidWorld os).forCall (fun _ _ => 0) ⟨#[], #[], []⟩).memory :=
  show laidMet Tryz.prog Rows.machineNilRow.laid ((laidWorld os).forCall (fun _ _ => 0) ⟨#[], #[], []⟩).memory from laidMet_of_run' 8 (by kernel_rfl) (by kernel_rfl)
theorem nil_params : Tryz.f3.params = #[] := Tryz.params3
theorem law_lifted (os : Os) (started : os.Started) (H : Type) (enc : TypeId × Value → H) :
    ReturnsInHanded {} Tryz.checked os 3 .any (fun w args => (Rows.machineNilSpec.pre enc Tryz.prog Tryz.f3 [] false w args ∧ laidMetH Tryz.prog Rows.machineNilRow.laid w) ∧ sizedMet enc Tryz.prog Tryz.f3 (OpenSpec.ofChange Rows.machineNilSpec) false w args)
      (Rows.machineNilSpec.post enc Tryz.prog Tryz.f3 false true false false) := by
  refine returnsInHanded_of_calls (C := Tryz.checked) ownT started (by kernel_rfl)
    (ChangeSpec.witness_at (enc := enc) (C := Tryz.checked) (os := os) (X := fun w _ => laidMetH Tryz.prog Rows.machineNilRow.laid w) false (laidWorld os) #[] 8 rfl (by kernel_rfl) (by kernel_rfl) (by kernel_rfl) (by kernel_rfl) (by kernel_rfl) (laidWorld_met os)) ?_
  intro w tape i hos hsh hv hok hpre hholds
  obtain ⟨⟨⟨ds, gs, before, hW, _⟩, hL⟩, _⟩ := hpre
  have hW' := hW
  obtain ⟨p, q, hA0, hV0, rfl, hfz, hnd⟩ := hW
  have hA : DataW.TrodAll enc Tryz.prog _ 0 (fun _ => true) true Tryz.f3.params.toList i.args.toList ds p := hA0
  rw [nil_params] at hA
  obtain ⟨ha, rfl, rfl⟩ := trodAll_nil hA
  have hV : DataW.TrodVars enc Tryz.prog _ (fun _ => true) [] gs q := hV0
  obtain ⟨rfl, rfl⟩ : gs = [] ∧ q = [] := by
    cases gs with
    | nil => exact ⟨rfl, hV⟩
    | cons g r => exact absurd hV (by intro h; cases h)
  have hargs : i.args = #[] := by
    apply Array.ext'
    simpa using ha
  have hL' : laidMetH Tryz.prog Rows.machineNilRow.laid (w.forCall tape i) := hL.of_heap (by rfl)
  obtain ⟨arr, h0, h1⟩ := block0 hsh hL'
  rw [hargs] at hW' ⊢
  have hW2 := DataW.Whole.of_heap (w' := w.forCall tape i) (by rfl) hW'
  refine (law_calls h0 h1).mono fun e W' ⟨he, hk⟩ => ?_
  subst he
  refine ChangeSpec.post_blind ⟨[], [], _, [], [], [], hW2, ?_, ?_, rfl, ?_, fun h => by cases h⟩
  · exact trodAll_mk1 (shut_bool Tryz.underlying4 true)
  · show DataW.TrodAll enc Tryz.prog W' 0 _ true Tryz.f3.params.toList _ [] []
    rw [nil_params]
    rfl
  · refine ⟨hk.1, hk.2.1, fun j hj => ?_⟩
    have := hk.2.2 j hj
    revert this
    cases (w.forCall tape i).heap[j]? with
    | none => exact id
    | some o =>
      cases W'.heap[j]? with
      | none => cases o <;> exact id
      | some o' =>
        cases o <;> cases o' <;> simp <;> intros <;> simp_all
end Go.Proofs.YtladebngkmgkoaaGreatDoor
