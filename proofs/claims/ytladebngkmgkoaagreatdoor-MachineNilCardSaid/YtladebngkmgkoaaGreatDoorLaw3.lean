/- The law MachineNil: what the listed variable holds, read off the condition; no condition. -/
import Derived.Test.YtladebngkmgkoaaGreatDoorLaw2
import Derived.Test.YtladebngkmgkoaaGreatDoorRows
import Derived.OpenShut
import Derived.ChangeArms
namespace Go.Proofs.YtladebngkmgkoaaGreatDoor
open Go.Abs
set_option maxRecDepth 100000
theorem at_of_take {α : Type} {l : List α} {k : Nat} {v : α} (h : (l.drop k).take 1 = [v]) : l[k]? = some v := by
  have : ((l.drop k).take 1)[0]? = some v := by rw [h]; rfl
  rw [List.getElem?_take_of_lt (by omega), List.getElem?_drop] at this
  simpa using this
theorem str_of_list {s : ByteArray} {l : List UInt8} (h : s.data.toList = l) : s = ⟨l.toArray⟩ := by
  obtain ⟨a⟩ := s
  simp only at h
  subst h
  simp
section
variable {W : World} {sp : Nat → Bool}
theorem c459 : Tryz.prog.cellsOf 459 = 4 := by kernel_rfl
theorem c523 : Tryz.prog.cellsOf 523 = 20 := by kernel_rfl
theorem c9 : Tryz.prog.cellsOf 9 = 1 := by kernel_rfl
theorem c3 : Tryz.prog.cellsOf 3 = 1 := by kernel_rfl
/-- one row of the table -/
theorem row_cells {m : Nat} {l : List Value} {s : List UInt8} {a b c : Int} {p : List MemPlace}
    (h : DataW.trod (H := Unit) (fun _ => ()) Tryz.prog W 0 sp false m 459 l = some (.agg [.lit (.string s), .lit (.int .i64 a), .lit (.int .i64 b), .lit (.int .i64 c)], p)) :
    l = [.string ⟨s.toArray⟩, .int .i64 a, .int .i64 b, .int .i64 c] := by
  obtain ⟨xs, n, _, hx, hl, hxs, hf⟩ := DataW.trod_struct Tryz.underlying459 h
  simp only [Prod.mk.injEq, DataW.agg.injEq] at hx
  obtain ⟨hx, _⟩ := hx
  rw [c459] at hl
  match xs, hx with
  | [x0, x1, x2, x3], hx =>
    simp only [List.map_cons, List.map_nil, List.cons.injEq, and_true] at hx
    obtain ⟨e0, e1, e2, e3⟩ := hx
    have f0 := hf 0 _ rfl
    have f1 := hf 1 _ rfl
    have f2 := hf 2 _ rfl
    have f3 := hf 3 _ rfl
    simp only [c9, c3, List.getElem?_cons_zero, List.getElem?_cons_succ] at f0 f1 f2 f3
    obtain ⟨s0, g0, k0, _⟩ := DataW.trod_string Tryz.underlying9 f0
    obtain ⟨n1, g1, k1, _⟩ := DataW.trod_int Tryz.underlying3 f1
    obtain ⟨n2, g2, k2, _⟩ := DataW.trod_int Tryz.underlying3 f2
    obtain ⟨n3, g3, k3, _⟩ := DataW.trod_int Tryz.underlying3 f3
    rw [k0] at e0
    rw [k1] at e1
    rw [k2] at e2
    rw [k3] at e3
    simp only [DataW.lit.injEq, Lit.string.injEq, Lit.int.injEq, true_and] at e0 e1 e2 e3
    subst e1 e2 e3
    have q0 : l[0]? = some (.string s0) := at_of_take g0
    have q1 : l[1]? = some (.int .i64 _) := at_of_take g1
    have q2 : l[2]? = some (.int .i64 _) := at_of_take g2
    have q3 : l[3]? = some (.int .i64 _) := at_of_take g3
    rw [str_of_list e0.symm] at q0
    match l, hl with
    | [v0, v1, v2, v3], _ =>
      simp only [List.getElem?_cons_zero, List.getElem?_cons_succ, Option.some.injEq] at q0 q1 q2 q3
      rw [q0, q1, q2, q3]
theorem rows_of_trod {m : Nat} {l : List Value} {p : List MemPlace} (h : DataW.trod (H := Unit) (fun _ => ()) Tryz.prog W 0 sp false m 523 l = some (Rows.laid_warder_types_rows, p)) : l = rowsL := by
  obtain ⟨xs, n, _, hx, hl, hxs, hf⟩ := DataW.trod_array Tryz.underlying523 h
  unfold Rows.laid_warder_types_rows at hx
  simp only [Prod.mk.injEq, DataW.agg.injEq] at hx
  obtain ⟨hx, _⟩ := hx
  rw [c523] at hl
  match xs, hx with
  | [x0, x1, x2, x3, x4], hx =>
    simp only [List.map_cons, List.map_nil, List.cons.injEq, and_true] at hx
    obtain ⟨e0, e1, e2, e3, e4⟩ := hx
    obtain ⟨d0, p0⟩ := x0
    obtain ⟨d1, p1⟩ := x1
    obtain ⟨d2, p2⟩ := x2
    obtain ⟨d3, p3⟩ := x3
    obtain ⟨d4, p4⟩ := x4
    simp only at e0 e1 e2 e3 e4
    subst e0 e1 e2 e3 e4
    have r0 := row_cells (hf 0 (by decide))
    have r1 := row_cells (hf 1 (by decide))
    have r2 := row_cells (hf 2 (by decide))
    have r3 := row_cells (hf 3 (by decide))
    have r4 := row_cells (hf 4 (by decide))
    rw [c459] at r0 r1 r2 r3 r4
    match l, hl with
    | [v0, v1, v2, v3, v4, v5, v6, v7, v8, v9, v10, v11, v12, v13, v14, v15, v16, v17, v18, v19], _ =>
      simp only [Nat.zero_mul, Nat.one_mul, Nat.reduceMul, List.drop_zero, List.drop_succ_cons, List.take_succ_cons, List.take_zero, List.cons.injEq, and_true] at r0 r1 r2 r3 r4
      obtain ⟨rfl, rfl, rfl, rfl⟩ := r0
      obtain ⟨rfl, rfl, rfl, rfl⟩ := r1
      obtain ⟨rfl, rfl, rfl, rfl⟩ := r2
      obtain ⟨rfl, rfl, rfl, rfl⟩ := r3
      obtain ⟨rfl, rfl, rfl, rfl⟩ := r4
      rfl
end
end Go.Proofs.YtladebngkmgkoaaGreatDoor
