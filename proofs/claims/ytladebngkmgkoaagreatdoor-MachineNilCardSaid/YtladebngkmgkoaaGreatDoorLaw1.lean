/- The law MachineNil, run by the abstract machine: the chunks joined; no condition. -/
import Derived.Test.YtladebngkmgkoaaGreatDoorChK6
namespace Go.Proofs.YtladebngkmgkoaaGreatDoor
open Go.Abs
set_option maxRecDepth 100000
theorem bind_one {α β : Type} {x : Res α} {o : α} {f : α → Res β} {r : List β} (hx : x = some [o]) (hf : f o = some r) : Res.bind x f = some r := by
  subst hx
  simp [Res.bind, Res.all, hf]
theorem all_append {α β : Type} (f : α → Res β) : ∀ (l m : List α), Res.all f (l ++ m) = match Res.all f l, Res.all f m with | some r, some s => some (r ++ s) | _, _ => none
  | [], m => by
    simp only [List.nil_append, Res.all]
    cases Res.all f m <;> rfl
  | a :: l, m => by
    simp only [List.cons_append, Res.all, all_append f l m]
    cases f a <;> cases Res.all f l <;> cases Res.all f m <;> simp
theorem bind_assocA {α β γ : Type} (x : Res α) (f : α → Res β) (g : β → Res γ) : Res.bind (Res.bind x f) g = Res.bind x fun y => Res.bind (f y) g := by
  cases x with
  | none => rfl
  | some l =>
    simp only [Res.bind]
    induction l with
    | nil => rfl
    | cons a l ih =>
      simp only [Res.all]
      cases hf : f a with
      | none => rfl
      | some r =>
        cases hl : Res.all f l with
        | none =>
          rw [hl] at ih
          simp only at ih ⊢
          rw [← ih]
          cases Res.all g r <;> rfl
        | some s =>
          rw [hl] at ih
          simp only at ih ⊢
          rw [← ih, all_append]
          rfl
section
variable {C : Cfg} {R : Rec} {ro : Option Nat} {x y c : Code} {a a1 : AAct} {H H1 : Heap} {r : List Out}
theorem seq_eq (h1 : execC C R ro x a H = some [⟨.normal, a1, H1⟩]) (h2 : execC C R ro y a1 H1 = some r) : execC C R ro (.seq x y) a H = some r := bind_one h1 h2
theorem loop_eq {f : AAct → Heap → Res Out} {n : Nat} (h1 : f a H = some [⟨.normal, a1, H1⟩]) (h2 : loopA f n a1 H1 = some r) : loopA f (n + 1) a H = some r := bind_one h1 h2
theorem loop_end {f : AAct → Heap → Res Out} {n i : Nat} (h1 : f a H = some [⟨.exit i, a1, H1⟩]) : loopA f (n + 1) a H = some [⟨.exit i, a1, H1⟩] := bind_one h1 rfl
theorem block_eq {id : Nat} (h : execC C R ro c a H = some [⟨.exit id, a1, H1⟩]) : execC C R ro (.block id c) a H = some [⟨.normal, a1, H1⟩] := bind_one h (by simp [blockA])
theorem region_eq {id : Nat} {ops : Array Oper} : execC C R ro (.region id ops false) a H = (runOps C R ro ops (List.range ops.size) a H).bind fun x => some [⟨.normal, x.1, x.2⟩] := rfl
theorem ops_app {ops : Array Oper} {l m : List Nat} {s : List (AAct × Heap)} (h1 : runOps C R ro ops l a H = some [(a1, H1)]) (h2 : runOps C R ro ops m a1 H1 = some s) : runOps C R ro ops (l ++ m) a H = some s := by
  have key : ∀ (l : List Nat) (a : AAct) (H : Heap), runOps C R ro ops (l ++ m) a H = (runOps C R ro ops l a H).bind fun x => runOps C R ro ops m x.1 x.2 := by
    intro l
    induction l with
    | nil =>
      intro a H
      simp only [List.nil_append, runOps, Res.bind, Res.all]
      cases runOps C R ro ops m a H <;> simp
    | cons i l ih =>
      intro a H
      simp only [List.cons_append, runOps, bind_assocA]
      congr 1
      funext x
      exact ih x.1 x.2
  rw [key]
  exact bind_one h1 h2
end

theorem kn_shape : knK = .seq (nthC 0 knK) (.seq (nthC 1 knK) (.seq (nthC 2 knK) (.seq (nthC 3 knK) (.seq (nthC 4 knK) (.seq (.seq (nthC 0 (nthC 5 knK)) (.block 0 (.loop bodyK))) (.seq (nthC 6 knK) .ret)))))) := by kernel_rfl
theorem kn_loop : execC lawC rK none (.loop bodyK) ⟨tK5, []⟩ HK4 = some [⟨.exit 0, ⟨tR6, []⟩, HR5⟩] := by
  have hf : rK.fuel = 1000 := by kernel_rfl
  show loopA (execC lawC rK none bodyK) rK.fuel _ _ = _
  rw [hf]
  exact loop_eq (n := 999) (outIs_eq chR0) (loop_eq (n := 998) (outIs_eq chR1) (loop_eq (n := 997) (outIs_eq chR2) (loop_eq (n := 996) (outIs_eq chR3) (loop_eq (n := 995) (outIs_eq chR4) (loop_eq (n := 994) (outIs_eq chR5) (loop_end (n := 993) (outIs_eq chR6)))))))
theorem kn_run : execC lawC rK none knK (enterF Tryz.f15 []) HN6 = some [⟨.ret, ⟨tK6, []⟩, HR5⟩] := by
  rw [kn_shape]
  exact seq_eq (outIs_eq chK0) (seq_eq (outIs_eq chK1) (seq_eq (outIs_eq chK2) (seq_eq (outIs_eq chK3) (seq_eq (outIs_eq chK4) (seq_eq (seq_eq (outIs_eq chK5) (block_eq kn_loop)) (seq_eq (outIs_eq chK6) rfl))))))
theorem kn_call : callF lawC rK 15 [] HN6 = some [(.bool true, HR5)] := by
  have h1 : lawC.P.funcs[15]? = some Tryz.f15 := Tryz.func15
  have h2 : Tryz.f15.body = some knK := by kernel_rfl
  unfold callF
  rw [h1]
  simp only
  rw [h2]
  exact bind_one kn_run (by kernel_rfl)
theorem rN_call : rN.call = callF lawC rK := by kernel_rfl

noncomputable def ops7 : Array Oper := match nthC 7 nilK with
  | .region _ ops _ => ops
  | _ => #[]
def tB : List Value := [vf, v0, (vp 13 0), (vp 16 0), (vi 1), (vp 19 0), (vi 1), v0, (vi 2), v0, (vi 2), (vT [(va [(vi 0), (vu 0), (vi 0), (vi 0), (vi 0), (vi 0), vf, vf, vf, (vi 0), (vi 0), (vg []), vz, (vi 0), (vi 0), (vi 0)]), (vi 1)]), v0, (va [(vi 2), (vi 0)]), (vT [(va [(vi 0), (vu 0), (vi 0), (vi 0), (vi 0), (vi 0), vf, vf, vf, (vi 0), (vi 0), (vg []), vz, (vi 0), (vi 0), (vi 0)]), (vi 1)]), (va [(vi 0), (vu 0), (vi 0), (vi 0), (vi 0), (vi 0), vf, vf, vf, (vi 0), (vi 0), (vg []), vz, (vi 0), (vi 0), (vi 0)]), (vi 1), (vT [(va [(vi 0), (vu 0), (vi 0), (vi 0), (vi 0), (vi 0), vf, vf, vf, (vi 0), (vi 0), (vg []), vz, (vi 0), (vi 0), (vi 0)]), (vi 1)]), (va [(vi 2), (vi 0)]), (vT [(va [(vi 0), (vu 0), (vi 0), (vi 0), (vi 0), (vi 0), vf, vf, vf, (vi 0), (vi 0), (vg []), vz, (vi 0), (vi 0), (vi 0)]), (vi 1)]), (va [(vi 0), (vu 0), (vi 0), (vi 0), (vi 0), (vi 0), vf, vf, vf, (vi 0), (vi 0), (vg []), vz, (vi 0), (vi 0), (vi 0)]), (vi 1), (vT [v0, (vi 2)]), (va [vz, (vi 0), (vi 0), (vi 0), (vu 0), (vu 0), vz, vz]), (vT [v0, (vi 2)]), v0, (vi 2), (vT [v0, (vi 2)]), (va [(vl 25 0 1 1), (vi 4), (vi 8), (vi 8), (vu 9), (vu 99)]), (va [(vi 1), (vu 0), (vg [])]), (vl 26 0 1 1), (vT [v0, (vi 2)]), v0, (vi 2), (vi 1), vt, vt, (vi 1), vt, vt, vt, v0, vt, vt, vt, (vi 2), vt, vt, vt, (vi 2), vt, vt, vt, v0, v0, vt, vt, vt, v0, vz, (vi 0), v0, vz, (vi 0), (vi 0), v0, (vi 0), (vi 0), v0, (vi 0), (vi 0), (vi 0), (vi 0), vt, vt, vt, v0, vt, vt, vt, v0, v0, vt, vt, vt, vx, vx]
def tD : List Value := [vt, v0, (vp 13 0), (vp 16 0), (vi 1), (vp 19 0), (vi 1), v0, (vi 2), v0, (vi 2), (vT [(va [(vi 0), (vu 0), (vi 0), (vi 0), (vi 0), (vi 0), vf, vf, vf, (vi 0), (vi 0), (vg []), vz, (vi 0), (vi 0), (vi 0)]), (vi 1)]), v0, (va [(vi 2), (vi 0)]), (vT [(va [(vi 0), (vu 0), (vi 0), (vi 0), (vi 0), (vi 0), vf, vf, vf, (vi 0), (vi 0), (vg []), vz, (vi 0), (vi 0), (vi 0)]), (vi 1)]), (va [(vi 0), (vu 0), (vi 0), (vi 0), (vi 0), (vi 0), vf, vf, vf, (vi 0), (vi 0), (vg []), vz, (vi 0), (vi 0), (vi 0)]), (vi 1), (vT [(va [(vi 0), (vu 0), (vi 0), (vi 0), (vi 0), (vi 0), vf, vf, vf, (vi 0), (vi 0), (vg []), vz, (vi 0), (vi 0), (vi 0)]), (vi 1)]), (va [(vi 2), (vi 0)]), (vT [(va [(vi 0), (vu 0), (vi 0), (vi 0), (vi 0), (vi 0), vf, vf, vf, (vi 0), (vi 0), (vg []), vz, (vi 0), (vi 0), (vi 0)]), (vi 1)]), (va [(vi 0), (vu 0), (vi 0), (vi 0), (vi 0), (vi 0), vf, vf, vf, (vi 0), (vi 0), (vg []), vz, (vi 0), (vi 0), (vi 0)]), (vi 1), (vT [v0, (vi 2)]), (va [vz, (vi 0), (vi 0), (vi 0), (vu 0), (vu 0), vz, vz]), (vT [v0, (vi 2)]), v0, (vi 2), (vT [v0, (vi 2)]), (va [(vl 25 0 1 1), (vi 4), (vi 8), (vi 8), (vu 9), (vu 99)]), (va [(vi 1), (vu 0), (vg [])]), (vl 26 0 1 1), (vT [v0, (vi 2)]), v0, (vi 2), (vi 1), vt, vt, (vi 1), vt, vt, vt, v0, vt, vt, vt, (vi 2), vt, vt, vt, (vi 2), vt, vt, vt, v0, v0, vt, vt, vt, v0, vz, (vi 0), v0, vz, (vi 0), (vi 0), v0, (vi 0), (vi 0), v0, (vi 0), (vi 0), (vi 0), (vi 0), vt, vt, vt, v0, vt, vt, vt, v0, v0, vt, vt, vt, vt, vt]
theorem nil_shape : nilK = .seq (nthC 0 nilK) (.seq (nthC 1 nilK) (.seq (nthC 2 nilK) (.seq (nthC 3 nilK) (.seq (nthC 4 nilK) (.seq (nthC 5 nilK) (.seq (nthC 6 nilK) (.seq (.region 7 ops7 false) .ret))))))) := by kernel_rfl
theorem ops7_range : List.range ops7.size = List.range 51 ++ ([51] ++ [52, 53]) := by kernel_rfl
theorem ch7a : opsIs (runOps lawC rN none ops7 (List.range 51) ⟨tN6, []⟩ HN6) tB HN6 = true := by kernel_rfl
theorem op51 (R : Rec) : runOps lawC R none ops7 [51] ⟨tB, []⟩ HN6 = ((R.call 15 [] HN6).bind fun x => some [((⟨tB, []⟩ : AAct).put (some 85) x.1, x.2)]).bind fun x => some [(x.1, x.2)] := by kernel_rfl
theorem ch7b : opsIs (runOps lawC rN none ops7 [52, 53] ⟨tB.set 85 (.bool true), []⟩ HR5) tD HR5 = true := by kernel_rfl
theorem run7 : execC lawC rN none (.region 7 ops7 false) ⟨tN6, []⟩ HN6 = some [⟨.normal, ⟨tD, []⟩, HR5⟩] := by
  have h51 : runOps lawC rN none ops7 [51] ⟨tB, []⟩ HN6 = some [(⟨tB.set 85 (.bool true), []⟩, HR5)] := by
    rw [op51, rN_call, kn_call]
    rfl
  have h := ops_app (opsIs_eq ch7a) (ops_app h51 (opsIs_eq ch7b))
  rw [← ops7_range] at h
  rw [region_eq]
  exact bind_one h rfl
theorem nil_run : execC lawC rN none nilK (enterF Tryz.f3 []) H0 = some [⟨.ret, ⟨tD, []⟩, HR5⟩] := by
  rw [nil_shape]
  exact seq_eq (outIs_eq chN0) (seq_eq (outIs_eq chN1) (seq_eq (outIs_eq chN2) (seq_eq (outIs_eq chN3) (seq_eq (outIs_eq chN4) (seq_eq (outIs_eq chN5) (seq_eq (outIs_eq chN6) (seq_eq run7 rfl)))))))
theorem nil_call : callF lawC rN 3 [] H0 = some [(.bool true, HR5)] := by
  have h1 : lawC.P.funcs[3]? = some Tryz.f3 := Tryz.func3
  have h2 : Tryz.f3.body = some nilK := by kernel_rfl
  unfold callF
  rw [h1]
  simp only
  rw [h2]
  exact bind_one nil_run (by kernel_rfl)
#print axioms nil_call
end Go.Proofs.YtladebngkmgkoaaGreatDoor
