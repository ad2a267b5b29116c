/- The law MachineNil, run by the abstract machine: from the abstract machine to the model; no condition. -/
import Derived.Test.YtladebngkmgkoaaGreatDoorLaw1
import Derived.CallsIn
namespace Go.Proofs.YtladebngkmgkoaaGreatDoor
open Go.Abs
set_option maxRecDepth 100000
def rowsL : List Value := [(vg []), (vi 0), (vi 0), (vi 0), (vg [117, 115, 101, 114]), (vi 1), (vi 128), (vi 3), (vg [108, 111, 103, 111, 110]), (vi 1), (vi 64), (vi 2), (vg [98, 105, 103]), (vi 1), (vi 256), (vi 3), (vg [107, 101, 121, 114, 105, 110, 103]), (vi 0), (vi 0), (vi 5)]
def phi0 : Phi := fun b => if b = 0 then some (.live 0 0 0) else none
theorem h0_get (b : Nat) : H0.get b = if b = 0 then some (.cells rowsL 523 false) else none := by
  by_cases h : b = 0
  · subst h; rfl
  · rw [if_neg h]
    show T.get (.node .leaf _ .leaf) b = none
    unfold T.get
    rw [if_neg h]
    split <;> rfl
theorem lawK : ∀ g ∈ lawC.K, g < G0 lawC.P := by
  intro g hg
  have : g = 0 := by simpa [lawC] using hg
  subst this
  unfold G0
  omega
theorem law_rel {W : World} {arr : Array Value} (h0 : W.heap[0]? = some (.cells arr 523 (0, 0))) (ha : arr.toList = rowsL) : Rel lawC phi0 H0 W where
  live := fun b c k sh o hf hg => by
    unfold phi0 at hf
    rw [h0_get] at hg
    by_cases hb : b = 0
    · subst hb
      simp at hf hg
      obtain ⟨rfl, rfl, rfl⟩ := hf
      subst hg
      exact ⟨_, h0, arr, (0, 0), [], rowsL, [], rfl, by simp [ha], rfl, VRs.scalars (by decide), by simp, rfl⟩
    · simp [hb] at hf
  dead := fun b hf => by
    unfold phi0 at hf
    split at hf <;> cases hf
  inj := fun b b' c k sh k' sh' h1 h2 => by
    unfold phi0 at h1 h2
    split at h1
    · split at h2
      · omega
      · cases h2
    · cases h1
  low := fun b c k sh h1 => by
    unfold phi0 at h1
    split at h1
    · cases h1
      exact (Array.getElem?_eq_some_iff.1 h0).1
    · cases h1
  wf := fun b hb => by
    rw [h0_get, if_neg]
    have : H0.next = 13 := rfl
    omega
  fresh := fun b hb => by
    have : H0.next = 13 := rfl
    unfold phi0
    rw [if_neg (by omega)]
  glob := fun g hg => by
    have : g = 0 := by simpa [lawC] using hg
    subst this
    rfl
  first := by
    show Tryz.prog.globals.size + 8 ≤ 13
    rw [Tryz.globals_size]
    decide
theorem vrs_scalars {φ : Phi} : ∀ {l l' : List Value}, l.all scalar = true → VRs φ l l' → l' = l
  | _, _, _, .nil => rfl
  | _, _, h, .cons h1 h2 => by
    simp only [List.all_cons, Bool.and_eq_true] at h
    rw [vrs_scalars h.2 h2, VR.scalar_eq h.1 h1]
theorem end_get : HR5.get 0 = some (.cells rowsL 523 false) := by rfl
theorem law_calls {W : World} {arr : Array Value} (h0 : W.heap[0]? = some (.cells arr 523 (0, 0))) (ha : arr.toList = rowsL) :
    Calls Tryz.prog 3 #[] W fun e W' => e = .returned (.bool true) ∧ W.keptBut W' fun _ => False := by
  have R0 := law_rel h0 ha
  obtain ⟨fn, _, _, h3⟩ := callF_ok (recN_ok lawK 1000 60) lawK nil_call
  have h4 := callsIn_wide.1 (h3 phi0 W [] R0 .nil)
  refine Calls.mono h4 fun e W' he => ?_
  cases e with
  | panicked c => exact he.elim
  | outgrown => exact he.elim
  | returned v =>
    obtain ⟨x, φ, hx, hv, hR, hE⟩ := he
    obtain rfl := List.mem_singleton.1 hx
    refine ⟨by rw [hv.bool_inv], hE.os, hE.output, fun i hi => ?_⟩
    have same : W'.heap[i]? = W.heap[i]? := by
      by_cases h : i = 0
      · subst h
        have hφ := hR.glob 0 (by simp [lawC])
        obtain ⟨o', h5, arr', fr, pre, vs', post, h6, h7, h8, h9, h10, h11⟩ := hR.live 0 0 0 0 _ hφ end_get
        have e1 : pre = [] := List.eq_nil_of_length_eq_zero h8
        have e2 : post = [] := List.eq_nil_of_length_eq_zero (by rw [h10]; simp)
        have e3 := vrs_scalars (by decide) h9
        subst e1 e2 e3
        have e4 : arr' = arr := Array.ext' (by rw [h7, ha]; simp)
        have e5 : fr = (0, 0) := h11
        rw [h5, h0, h6, e4, e5]
      · refine hE.frame i hi fun b k sh hb hf => ?_
        unfold phi0 at hf
        split at hf
        · cases hf; exact h rfl
        · cases hf
    rw [same]
    cases W.heap[i]? with
    | none => trivial
    | some o =>
      cases o <;> simp
#print axioms law_calls
end Go.Proofs.YtladebngkmgkoaaGreatDoor
