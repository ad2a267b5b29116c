/- An abstract machine over the model: heaps of numbered blocks, no draws; whatever it does stands for what the model does; no condition. -/
import Derived.Test.YtladebngkmgkoaaGreatDoorAbsA
import Derived.RangeFuncRecord
import Derived.OrdersIn
import Derived.RecoverIn
/-! Whatever operation the abstract machine carries out, the model carries out likewise; no condition. -/
namespace Go.Abs
variable {C : Cfg} {φ : Phi} {H : Heap} {w : World} {P : Program}

theorem resolve_value {ρ : Operand → Value} {c : Call} {f : Operand} {t : TypeId} (hc : c.callee = .value f) : resolve ρ c t = Deferred.ofValue (ρ f) (c.args.map ρ) := by simp [resolve, hc]

/-- a deferred call -/
def DR (φ : Phi) (d d' : Deferred) : Prop :=
  ∃ (g : FuncId) (cap cap' : Array Value), d.target = .fn (.func g) cap ∧ d'.target = .fn (.func g) cap' ∧ VRs φ cap.toList cap'.toList ∧ VRs φ d.args.toList d'.args.toList

/-- what the model does at an operation for which the abstract machine did this -/
def NextOk (C : Cfg) (φ : Phi) (H : Heap) (w : World) (s : Sem Next) : ONext → Prop
  | .val v H' => ∃ φ' w' v', s.run C.P w = .ok (.value v') w' ∧ VR φ' v v' ∧ Rel C φ' H' w' ∧ Ext C φ H w φ' H' w'
  | .skip H' => ∃ φ' w', s.run C.P w = .ok .skip w' ∧ Rel C φ' H' w' ∧ Ext C φ H w φ' H' w'
  | .call f args => ∃ args', VRs φ args args' ∧ s.run C.P w = (callFunc f args'.toArray).run C.P w ∧ (∃ fn, C.P.funcs[f]? = some fn ∧ (fn.name == "runtime.NumGoroutine") = false)
  | .yield l args => ∃ l' args', VR φ (.map (some l)) (.map (some l')) ∧ VRs φ args args' ∧ s.run C.P w = (Instr.yield l' args'.toArray).run C.P w
  | .defer d => ∃ d', s.run C.P w = .ok (.defer d') w ∧ DR φ d d'
  | .any l => ∃ v H' v' w', (v, H') ∈ l ∧ s.run C.P w = .ok (.value v') w' ∧ VR φ v v' ∧ Rel C φ H' w' ∧ Ext C φ H w φ H' w'

theorem NextOk.val {s : Sem Value} {v : Value} {H' : Heap} (h : OpOk C φ H w s v H') : NextOk C φ H w (do pure (.value (← s))) (.val v H') := by
  obtain ⟨φ', w', v', h1, h2⟩ := h
  exact ⟨φ', w', v', by simp [h1], h2⟩

theorem NextOk.pure (R : Rel C φ H w) {s : Sem Value} {o : Option Value} {n : ONext} (h : one H o = some n) (hs : ∀ v, o = some v → ∃ v', s.run C.P w = .ok v' w ∧ VR φ v v') : NextOk C φ H w (do pure (.value (← s))) n := by
  obtain ⟨v, hv, rfl⟩ := Option.map_eq_some_iff.1 h
  exact .val (.pure R (hs v hv))

theorem VRs.map {ρ ρ' : Operand → Value} : ∀ {l : List Operand}, (∀ x ∈ l, VR φ (ρ x) (ρ' x)) → VRs φ (l.map ρ) (l.map ρ')
  | [], _ => .nil
  | x :: l, h => .cons (h x (by simp)) (VRs.map fun y hy => h y (by simp [hy]))

theorem PRs.map {ρ ρ' : Operand → Value} : ∀ {l : List (Nat × Operand)}, (∀ x ∈ l, VR φ (ρ x.2) (ρ' x.2)) → PRs φ (l.map fun (i, x) => (i, ρ x)) (l.map fun (i, x) => (i, ρ' x))
  | [], _ => .nil
  | x :: l, h => .cons (h x (by simp)) (PRs.map fun y hy => h y (by simp [hy]))

theorem callA_ok {t : TypeId} {c : Call} {f : Operand} {ρ' : Operand → Value} {fv : Value} {args : List Value} {n : ONext} (hc : c.callee = .value f) (hf : VR φ fv (ρ' f)) (ha : VRs φ args (c.args.toList.map ρ'))
    (h : callA C.P fv args = some n) : NextOk C φ H w (do let d ← resolve ρ' c t; invoke d.target d.args) n := by
  unfold callA at h
  split at h
  · rename_i g first cap
    split at h
    · rename_i fn hfn
      split at h
      · cases h
      · rename_i hn
        cases h
        cases hfv : ρ' f with
        | func f' x y =>
          rw [hfv] at hf
          cases hf with
          | scalar h => simp [Abs.scalar] at h
          | func h1 h2 =>
            refine ⟨x.toList ++ c.args.toList.map ρ' ++ y.toList, (h1.append ha).append h2, ?_, fn, hfn, by simpa using hn⟩
            have e : (x.toList ++ c.args.toList.map ρ' ++ y.toList).toArray = (x ++ c.args.map ρ') ++ y := by apply Array.ext'; simp
            rw [e]
            simp only [resolve_value hc, hfv, Deferred.ofValue, pure_bind, invoke]
        | _ => rw [hfv] at hf; cases hf <;> rename_i h <;> simp [Abs.scalar] at h
    · cases h
  · rename_i l first cap
    split at h
    · rename_i he
      cases h
      cases hfv : ρ' f with
      | func f' x y =>
        rw [hfv] at hf
        have key : ∃ l', f' = .yield l' ∧ x = #[] ∧ y = #[] ∧ VR φ (.map (some l)) (.map (some l')) := by
          cases hf with
          | scalar h => simp [Abs.scalar] at h
          | yield h1 => exact ⟨_, rfl, rfl, rfl, .map h1⟩
          | yieldDead h1 => exact ⟨_, rfl, rfl, rfl, .mapDead h1⟩
        obtain ⟨l', rfl, rfl, rfl, h3⟩ := key
        refine ⟨l', c.args.toList.map ρ', h3, ha, ?_⟩
        have e : (c.args.toList.map ρ').toArray = #[] ++ c.args.map ρ' := by apply Array.ext'; simp
        rw [e]
        simp only [resolve_value hc, hfv, Deferred.ofValue, pure_bind, invoke]
      | _ => rw [hfv] at hf; cases hf <;> rename_i h <;> simp [Abs.scalar] at h
    · cases h
  · cases h

theorem opt_map {ρ ρ' : Operand → Value} {x : Option Operand} (h : ∀ y, x = some y → VR φ (ρ y) (ρ' y)) : OVR φ (x.map ρ) (x.map ρ') := by
  cases x with
  | none => exact .none
  | some y => exact .some (h y rfl)

theorem min_ok {max : Bool} {x y x' y' v : Value} {at_ : Array TypeId} {ty : TypeId} (hx : VR φ x x') (hy : VR φ y y') (h : minA max x y = some v) :
    ((if max then Builtin.max_ at_ ty #[x', y'] else Builtin.min_ at_ ty #[x', y']) : Sem Value).run P w = .ok v w ∧ scalar v = true := by
  unfold minA at h
  split at h
  · cases h
    rw [hx.int_inv, hy.int_inv]
    refine ⟨?_, rfl⟩
    cases max <;> simp [Builtin.max_, Builtin.min_, Builtin.max2, Builtin.min2]
  · cases h

set_option maxHeartbeats 4000000 in
theorem op_sound (R : Rel C φ H w) (hK : ∀ g ∈ C.K, g < G0 C.P) {ρ ρ' : Operand → Value} {o : Oper} {n : ONext} (hρ : ∀ x ∈ o.op.operands.toList, VR φ (ρ x) (ρ' x)) (h : opEval C.P ρ o H = some n) :
    NextOk C φ H w (execOp ρ' o) n := by
  obtain ⟨dst, op, ty, pos, after, guard⟩ := o
  simp only at hρ
  unfold opEval at h
  simp only at h
  cases op <;> simp only [Op.operands] at hρ <;> simp only [execOp] <;> (try simp only at h)
  case move x =>
    cases h
    exact ⟨φ, w, _, rfl, hρ x (by simp), R, .refl⟩
  case assign x =>
    cases h
    exact ⟨φ, w, _, rfl, hρ x (by simp), R, .refl⟩
  case pick c a b =>
    have h1 := hρ c (by simp)
    have h2 := hρ a (by simp)
    have h3 := hρ b (by simp)
    split at h
    · rename_i t ht
      rw [ht] at h1
      have e := h1.bool_inv
      cases h
      refine ⟨φ, w, if t then ρ' a else ρ' b, ?_, by split <;> assumption, R, .refl⟩
      cases t <;> simp [e, asBool]
    · cases h
  case alloc e =>
    split at h
    · rename_i z hz
      cases h
      exact .val (alloc_ok R hz)
    · cases h
  case box e x =>
    cases h
    exact .val (box_ok R (hρ x (by simp)))
  case build t parts =>
    refine .pure R h fun v hv => ?_
    have hp : PRs φ (parts.toList.map fun (i, x) => (i, ρ x)) (parts.toList.map fun (i, x) => (i, ρ' x)) := PRs.map fun x hx => hρ x.2 (by simp; exact ⟨x.1, by simpa using hx⟩)
    have := build_ok (P := C.P) (w := w) hp hv
    have e : (parts.toList.map fun (i, x) => (i, ρ' x)).toArray = parts.map fun (i, x) => (i, ρ' x) := by apply Array.ext'; simp
    rw [e] at this
    exact this
  case buildSlice t len parts =>
    split at h
    · rename_i e hu
      split at h
      · rename_i size z hs hz
        split at h
        · cases h
        · rename_i hb
          split at h
          · rename_i cells hf
            cases h
            have hp : PRs φ (parts.toList.map fun (i, x) => (i, ρ x)) (parts.toList.map fun (i, x) => (i, ρ' x)) := PRs.map fun x hx => hρ x.2 (by simp; exact ⟨x.1, by simpa using hx⟩)
            have := buildSlice_ok R hu hs hz hb hp hf
            have e : (parts.toList.map fun (i, x) => (i, ρ' x)).toArray = parts.map fun (i, x) => (i, ρ' x) := by apply Array.ext'; simp
            rw [e] at this
            exact .val this
          · cases h
      · cases h
    · cases h
  case insert t m k v =>
    obtain ⟨H', h1, rfl⟩ := Option.map_eq_some_iff.1 h
    obtain ⟨w', h2, h3, h4⟩ := mapUpdate_ok R (hρ m (by simp)) (hρ k (by simp)) (hρ v (by simp)) h1
    exact ⟨φ, w', by simp [h2], h3, h4⟩
  case mapUpdate t m k v =>
    obtain ⟨H', h1, rfl⟩ := Option.map_eq_some_iff.1 h
    obtain ⟨w', h2, h3, h4⟩ := mapUpdate_ok R (hρ m (by simp)) (hρ k (by simp)) (hρ v (by simp)) h1
    exact ⟨φ, w', by simp [h2], h3, h4⟩
  case load t x =>
    have h1 := hρ x (by simp)
    split at h
    · rename_i a ha
      rw [ha] at h1
      obtain ⟨a', e, h2⟩ := h1.ptr_inv
      refine .pure R h fun v hv => ?_
      obtain ⟨v', h3, h4⟩ := loadVar_ok R h2 hv
      exact ⟨v', by simp [Instr.loadAt, e, Instr.sureAddr, h3], h4⟩
    · cases h
  case store t x v =>
    have h1 := hρ x (by simp)
    have h2 := hρ v (by simp)
    split at h
    · rename_i a ha
      rw [ha] at h1
      obtain ⟨a', e, h3⟩ := h1.ptr_inv
      obtain ⟨H', h4, rfl⟩ := Option.map_eq_some_iff.1 h
      obtain ⟨w', h5, h6, h7⟩ := storeVar_ok R h3 h2 h4
      exact ⟨φ, w', by simp [Instr.storeAt, e, Instr.sureAddr, h5], h6, h7⟩
    · cases h
  case nilCheck x =>
    have h1 := hρ x (by simp)
    split at h
    · rename_i a ha
      rw [ha] at h1
      cases h
      obtain ⟨a', e, h2⟩ := h1.ptr_inv
      exact ⟨φ, w, .pointer (some a'), by simp [e], h1 |> fun q => by rw [e] at q; exact q, R, .refl⟩
    · rename_i f first cap ha
      rw [ha] at h1
      cases h
      generalize hv : ρ' x = v' at h1 ⊢
      cases h1 with
      | scalar h => simp [Abs.scalar] at h
      | func q1 q2 => exact ⟨φ, w, _, rfl, .func q1 q2, R, .refl⟩
    · rename_i l first cap ha
      rw [ha] at h1
      cases h
      generalize hv : ρ' x = v' at h1 ⊢
      cases h1 with
      | scalar h => simp [Abs.scalar] at h
      | yield q1 => exact ⟨φ, w, _, rfl, .yield q1, R, .refl⟩
      | yieldDead q1 => exact ⟨φ, w, _, rfl, .yieldDead q1, R, .refl⟩
    · cases h
  case binOp op t x y yt =>
    refine .pure R h fun v hv => ?_
    obtain ⟨h1, h2⟩ := bin_ok R (hρ x (by simp)) (hρ y (by simp)) hv
    exact ⟨v, h1, .scalar h2⟩
  case unOp op t x =>
    refine .pure R h fun v hv => ?_
    obtain ⟨h1, h2⟩ := un_ok (P := C.P) (w := w) (hρ x (by simp)) hv
    exact ⟨v, h1, .scalar h2⟩
  case convert s d x =>
    obtain ⟨⟨v, H'⟩, h1, rfl⟩ := Option.map_eq_some_iff.1 h
    exact .val (conv_ok R (hρ x (by simp)) h1)
  case makeInterface t x =>
    split at h
    · cases h
    · rename_i d hni hu
      cases h
      refine .val (.pure R ⟨.iface t (ρ' x), ?_, .iface (hρ x (by simp))⟩)
      cases d <;> simp [Instr.makeInterface, run_und hu]
      exact absurd rfl (hni _)
    · cases h
  case makeFunc fn first cap =>
    cases fn <;> simp only at h <;> try cases h
    refine .val (.pure R ⟨_, rfl, .func ?_ ?_⟩)
    · simp only [Array.toList_map]
      exact VRs.map fun x hx => hρ x (by simp; exact .inl (by simpa using hx))
    · simp only [Array.toList_map]
      exact VRs.map fun x hx => hρ x (by simp; exact .inr (by simpa using hx))
  case makeMap t r =>
    cases r with
    | some _ => cases h
    | none =>
      cases h
      exact .val (makeMap_ok R)
  case makeSlice t l c =>
    have h1 := hρ l (by simp)
    have h2 := hρ c (by simp)
    split at h
    · rename_i e hu
      split at h
      · rename_i size bytes z k n k' m hs hby hz hl hc
        rw [hl] at h1
        rw [hc] at h2
        rw [h1.int_inv, h2.int_inv]
        split at h
        · rename_i hb
          cases h
          exact .val (makeSlice_ok R hu hs hby hz hb)
        · cases h
      · cases h
    · cases h
  case slice t x lo hi mx =>
    refine .pure R h fun v hv => ?_
    exact slice_ok (P := C.P) (w := w) (hρ x (by simp)) (opt_map fun y hy => hρ y (by simp [hy])) (opt_map fun y hy => hρ y (by simp [hy])) (opt_map fun y hy => hρ y (by simp [hy])) hv
  case fieldAddr s x f =>
    exact .pure R h fun v hv => fieldAddr_ok (P := C.P) (w := w) (hρ x (by simp)) hv
  case field s x f =>
    exact .pure R h fun v hv => field_ok (P := C.P) (w := w) (hρ x (by simp)) hv
  case indexAddr t x i =>
    exact .pure R h fun v hv => indexAddr_ok (P := C.P) (w := w) (hρ x (by simp)) (hρ i (by simp)) hv
  case index t x i =>
    exact .pure R h fun v hv => index_ok (P := C.P) (w := w) (hρ x (by simp)) (hρ i (by simp)) hv
  case lookup t x i ok =>
    exact .pure R h fun v hv => lookup_ok R (hρ x (by simp)) (hρ i (by simp)) hv
  case range t x =>
    have h1 := hρ x (by simp)
    split at h
    · rename_i kt et hu hx
      rw [hx] at h1
      rw [h1.nilMap_inv]
      cases h
      refine .val ?_
      obtain ⟨q1, q2⟩ := R.new (w' := { w with heap := w.heap.push (.mapIter none 0 #[] 0) }) (k := 0) (sh := 0) (o := .iter none 0 [] 0) rfl rfl rfl rfl ⟨none, rfl, .scalar rfl, rfl⟩
      exact ⟨_, _, .pointer (some ⟨w.heap.size, 0, none⟩), by simp [Instr.range, run_und hu], (AR.new _ _ _ _).ptr, q1, q2⟩
    · rename_i kt et m hu hx
      rw [hx] at h1
      split at h
      · rename_i es clock hg
        cases h
        rcases mapOf_ok R h1 (show mapOf H (.map (some m)) = some es by simp [mapOf, hg]) with ⟨e, _⟩ | ⟨r1, c, es', clock', e1, e2, h2, h3, h4, kk, sh, h5⟩
        · rw [e] at h1; cases h1
        · cases e1
          rw [hg] at h2
          cases h2
          rw [e2] at h1 ⊢
          refine .val ?_
          obtain ⟨q1, q2⟩ := R.new (w' := { w with heap := w.heap.push (.mapIter (some c) clock #[] clock) }) (k := 0) (sh := 0) (o := .iter (some m) clock [] clock) rfl rfl rfl rfl
            ⟨some c, rfl, h1.mono (φ.le_put _ R.free), rfl⟩
          exact ⟨_, _, .pointer (some ⟨w.heap.size, 0, none⟩), by simp [Instr.range, run_und hu, run_getMap h3], (AR.new _ _ _ _).ptr, q1, q2⟩
      · cases h
    · cases h
  case next it isStr =>
    cases isStr <;> simp only at h <;> try cases h
    have h1 := hρ it (by simp)
    split at h
    · rename_i r hr
      rw [hr] at h1
      obtain ⟨l, h2, rfl⟩ := Option.map_eq_some_iff.1 h
      obtain ⟨v, H', v', w', q1, q2, q3⟩ := next_ok (ty := ty) R h1 h2
      exact ⟨v, H', v', w', q1, by simp [q2], q3⟩
    · cases h
  case extract x i =>
    have h1 := hρ x (by simp)
    split at h
    · rename_i vs hv
      rw [hv] at h1
      obtain ⟨y, e, hy⟩ := h1.tuple_inv
      refine .pure R h fun v hv => ?_
      obtain ⟨v', q1, q2⟩ := hy.get i (by simpa using hv)
      have : y[i]? = some v' := by simpa using q1
      exact ⟨v', by simp [Instr.extract, e, this], q2⟩
    · cases h
  case call c =>
    obtain ⟨callee, args, argTypes⟩ := c
    cases callee with
    | value f =>
      simp only [Call.operands] at hρ
      exact callA_ok (c := { callee := .value f, args, argTypes }) rfl (hρ f (by simp)) (VRs.map fun x hx => hρ x (by simp; exact .inr (by simpa using hx))) h
    | invoke r m => cases h
    | builtin b =>
      simp only [Call.operands] at hρ
      have ha : VRs φ (args.toList.map ρ) (args.toList.map ρ') := VRs.map fun x hx => hρ x (by simpa using hx)
      have e : (args.toList.map ρ').toArray = args.map ρ' := by apply Array.ext'; simp
      generalize args.toList.map ρ = l at ha h
      generalize args.toList.map ρ' = l' at ha e
      simp only [resolve, pure_bind, invoke, ← e]
      cases b <;> simp only at h <;> simp only [builtin] <;> try cases h
      case append =>
        obtain ⟨⟨v, H'⟩, h1, rfl⟩ := Option.map_eq_some_iff.1 h
        exact .val (append_ok R hK ha h1)
      case copy =>
        obtain ⟨⟨v, H'⟩, h1, rfl⟩ := Option.map_eq_some_iff.1 h
        exact .val (copy_ok R ha h1)
      case delete =>
        obtain ⟨H', h1, rfl⟩ := Option.map_eq_some_iff.1 h
        obtain ⟨w', h2, h3, h4⟩ := delete_ok (ty := ty) R ha h1
        exact .val ⟨φ, w', _, h2, .tuple .nil, h3, h4⟩
      case len =>
        split at h
        · rename_i t x h0
          cases ha with
          | cons h1 h2 =>
            cases h2
            refine .pure R h fun v hv => ?_
            obtain ⟨q1, q2⟩ := len_ok (ty := ty) R h1 hv
            refine ⟨v, ?_, .scalar q2⟩
            rw [← q1]
            simp [Builtin.len_, h0]
        · cases h
      case cap =>
        split at h
        · rename_i t a m n h0
          cases ha with
          | cons h1 h2 =>
            cases h2
            split at h
            · rename_i elem hu
              split at h
              · rename_i hn
                cases h
                refine .val (.pure R ⟨.int .i64 n, ?_, .scalar rfl⟩)
                cases a with
                | none => rw [h1.nilSlice_inv]; simp [Builtin.cap_, h0, run_und hu, goInt]
                | some a =>
                  obtain ⟨a', k, rfl⟩ := h1.slice_cap
                  rw [conc_exact hn]
                  simp [Builtin.cap_, h0, run_und hu, goInt]
              · cases h
            · cases h
        · cases h
      case min =>
        split at h
        · cases ha with
          | cons h1 h2 =>
            cases h2 with
            | cons h3 h4 =>
              cases h4
              refine .pure R h fun v hv => ?_
              obtain ⟨q1, q2⟩ := min_ok (at_ := argTypes) (ty := ty) (P := C.P) (w := w) h1 h3 hv
              exact ⟨v, q1, .scalar q2⟩
        · cases h
      case max =>
        split at h
        · cases ha with
          | cons h1 h2 =>
            cases h2 with
            | cons h3 h4 =>
              cases h4
              refine .pure R h fun v hv => ?_
              obtain ⟨q1, q2⟩ := min_ok (at_ := argTypes) (ty := ty) (P := C.P) (w := w) h1 h3 hv
              exact ⟨v, q1, .scalar q2⟩
        · cases h
  case defer c =>
    obtain ⟨callee, args, argTypes⟩ := c
    cases callee with
    | value f =>
      simp only [Call.operands] at hρ
      have h1 := hρ f (by simp)
      simp only at h
      split at h
      · rename_i g first cap hf
        cases h
        rw [hf] at h1
        have ha : VRs φ (args.toList.map ρ) (args.toList.map ρ') := VRs.map fun x hx => hρ x (by simp; exact .inr (by simpa using hx))
        generalize hv : ρ' f = v' at h1
        cases h1 with
        | scalar h => simp [Abs.scalar] at h
        | func q1 q2 =>
          refine ⟨_, by simp [resolve, hv, Deferred.ofValue]; rfl, g, cap, _, rfl, rfl, q2, ?_⟩
          simpa using q1.append ha
      · cases h
    | invoke r m => cases h
    | builtin b => cases h
  all_goals (cases h)

end Go.Abs

/-! One operation of a region, one round of a range over a function: what the abstract machine does stands for the model's; no condition. -/
namespace Go.Abs
variable {C : Cfg} {φ : Phi} {H : Heap} {w : World}

/-- of what make the frame is -/
def fenceA : Option Nat → Fence
  | none => Fence.wide
  | some l => Fence.wide.inRound l

theorem fenceA_fn (ro : Option Nat) (f : FuncId) : (fenceA ro).fn f := by cases ro <;> trivial
theorem fenceA_depth (ro : Option Nat) : (fenceA ro).depth = none := by cases ro <;> rfl
theorem fenceA_round (ro : Option Nat) : (fenceA ro).round = ro := by cases ro <;> rfl
theorem fenceA_in (ro : Option Nat) (l : Nat) : (fenceA ro).inRound l = fenceA (some l) := by cases ro <;> rfl

inductive RoR (φ : Phi) : Option Nat → Option Nat → Prop where
  | none : RoR φ none none
  | some {l l' : Nat} : VR φ (.map (some l)) (.map (some l')) → RoR φ (some l) (some l')

theorem RoR.mono {φ φ' : Phi} (h : φ.le φ') {x y : Option Nat} (hx : RoR φ x y) : RoR φ' x y := by
  cases hx with
  | none => exact .none
  | some h1 => exact .some (h1.mono h)

/-- a deferred call, or a mark -/
inductive MR (φ : Phi) : Deferred → Deferred → Prop where
  | call {d d' : Deferred} : DR φ d d' → MR φ d d'
  | mark {r r' : Nat} {x x' : Array Value} : VR φ (.map (some r)) (.map (some r')) → MR φ { target := .collected r, args := x } { target := .collected r', args := x' }

inductive MRs (φ : Phi) : List Deferred → List Deferred → Prop where
  | nil : MRs φ [] []
  | cons {d d' : Deferred} {l l' : List Deferred} : MR φ d d' → MRs φ l l' → MRs φ (d :: l) (d' :: l')

theorem DR.mono {φ φ' : Phi} (h : φ.le φ') {d d' : Deferred} (hd : DR φ d d') : DR φ' d d' := by
  obtain ⟨g, cap, cap', h1, h2, h3, h4⟩ := hd
  exact ⟨g, cap, cap', h1, h2, h3.mono h, h4.mono h⟩
theorem MR.mono {φ φ' : Phi} (h : φ.le φ') {d d' : Deferred} (hd : MR φ d d') : MR φ' d d' := by
  cases hd with
  | call h1 => exact .call (h1.mono h)
  | mark h1 => exact .mark (h1.mono h)
theorem MRs.mono {φ φ' : Phi} (h : φ.le φ') {l l' : List Deferred} (hd : MRs φ l l') : MRs φ' l l' := by
  induction hd with
  | nil => exact .nil
  | cons h1 _ ih => exact .cons (h1.mono h) ih

/-- which temporaries are left out -/
abbrev Skips := Tmp → Prop
abbrev noSkips : Skips := fun _ => False

structure ActR (φ : Phi) (X : Skips) (a : AAct) (a' : Act) : Prop where
  len : a.tmps.length = a'.tmps.size
  tmps : ∀ t, ¬ X t → VR φ (a.tmps.getD t undef) (a'.tmps.getD t undef)
  defers : MRs φ a.defers a'.defers

theorem ActR.mono {X : Skips} {φ φ' : Phi} (h : φ.le φ') {a : AAct} {a' : Act} (ha : ActR φ X a a') : ActR φ' X a a' := ⟨ha.len, fun t ht => (ha.tmps t ht).mono h, ha.defers.mono h⟩

theorem undef_rel : VR φ undef undef := .tuple .nil

theorem VRs.getD {l l' : List Value} (h : VRs φ l l') (t : Nat) : VR φ (l.getD t undef) (l'.getD t undef) := by
  simp only [List.getD_eq_getElem?_getD]
  cases hl : l[t]? with
  | none => rw [h.get_none t hl]; exact undef_rel
  | some v => obtain ⟨v', h1, h2⟩ := h.get t hl; rw [h1]; exact h2

theorem VRs.of_getD : ∀ {l l' : List Value}, l.length = l'.length → (∀ t, VR φ (l.getD t undef) (l'.getD t undef)) → VRs φ l l'
  | [], [], _, _ => .nil
  | [], _ :: _, h, _ => by simp at h
  | _ :: _, [], h, _ => by simp at h
  | v :: l, v' :: l', h, ht => .cons (by simpa using ht 0) (VRs.of_getD (by simpa using h) fun t => by simpa using ht (t + 1))

theorem array_getD (x : Array Value) (t : Nat) : x.getD t undef = x.toList.getD t undef := by
  simp [Array.getD_eq_getD_getElem?, List.getD_eq_getElem?_getD]

theorem ActR.of {a : AAct} {a' : Act} (h : VRs φ a.tmps a'.tmps.toList) (hd : MRs φ a.defers a'.defers) : ActR φ noSkips a a' :=
  ⟨by simpa using h.length, fun t _ => by rw [array_getD]; exact h.getD t, hd⟩

theorem ActR.all {a : AAct} {a' : Act} (h : ActR φ noSkips a a') : VRs φ a.tmps a'.tmps.toList :=
  .of_getD (by simpa using h.len) fun t => by rw [← array_getD]; exact h.tmps t (fun h => h)

theorem ActR.eval (R : Rel C φ H w) {X : Skips} {a : AAct} {a' : Act} (ha : ActR φ X a a') {x : Operand} (hx : okOperand C.K x = true) (hX : ∀ t, x = .tmp t → ¬ X t) : VR φ (a.eval x) (a'.eval x) := by
  cases x with
  | tmp t => exact ha.tmps t (hX t rfl)
  | const v => exact VR.const hx
  | global g => exact .ptr (a := ⟨g, 0, none⟩) (R.glob g (by simpa [okOperand] using hx)) rfl
  | func f => exact .func .nil .nil

theorem ActR.put {X : Skips} {a : AAct} {a' : Act} (ha : ActR φ X a a') (dst : Option Tmp) {v v' : Value} (hv : VR φ v v') : ActR φ X (a.put dst v) (a'.put dst v') := by
  cases dst with
  | none => exact ha
  | some d =>
    refine ⟨?_, fun t ht => ?_, ha.defers⟩
    · simp only [AAct.put, Act.put, List.length_set, Array.size_setIfInBounds]; exact ha.len
    · simp only [AAct.put, Act.put]
      have h1 := ha.tmps t ht
      have hl := ha.len
      rw [array_getD] at h1 ⊢
      simp only [List.getD_eq_getElem?_getD, Array.toList_setIfInBounds, List.getElem?_set] at h1 ⊢
      by_cases e : d = t
      · subst e
        by_cases hd : d < a.tmps.length
        · rw [if_pos rfl, if_pos rfl, if_pos hd, if_pos (by simpa [hl] using hd)]
          exact hv
        · rw [if_pos rfl, if_pos rfl, if_neg hd, if_neg (by simpa [hl] using hd)]
          exact undef_rel
      · rw [if_neg e, if_neg e]
        exact h1

theorem VR.bool_iff {v v' : Value} (h : VR φ v v') (b : Bool) : v' = .bool b ↔ v = .bool b := by
  constructor
  · intro e; subst e; cases h; rfl
  · intro e; subst e; exact h.bool_inv

theorem yielded_eq {ops : Array Oper} {X : Skips} {a : AAct} {a' : Act} (h : ActR φ X a a') (j : Nat) (hX : ∀ d, (ops[j]?).bind (·.dst) = some d → ¬ X d) : yieldedA ops a.tmps j = yielded ops a'.tmps j := by
  unfold yieldedA yielded
  cases hb : ((ops[j]?).bind (·.dst)) with
  | none => rfl
  | some d =>
    simp only [Option.bind_some]
    have h1 := h.tmps d (hX d hb)
    have hl := h.len
    rw [array_getD] at h1
    simp only [List.getD_eq_getElem?_getD] at h1
    have e : a'.tmps[d]? = a'.tmps.toList[d]? := by simp
    rw [e]
    by_cases hd : d < a.tmps.length
    · have hd' : d < a'.tmps.toList.length := by simpa [hl] using hd
      rw [List.getElem?_eq_getElem hd, List.getElem?_eq_getElem hd'] at h1 ⊢
      simp only [Option.getD_some] at h1
      generalize a.tmps[d] = v at h1
      generalize a'.tmps.toList[d] = v' at h1
      have := h1.bool_iff
      cases v' with
      | bool b => rw [(this b).1 rfl]
      | _ =>
        cases v with
        | bool b => have := (this b).2 rfl; cases this
        | _ => rfl
    · rw [List.getElem?_eq_none (Nat.le_of_not_lt hd), List.getElem?_eq_none (by rw [Array.length_toList, ← hl]; exact Nat.le_of_not_lt hd)]

/-- what an operation looks at is not left out -/
structure Seen (X : Skips) (ops : Array Oper) (o : Oper) : Prop where
  operands : ∀ t, Operand.tmp t ∈ o.op.operands.toList → ¬ X t
  guard : ∀ j b d, o.guard = some (j, b) → (ops[j]?).bind (·.dst) = some d → ¬ X d

theorem Seen.none {ops : Array Oper} {o : Oper} : Seen noSkips ops o := ⟨fun _ _ h => h, fun _ _ _ _ _ h => h⟩

theorem wanted_eq {ops : Array Oper} {o : Oper} {X : Skips} {a : AAct} {a' : Act} (h : ActR φ X a a') (hX : Seen X ops o) : Region.wanted o (yieldedA ops a.tmps) = Region.wanted o (yielded ops a'.tmps) := by
  unfold Region.wanted
  split
  · rfl
  · rename_i j b hg
    rw [yielded_eq h j fun d hd => hX.guard j b d hg hd]

theorem bind_inv {α β : Type} {x : Res α} {f : α → Res β} {l : List β} (h : Res.bind x f = some l) : ∃ l1, x = some l1 ∧ ∀ o ∈ l1, ∃ lo, f o = some lo ∧ ∀ y ∈ lo, y ∈ l := by
  unfold Res.bind at h
  cases x with
  | none => cases h
  | some l1 =>
    refine ⟨l1, rfl, ?_⟩
    simp only at h
    induction l1 generalizing l with
    | nil => intro o ho; cases ho
    | cons a l1 ih =>
      unfold Res.all at h
      cases hf : f a with
      | none => rw [hf] at h; cases h
      | some r =>
        cases hg : Res.all f l1 with
        | none => rw [hf, hg] at h; cases h
        | some s =>
          rw [hf, hg] at h
          simp only [Option.some.injEq] at h
          subst h
          intro o ho
          rcases List.mem_cons.1 ho with rfl | ho
          · exact ⟨r, hf, fun y hy => List.mem_append_left _ hy⟩
          · obtain ⟨lo, h1, h2⟩ := ih hg o ho
            exact ⟨lo, h1, fun y hy => List.mem_append_right _ (h2 y hy)⟩

/-! ### What is known of calls and of code -/
def callPost (C : Cfg) (φ : Phi) (H : Heap) (w : World) (l : List (Value × Heap)) : Ending → World → Prop
  | .returned v', w' => ∃ x φ', x ∈ l ∧ VR φ' x.1 v' ∧ Rel C φ' x.2 w' ∧ Ext C φ H w φ' x.2 w'
  | _, _ => False

inductive ER : AExit → Exit → Prop where
  | normal : ER .normal .normal
  | exit {id : Nat} : ER (.exit id) (.exit id)
  | goto {l : Nat} : ER (.goto l) (.goto l)
  | ret : ER .ret .ret

def codePost (C : Cfg) (φ : Phi) (H : Heap) (w : World) (l : List Out) (e : Exit) (a' : Act) (w' : World) : Prop :=
  ∃ o φ', o ∈ l ∧ ER o.e e ∧ ActR φ' noSkips o.a a' ∧ Rel C φ' o.H w' ∧ Ext C φ H w φ' o.H w'

def opsPost (C : Cfg) (X : Skips) (φ : Phi) (H : Heap) (w : World) (l : List (AAct × Heap)) (a' : Act) (w' : World) : Prop :=
  ∃ x φ', x ∈ l ∧ ActR φ' X x.1 a' ∧ Rel C φ' x.2 w' ∧ Ext C φ H w φ' x.2 w'

structure RecOk (C : Cfg) (R : Rec) : Prop where
  call : ∀ f args H l, R.call f args H = some l → ∃ fn, C.P.funcs[f]? = some fn ∧ fn.body.isSome = true ∧ ∀ φ w args', Rel C φ H w → VRs φ args args' → CallsIn Fence.wide 0 C.P f args'.toArray w (callPost C φ H w l)
  code : ∀ ro c a H l, R.code ro c a H = some l → ∀ φ w a' ro', Rel C φ H w → ActR φ noSkips a a' → RoR φ ro ro' → c.wpIn (fenceA ro') 0 C.P (codePost C φ H w l) a' w

/-! ### A round -/
theorem Rel.loop (R : Rel C φ H w) {l l' : Nat} (hl : VR φ (.map (some l)) (.map (some l'))) {r : Loop} (hg : H.get l = some (.loop r)) :
    ∃ r' k sh, w.heap[l']? = some (.loop r') ∧ LR φ r r' ∧ φ l = some (.live l' k sh) := by
  cases hl with
  | scalar h => simp [Abs.scalar] at h
  | map h1 =>
    obtain ⟨o', h2, r', rfl, h3⟩ := R.live _ _ _ _ _ h1 hg
    exact ⟨r', _, _, h2, h3, h1⟩
  | mapDead h1 => rw [R.dead _ h1] at hg; cases hg

theorem Rel.putLoop (R : Rel C φ H w) {l l' k sh : Nat} {r r' : Loop} {o : Obj} (hl : φ l = some (.live l' k sh)) (hn : H.get l ≠ none) (ho : w.heap[l']? = some o) (hr : LR φ r r') :
    Rel C φ (H.put l (.loop r)) (w.putObj l' (.loop r')) ∧ Ext C φ H w φ (H.put l (.loop r)) (w.putObj l' (.loop r')) := by
  have := set_facts (o' := .loop r') ho
  exact R.setObj hn hl ⟨r', rfl, hr⟩ this.1 this.2.1 this.2.2

theorem setAll_eq : ∀ (ps : List Tmp) (vs : List Value) (t : Array Value), ((ps.zip vs).foldl (fun tmps (x : Tmp × Value) => tmps.setIfInBounds x.1 x.2) t).toList = setAll ps vs t.toList
  | [], _, _ => by simp [setAll]
  | _ :: _, [], _ => by simp [setAll]
  | p :: ps, v :: vs, t => by
    simp only [List.zip_cons_cons, List.foldl_cons, setAll]
    rw [setAll_eq ps vs]
    simp

theorem setAll_rel : ∀ (ps : List Tmp) {vs vs' t t' : List Value}, VRs φ vs vs' → VRs φ t t' → VRs φ (setAll ps vs t) (setAll ps vs' t')
  | [], _, _, _, _, _, h => by simpa [setAll] using h
  | _ :: _, _, _, _, _, .nil, h => by simpa [setAll] using h
  | p :: ps, _, _, _, _, .cons h1 h2, h => by
    simp only [setAll]
    exact setAll_rel ps h2 (h.set p h1)

theorem endRound_ok (R : Rel C φ H w) {l l' : Nat} {jump : Option Code} {out : List (Value × Heap)} (hl : VR φ (.map (some l)) (.map (some l'))) (h : endRoundA l H jump = some out) :
    ∃ v w', (Instr.endRound l' jump).run C.P w = .ok v w' ∧ callPost C φ H w out (.returned v) w' := by
  unfold endRoundA at h
  split at h
  · rename_i r hg
    cases h
    obtain ⟨r', k, sh, h1, h2, h3⟩ := R.loop hl hg
    refine ⟨_, _, run_endRound jump h1, ?_⟩
    obtain ⟨q1, q2⟩ := R.putLoop (r := { r with state := if jump.isNone then .ready else .done, pending := jump }) (r' := { r' with state := if jump.isNone then .ready else .done, pending := jump }) h3 (by rw [hg]; simp) h1
      { state := rfl, pending := rfl, params := h2.params, assign := h2.assign, body := h2.body, tmps := h2.tmps, defers := h2.defers }
    exact ⟨_, φ, List.mem_singleton.2 rfl, .scalar rfl, q1, q2⟩
  · cases h

theorem callPost.trans {φ' : Phi} {H' : Heap} {w' : World} {l l' : List (Value × Heap)} (R : Rel C φ H w) (E : Ext C φ H w φ' H' w') (hl : ∀ x ∈ l, x ∈ l') {e : Ending} {w'' : World}
    (h : callPost C φ' H' w' l e w'') : callPost C φ H w l' e w'' := by
  cases e with
  | returned v =>
    obtain ⟨x, φ'', h1, h2, h3, h4⟩ := h
    exact ⟨x, φ'', hl x h1, h2, h3, E.trans R.fresh h4⟩
  | panicked c => exact h.elim
  | outgrown => exact h.elim

theorem round_ok {R : Rec} (hR : RecOk C R) (hw : Rel C φ H w) {l l' : Nat} {args args' : List Value} {out : List (Value × Heap)} (hl : VR φ (.map (some l)) (.map (some l'))) (ha : VRs φ args args')
    (h : roundA R l args H = some out) (ro : Option Nat) :
    ∃ f tmps assign body, (Instr.yield l' args'.toArray).run C.P w = .ok (.round l' f tmps assign body) w ∧ RoundIn (fenceA ro) 0 C.P l' f tmps assign body w (callPost C φ H w out) := by
  unfold roundA at h
  split at h
  · rename_i r hg
    split at h
    · cases h
    · rename_i hsz
      obtain ⟨r', k, sh, h1, h2, h3⟩ := hw.loop hl hg
      have hs : args'.toArray.size = r'.params.size := by
        have := ha.length
        rw [h2.params]; simp; omega
      refine ⟨_, _, _, _, run_yield h1 hs, ?_⟩
      obtain ⟨l1, e1, hb⟩ := bind_inv h
      apply roundIn_of_wpIn (fenceA_fn _ _)
      rw [fenceA_in, h2.assign, h2.body]
      refine wpIn_mono (hR.code _ _ _ _ _ e1 φ w _ (some l') hw (.of ?_ .nil) (.some hl)) ?_
      · simp only
        rw [← Array.foldl_toList, Array.toList_zip, h2.params]
        simp only [List.toList_toArray]
        rw [setAll_eq]
        exact setAll_rel _ ha h2.tmps
      · rintro e a1 w1 ⟨o, φ1, ho, he, hact, hw1, E1⟩
        obtain ⟨lo, hlo, hsub⟩ := hb o ho
        split at hlo
        · rename_i r1 hoe hg1
          rw [hoe] at he
          cases he
          split at hlo
          · rename_i hst
            have hst1 : r1.state = .ready := by simpa using hst
            obtain ⟨r1', k1, sh1, g1, g2, g3⟩ := hw1.loop (hl.mono E1.phi) hg1
            obtain ⟨q1, q2⟩ := hw1.putLoop (r := { r1 with state := .busy }) (r' := { r1' with state := .busy }) g3 (by rw [hg1]; simp) g1
              { state := rfl, pending := g2.pending, params := g2.params, assign := g2.assign, body := g2.body, tmps := g2.tmps, defers := g2.defers }
            refine ⟨_, run_beginRound g1 (by rw [g2.state]; exact hst1), ?_⟩
            obtain ⟨l2, e2, hb2⟩ := bind_inv hlo
            refine wpIn_mono (hR.code _ _ _ _ _ e2 φ1 _ a1 (some l') q1 hact (.some (hl.mono E1.phi))) ?_
            rintro e a2 w2 ⟨o2, φ2, ho2, he2, _, hw2, E2⟩
            obtain ⟨lo2, hlo2, hsub2⟩ := hb2 o2 ho2
            obtain ⟨v, w3, hrun, hpost⟩ := endRound_ok hw2 ((hl.mono E1.phi).mono E2.phi) hlo2
            have hend := callPost.trans (l' := out) hw (E1.trans hw.fresh (q2.trans hw1.fresh E2)) (fun x hx => hsub x (hsub2 x hx)) hpost
            generalize o2.e = x at he2 hrun
            cases he2 with
            | normal => exact ⟨v, w3, hrun, hend⟩
            | ret => exact ⟨v, w3, hrun, hend⟩
            | exit => exact ⟨v, w3, hrun, hend⟩
            | goto => exact ⟨v, w3, hrun, hend⟩
          · cases hlo
        · cases hlo
  · cases h

end Go.Abs

/-! A region's operations, one behind the other: what the abstract machine does stands for the model's; no condition. -/
namespace Go.Abs
variable {C : Cfg} {φ : Phi} {H : Heap} {w : World}

theorem opEval_defer {P : Program} {ρ : Operand → Value} {o : Oper} {c : Call} {n : ONext} (ho : o.op = .defer c) (h : opEval P ρ o H = some n) : ∃ d, n = .defer d := by
  unfold opEval at h
  rw [ho] at h
  simp only at h
  split at h
  · split at h
    · cases h; exact ⟨_, rfl⟩
    · cases h
  · cases h

theorem run_enter {f : FuncId} {fn : Func} {args : Array Value} (hf : C.P.funcs[f]? = some fn) (hn : (fn.name == "runtime.NumGoroutine") = false) (hb : fn.body.isSome = true) :
    (callFunc f args).run C.P w = .ok (.enter f args) w := by
  have hb' : fn.body ≠ none := by cases h : fn.body <;> simp_all
  have hn' : fn.name ≠ "runtime.NumGoroutine" := by simpa using hn
  simp [callFunc, hf, hn', hb']

theorem opsPost.intro {X : Skips} {l : List (AAct × Heap)} {x : AAct × Heap} {φ' : Phi} {a' : Act} {w' : World} (hx : x ∈ l) (ha : ActR φ' X x.1 a') (hR : Rel C φ' x.2 w') (hE : Ext C φ H w φ' x.2 w') : opsPost C X φ H w l a' w' := ⟨x, φ', hx, ha, hR, hE⟩

theorem step_ok {R : Rec} (hR : RecOk C R) (hK : ∀ g ∈ C.K, g < G0 C.P) (hw : Rel C φ H w) {ro ro' : Option Nat} (hro : RoR φ ro ro') {X : Skips} {ops : Array Oper} {o : Oper} (hX : Seen X ops o) {a : AAct} {a' : Act} {out : List (AAct × Heap)}
    (ha : ActR φ X a a') (h : stepA C R ro o a H = some out) {Q : Exit → Act → World → Prop} {K : Act → World → Prop} (hk : ∀ a'' w'', opsPost C X φ H w out a'' w'' → K a'' w'') :
    o.wpIn (fenceA ro') 0 C.P a' w K Q := by
  refine ⟨fun f _ => fenceA_fn _ _, ?_⟩
  unfold stepA at h
  split at h
  · cases h
  · rename_i hok
    simp only [Bool.not_eq_true', Bool.not_eq_false] at hok
    have hok' : ∀ x ∈ o.op.operands.toList, VR φ (a.eval x) (a'.eval x) := fun x hx => ha.eval hw (List.all_eq_true.1 hok x hx) fun t ht => hX.operands t (ht ▸ hx)
    have hdep : (fenceA ro').depth.isSome = true → 1 ≤ 0 := by rw [fenceA_depth]; intro h; cases h
    cases hev : opEval C.P a.eval o H with
    | none => rw [hev] at h; cases h
    | some n =>
      rw [hev] at h
      have hs := op_sound hw hK (ρ' := a'.eval) hok' hev
      have hsem : (∀ d, n ≠ .defer d) → o.semAt (fenceA ro').round a'.eval = execOp a'.eval o := fun hn => by
        refine Oper.semAt_eq _ _ _ fun c hc => ?_
        obtain ⟨d, hd⟩ := opEval_defer hc hev
        exact hn d hd
      cases n with
      | val v H' =>
        cases h
        obtain ⟨φ', w', v', h1, h2, h3, h4⟩ := hs
        rw [hsem (fun d => by simp), h1, Oper.uponIn_value]
        exact hk _ _ (.intro (List.mem_singleton.2 rfl) ((ha.mono h4.phi).put _ h2) h3 h4)
      | skip H' =>
        cases h
        obtain ⟨φ', w', h1, h3, h4⟩ := hs
        rw [hsem (fun d => by simp), h1, Oper.uponIn_skip]
        exact hk _ _ (.intro (List.mem_singleton.2 rfl) ((ha.mono h4.phi).put _ undef_rel) h3 h4)
      | call f args =>
        obtain ⟨args', h1, h2, fn, h3, h4⟩ := hs
        obtain ⟨l1, e1, hb⟩ := bind_inv h
        obtain ⟨fn', h5, h6, h7⟩ := hR.call _ _ _ _ e1
        rw [h3] at h5; cases h5
        rw [hsem (fun d => by simp), h2, run_enter h3 h4 h6, Oper.uponIn_enter]
        refine ⟨hdep, ?_⟩
        have hc := h7 φ w args' hw h1
        have hc' : CallsIn (fenceA ro') 0 C.P f args'.toArray w (callPost C φ H w l1) := by
          cases ro' with
          | none => exact hc
          | some l => exact hc
        refine hc'.mono fun e w'' he => ?_
        cases e with
        | returned v =>
          obtain ⟨x, φ', hx, q1, q2, q3⟩ := he
          obtain ⟨lo, q4, q5⟩ := hb x hx
          cases q4
          exact hk _ _ (.intro (q5 _ (List.mem_singleton.2 rfl)) ((ha.mono q3.phi).put _ q1) q2 q3)
        | panicked c => exact he.elim
        | outgrown => exact he.elim
      | yield l args =>
        obtain ⟨l', args', h1, h2, h3⟩ := hs
        obtain ⟨l1, e1, hb⟩ := bind_inv h
        obtain ⟨f, tmps, assign, body, h4, h5⟩ := round_ok hR hw h1 h2 e1 ro'
        rw [hsem (fun d => by simp), h3, h4, Oper.uponIn_round]
        refine ⟨hdep, h5.mono fun e w'' he => ?_⟩
        cases e with
        | returned v =>
          obtain ⟨x, φ', hx, q1, q2, q3⟩ := he
          obtain ⟨lo, q4, q5⟩ := hb x hx
          cases q4
          exact hk _ _ (.intro (q5 _ (List.mem_singleton.2 rfl)) ((ha.mono q3.phi).put _ q1) q2 q3)
        | panicked c => exact he.elim
        | outgrown => exact he.elim
      | defer d =>
        simp only at h
        split at h
        · cases h
        · rename_i hr
          cases h
          cases hro with
          | some _ => simp at hr
          | none =>
            obtain ⟨d', h1, h2⟩ := hs
            have : o.semAt (fenceA none).round a'.eval = execOp a'.eval o := rfl
            rw [this, h1, Oper.uponIn_defer]
            refine hk _ _ (.intro (List.mem_singleton.2 rfl) ?_ hw .refl)
            exact ActR.put (a := { a with defers := d :: a.defers }) (a' := { a' with defers := d' :: a'.defers }) ⟨ha.len, ha.tmps, .cons (.call h2) ha.defers⟩ _ undef_rel
      | any l =>
        cases h
        obtain ⟨v, H', v', w', h1, h2, h3, h4, h5⟩ := hs
        rw [hsem (fun d => by simp), h2, Oper.uponIn_value]
        exact hk _ _ (.intro (List.mem_map_of_mem (f := fun x : Value × Heap => (a.put o.dst x.1, x.2)) h1) ((ha.mono h5.phi).put _ h3) h4 h5)

theorem op_ok {R : Rec} (hR : RecOk C R) (hK : ∀ g ∈ C.K, g < G0 C.P) (hw : Rel C φ H w) {ro ro' : Option Nat} (hro : RoR φ ro ro') {X : Skips} {ops : Array Oper} {i : Nat} (hX : ∀ o, ops[i]? = some o → Seen X ops o) {a : AAct} {a' : Act} {out : List (AAct × Heap)}
    (ha : ActR φ X a a') (h : opA C R ro ops i a H = some out) {Q : Exit → Act → World → Prop} {K : Act → World → Prop} (hk : ∀ a'' w'', opsPost C X φ H w out a'' w'' → K a'' w'') :
    wpOpIn (fenceA ro') 0 C.P ops Q i K a' w := by
  unfold opA at h
  unfold wpOpIn
  cases ho : ops[i]? with
  | none =>
    rw [ho] at h
    cases h
    exact hk _ _ (.intro (List.mem_singleton.2 rfl) ha hw .refl)
  | some o =>
    rw [ho] at h
    simp only at h ⊢
    rw [wanted_eq ha (hX o ho)] at h
    split at h
    · rename_i hwt
      rw [if_pos hwt]
      exact step_ok hR hK hw hro (hX o ho) ha h hk
    · rename_i hwt
      rw [if_neg hwt]
      cases h
      exact ⟨fun f _ => fenceA_fn _ _, hk _ _ (.intro (List.mem_singleton.2 rfl) (ha.put _ undef_rel) hw .refl)⟩

theorem opsPost.trans {φ' : Phi} {H' : Heap} {w' : World} {X : Skips} {l l' : List (AAct × Heap)} (R : Rel C φ H w) (E : Ext C φ H w φ' H' w') (hl : ∀ x ∈ l, x ∈ l') {a : Act} {w'' : World}
    (h : opsPost C X φ' H' w' l a w'') : opsPost C X φ H w l' a w'' := by
  obtain ⟨x, φ'', h1, h2, h3, h4⟩ := h
  exact ⟨x, φ'', hl x h1, h2, h3, E.trans R.fresh h4⟩

theorem run_ok {R : Rec} (hR : RecOk C R) (hK : ∀ g ∈ C.K, g < G0 C.P) {ro ro' : Option Nat} {ops : Array Oper} : ∀ (is : List Nat) {φ : Phi} {H : Heap} {w : World} {a : AAct} {a' : Act} {out : List (AAct × Heap)},
    Rel C φ H w → RoR φ ro ro' → ActR φ noSkips a a' → runOps C R ro ops is a H = some out → ∀ {Q : Exit → Act → World → Prop}, (∀ a'' w'', opsPost C noSkips φ H w out a'' w'' → Q .normal a'' w'') →
    wpOpsIn (fenceA ro') 0 C.P ops Q is a' w
  | [], φ, H, w, a, a', out, hw, hro, ha, h, Q, hq => by
    cases h
    exact hq _ _ (.intro (List.mem_singleton.2 rfl) ha hw .refl)
  | i :: is, φ, H, w, a, a', out, hw, hro, ha, h, Q, hq => by
    rw [wpOpsIn_cons]
    obtain ⟨l1, e1, hb⟩ := bind_inv h
    refine op_ok hR hK hw hro (fun _ _ => Seen.none) ha e1 fun a1 w1 ⟨x, φ1, hx, h1, h2, h3⟩ => ?_
    obtain ⟨lo, h4, h5⟩ := hb x hx
    exact run_ok hR hK is h2 (hro.mono h3.phi) h1 h4 fun a2 w2 h6 => hq _ _ (opsPost.trans hw h3 h5 h6)

end Go.Abs

/-! A region that draws its order: the abstract machine runs it in one order and looks whether another one would come to the same; no condition. -/
namespace Go.Abs

/-! ### Equal values -/
mutual
def sameV : Value → Value → Bool
  | .bool a, .bool b => a == b
  | .int k a, .int k' b => k == k' && a == b
  | .string a, .string b => a.data.toList == b.data.toList
  | .nilFunc, .nilFunc => true
  | .nilIface, .nilIface => true
  | .pointer none, .pointer none => true
  | .pointer (some a), .pointer (some b) => a.block == b.block && a.off == b.off && a.spot.isNone && b.spot.isNone
  | .slice none n c, .slice none n' c' => n == n' && c == c'
  | .slice (some a) n c, .slice (some b) n' c' => a.block == b.block && a.off == b.off && a.spot.isNone && b.spot.isNone && n == n' && c == c'
  | .map none, .map none => true
  | .map (some a), .map (some b) => a == b
  | .func (.func f) ⟨x⟩ ⟨y⟩, .func (.func g) ⟨x'⟩ ⟨y'⟩ => f == g && sameVs x x' && sameVs y y'
  | .iface t v, .iface t' v' => t == t' && sameV v v'
  | .agg ⟨x⟩, .agg ⟨y⟩ => sameVs x y
  | .tuple ⟨x⟩, .tuple ⟨y⟩ => sameVs x y
  | _, _ => false
def sameVs : List Value → List Value → Bool
  | [], [] => true
  | v :: l, v' :: l' => sameV v v' && sameVs l l'
  | _, _ => false
end

theorem addr_eq {a b : Addr} (h1 : a.block = b.block) (h2 : a.off = b.off) (h3 : a.spot = none) (h4 : b.spot = none) : a = b := by
  obtain ⟨x, y, z⟩ := a; obtain ⟨x', y', z'⟩ := b
  simp only at h1 h2 h3 h4
  subst h1 h2 h3 h4
  rfl

mutual
theorem sameV_eq : ∀ (a b : Value), sameV a b = true → a = b
  | .bool a, b, h => by cases b <;> simp [sameV] at h; rw [h]
  | .int k a, b, h => by cases b <;> simp [sameV] at h; rw [h.1, h.2]
  | .string a, b, h => by
    cases b <;> try simp [sameV] at h
    rename_i b
    obtain ⟨a⟩ := a; obtain ⟨b⟩ := b
    simp only at h
    rw [h]
  | .nilFunc, b, h => by cases b <;> simp [sameV] at h; rfl
  | .nilIface, b, h => by cases b <;> simp [sameV] at h; rfl
  | .pointer none, b, h => by
    cases b <;> (try simp [sameV] at h)
    rename_i b; cases b <;> simp [sameV] at h; rfl
  | .pointer (some a), b, h => by
    cases b <;> (try simp [sameV] at h)
    rename_i b; cases b <;> simp [sameV] at h
    rw [addr_eq h.1.1.1 h.1.1.2 h.1.2 h.2]
  | .slice none n c, b, h => by
    cases b <;> try simp [sameV] at h
    rename_i b _ _; cases b <;> simp [sameV] at h
    rw [h.1, h.2]
  | .slice (some a) n c, b, h => by
    cases b <;> try simp [sameV] at h
    rename_i b _ _; cases b <;> simp [sameV] at h
    rw [addr_eq h.1.1.1.1.1 h.1.1.1.1.2 h.1.1.1.2 h.1.1.2, h.1.2, h.2]
  | .map none, b, h => by
    cases b <;> (try simp [sameV] at h)
    rename_i b; cases b <;> simp [sameV] at h; rfl
  | .map (some a), b, h => by
    cases b <;> (try simp [sameV] at h)
    rename_i b; cases b <;> simp [sameV] at h; rw [h]
  | .func f ⟨x⟩ ⟨y⟩, b, h => by
    cases f <;> cases b <;> try simp [sameV] at h
    rename_i g x' y'
    obtain ⟨x'⟩ := x'; obtain ⟨y'⟩ := y'
    cases g <;> simp [sameV] at h
    rw [h.1.1, sameVs_eq x x' h.1.2, sameVs_eq y y' h.2]
  | .iface t v, b, h => by
    cases b <;> simp [sameV] at h
    rw [h.1, sameV_eq v _ h.2]
  | .agg ⟨x⟩, b, h => by
    cases b <;> try simp [sameV] at h
    rename_i y; obtain ⟨y⟩ := y
    simp [sameV] at h
    rw [sameVs_eq x y h]
  | .tuple ⟨x⟩, b, h => by
    cases b <;> try simp [sameV] at h
    rename_i y; obtain ⟨y⟩ := y
    simp [sameV] at h
    rw [sameVs_eq x y h]
  | .float .., b, h => by cases b <;> simp [sameV] at h
  | .complex .., b, h => by cases b <;> simp [sameV] at h
  | .chan .., b, h => by cases b <;> simp [sameV] at h
theorem sameVs_eq : ∀ (a b : List Value), sameVs a b = true → a = b
  | [], [], _ => rfl
  | [], _ :: _, h => by simp [sameVs] at h
  | _ :: _, [], h => by simp [sameVs] at h
  | v :: l, v' :: l', h => by
    simp [sameVs] at h
    rw [sameV_eq v v' h.1, sameVs_eq l l' h.2]
end

/-! ### The plan of a region -/
/-- may it run at any time between those that it is ordered with? (it makes a block, or does nothing to memory) -/
def isMake : Op → Bool
  | .alloc _ | .box .. | .buildSlice .. => true
  | _ => false

def isFloat (P : Program) : Op → Bool
  | .move _ | .assign _ | .pick .. | .build .. | .load .. | .nilCheck _ | .binOp .. | .unOp .. | .makeInterface .. | .makeFunc .. | .slice .. | .fieldAddr .. | .field .. | .indexAddr .. | .index .. | .lookup .. | .extract .. => true
  | .convert _ d _ => match P.underlying d with | some (.slice _) => false | _ => true
  | .call { callee := .builtin .len, .. } | .call { callee := .builtin .cap, .. } | .call { callee := .builtin .min, .. } | .call { callee := .builtin .max, .. } => true
  | _ => false

structure Plan where
  first : List Nat
  /-- an effect; what runs behind it; what is to be looked at again there -/
  stages : List (Nat × List Nat × List Nat)

def bit (i : Nat) : Nat := 2 ^ i
def hasBit (m i : Nat) : Bool := m.testBit i
def subMask (a b : Nat) : Bool := (a &&& b) == a

def predMask (o : Oper) : Nat := (o.after.toList.filter (Region.binds .any)).foldl (fun m e => m ||| 2 ^ e.on) 0
def predMasks (ops : Array Oper) : List Nat := ops.toList.map predMask
def upMask (pm : List Nat) (m : Nat) : List Nat → Nat
  | [] => m
  | i :: r => upMask pm (if m.testBit i then m ||| pm.getD i 0 else m) r

/-- the temporaries that it looks at -/
def tmpsOf (ops : Array Oper) (o : Oper) : List Tmp :=
  (o.op.operands.toList.filterMap fun x => match x with | .tmp t => some t | _ => none) ++
  (match o.guard with | some (j, _) => ((ops[j]?).bind (·.dst)).toList | none => [])

def okFloats (n : Nat) (pm eff : List Nat) : List Nat → Nat → Option Nat
  | [], L => some L
  | i :: r, L => if !L.testBit i && decide (i < n) && subMask (pm.getD i 0) L && !eff.contains i then okFloats n pm eff r (L ||| 2 ^ i) else none

def okStages (n : Nat) (pm eff down : List Nat) : List (Nat × List Nat × List Nat) → Nat → Nat → Bool
  | [], L, _ => (List.range n).all (L.testBit ·)
  | (e, fs, chk) :: r, L, F =>
    decide (e < n) && !L.testBit e && subMask (pm.getD e 0) L && (List.range n).all (fun i => L.testBit i || i == e || !subMask (pm.getD i 0) L) &&
    (let F' := upMask pm (F ||| 2 ^ e) down
     match okFloats n pm eff fs (L ||| 2 ^ e) with
     | some L' => (List.range n).all (fun i => !L'.testBit i || F'.testBit i || chk.contains i) && okStages n pm eff down r L' F'
     | none => false)

def okPlan (ops : Array Oper) (p : Plan) : Bool :=
  let n := ops.size
  let pm := predMasks ops
  let eff := p.stages.map (·.1)
  let down := (List.range n).reverse
  (List.range n).all (fun i => decide (pm.getD i 0 < 2 ^ i)) &&
  (List.range n).all (fun i => match ops[i]? with
    | some o =>
      let up := upMask pm (pm.getD i 0) down
      (tmpsOf ops o).all fun t => (List.range n).all fun j => ((ops[j]?).bind (·.dst)) != some t || up.testBit j || eff.contains j
    | none => false) &&
  (match okFloats n pm eff p.first 0 with
   | some L => (List.range n).all (fun i => !L.testBit i || p.first.contains i) && okStages n pm eff down p.stages L 0
   | none => false)

/-- the plan, made without proof: looked over by okPlan -/
def mkFloats (ops : Array Oper) (pm : List Nat) (eff : Nat) : List Nat → Nat → List Nat × Nat
  | [], L => ([], L)
  | i :: r, L => if !L.testBit i && !eff.testBit i && subMask (pm.getD i 0) L then let x := mkFloats ops pm eff r (L ||| 2 ^ i); (i :: x.1, x.2) else mkFloats ops pm eff r L

def mkStages (ops : Array Oper) (pm down up : List Nat) (eff : Nat) : Nat → Nat → Nat → List (Nat × List Nat × List Nat)
  | 0, _, _ => []
  | f + 1, L, F =>
    match up.find? (fun i => eff.testBit i && !L.testBit i && subMask (pm.getD i 0) L) with
    | none => []
    | some e =>
      let F' := upMask pm (F ||| 2 ^ e) down
      let x := mkFloats ops pm eff up (L ||| 2 ^ e)
      (e, x.1, up.filter fun i => x.2.testBit i && !F'.testBit i) :: mkStages ops pm down up eff f x.2 F'

def mkPlan (P : Program) (ops : Array Oper) : Plan :=
  let n := ops.size
  let pm := predMasks ops
  let up := List.range n
  let down := up.reverse
  let ups := up.map fun i => upMask pm (pm.getD i 0) down
  let reads := ops.toList.map (tmpsOf ops)
  let eff := up.foldl (fun m j => match ops[j]? with
    | some o => if !(isFloat P o.op || isMake o.op) || (match o.dst with
        | some t => up.any fun i => (reads.getD i []).contains t && !(ups.getD i 0).testBit j
        | none => false) then m ||| 2 ^ j else m
    | none => m) 0
  let x := mkFloats ops pm eff up 0
  { first := x.1, stages := mkStages ops pm down up eff n x.2 0 }

/-! ### The run -/
structure DState where
  a : AAct
  H : Heap
  names : List (Nat × Nat)

def floatA (C : Cfg) (ops : Array Oper) (i : Nat) (s : DState) : Option DState :=
  match ops[i]? with
  | none => none
  | some o =>
    if !o.op.operands.toList.all (okOperand C.K) then none else
    if Region.wanted o (yieldedA ops s.a.tmps) then
      if isMake o.op then
        match opEval C.P s.a.eval o s.H with
        | some (.val v H') => some { a := s.a.put o.dst v, H := H', names := (i, s.H.next) :: s.names }
        | _ => none
      else if isFloat C.P o.op then
        match opEval C.P s.a.eval o s.H with
        | some (.val v H') => some { a := s.a.put o.dst v, H := H', names := s.names }
        | _ => none
      else none
    else some { s with a := s.a.put o.dst undef }

def floatsA (C : Cfg) (ops : Array Oper) : List Nat → DState → Option DState
  | [], s => some s
  | i :: r, s => match floatA C ops i s with
    | some s' => floatsA C ops r s'
    | none => none

def rename (b : Nat) : Value → Option Value
  | .pointer (some _) => some (.pointer (some ⟨b, 0, none⟩))
  | .slice (some _) n c => some (.slice (some ⟨b, 0, none⟩) n c)
  | _ => none

def sameO : Option AObj → Option AObj → Bool
  | some (.cells vs e s), some (.cells vs' e' s') => sameVs vs vs' && e == e' && s == s'
  | _, _ => false

def recorded (a : AAct) (dst : Option Tmp) (v : Value) : Bool :=
  match dst with
  | some d => sameV v (a.tmps.getD d undef)
  | none => true

/-- would it come to the same if it ran now? -/
def again (C : Cfg) (ops : Array Oper) (s : DState) (i : Nat) : Bool :=
  match ops[i]? with
  | none => false
  | some o =>
    o.op.operands.toList.all (okOperand C.K) &&
    (if Region.wanted o (yieldedA ops s.a.tmps) then
      if isMake o.op then
        match opEval C.P s.a.eval o s.H with
        | some (.val v H') => match s.names.lookup i with
          | some b => match rename b v with
            | some u => sameO (s.H.get b) (H'.get s.H.next) && recorded s.a o.dst u
            | none => false
          | none => false
        | _ => false
      else if isFloat C.P o.op then
        match opEval C.P s.a.eval o s.H with
        | some (.val v _) => recorded s.a o.dst v
        | _ => false
      else false
    else recorded s.a o.dst undef)

def stagesA (C : Cfg) (R : Rec) (ro : Option Nat) (ops : Array Oper) : List (Nat × List Nat × List Nat) → DState → Res (AAct × Heap)
  | [], s => some [(s.a, s.H)]
  | (e, fs, chk) :: r, s => (opA C R ro ops e s.a s.H).bind fun x =>
    match floatsA C ops fs { a := x.1, H := x.2, names := s.names } with
    | some s' => if chk.all (again C ops s') then stagesA C R ro ops r s' else none
    | none => none

def drawA (C : Cfg) (R : Rec) (ro : Option Nat) (ops : Array Oper) (a : AAct) (H : Heap) : Res (AAct × Heap) :=
  let p := mkPlan C.P ops
  if okPlan ops p && C.P.follows .mixedOrders then
    match floatsA C ops p.first { a, H, names := [] } with
    | some s => if p.first.all (again C ops s) then stagesA C R ro ops p.stages s else none
    | none => none
  else none

end Go.Abs

/-! What the operations that may run at any time do to memory: nothing, or a new block; no condition. -/
namespace Go.Abs
variable {C : Cfg} {φ : Phi} {H : Heap} {w : World}

theorem one_val {H H' : Heap} {o : Option Value} {v : Value} (h : one H o = some (.val v H')) : H' = H := by
  obtain ⟨u, _, hu⟩ := Option.map_eq_some_iff.1 h
  cases hu; rfl

theorem float_same {P : Program} {ρ : Operand → Value} {o : Oper} {v : Value} {H' : Heap} (hf : isFloat P o.op = true) (h : opEval P ρ o H = some (.val v H')) : H' = H := by
  obtain ⟨dst, op, ty, pos, after, guard⟩ := o
  simp only at hf
  unfold opEval at h
  simp only at h
  cases op <;> (try simp only [isFloat] at hf) <;> (try (cases hf; done)) <;> (try simp only at h)
  case move => cases h; rfl
  case assign => cases h; rfl
  case pick => split at h <;> cases h; rfl
  case build => exact one_val h
  case load => split at h; exact one_val h; cases h
  case nilCheck => split at h <;> cases h <;> rfl
  case binOp => exact one_val h
  case unOp => exact one_val h
  case convert s d x =>
    obtain ⟨⟨u, H1⟩, h1, h2⟩ := Option.map_eq_some_iff.1 h
    cases h2
    unfold convA at h1
    split at h1
    · cases h1; rfl
    · cases h1; rfl
    · rename_i e sx hs hd hx
      rw [hd] at hf
      cases hf
    · split at h1
      · split at h1
        · cases h1; rfl
        · split at h1
          · obtain ⟨_, _, h3⟩ := Option.map_eq_some_iff.1 h1
            cases h3; rfl
          · cases h1
      · cases h1
    · cases h1
  case makeInterface => split at h <;> cases h; rfl
  case makeFunc fn _ _ => cases fn <;> simp only at h <;> cases h; rfl
  case slice => exact one_val h
  case fieldAddr => exact one_val h
  case field => exact one_val h
  case indexAddr => exact one_val h
  case index => exact one_val h
  case lookup => exact one_val h
  case extract => split at h; exact one_val h; cases h
  case call c =>
    obtain ⟨callee, args, argTypes⟩ := c
    cases callee with
    | value f => cases hf
    | invoke r m => cases hf
    | builtin b =>
      cases b <;> (try simp only at hf) <;> (try (cases hf; done)) <;> (try simp only at h)
      case len => split at h; exact one_val h; cases h
      case cap =>
        split at h
        · split at h
          · split at h <;> cases h; rfl
          · cases h
        · cases h
      case min => split at h; exact one_val h; cases h
      case max => split at h; exact one_val h; cases h

/-- a new block, whenever it is made -/
structure NewOk (C : Cfg) (φ : Phi) (H : Heap) (w : World) (s : Sem Value) (v : Value) (obj : AObj) : Prop where
  run : ∃ (o' : Obj) (v' : Value) (w' : World), s.run C.P w = .ok v' w' ∧ w'.heap = w.heap.push o' ∧ w'.os = w.os ∧ w'.output = w.output ∧ w'.tape = w.tape ∧ OR C.P φ 0 0 obj o' ∧
    (∀ φ1 b u, φ1 b = some (.live w.heap.size 0 0) → rename b v = some u → VR φ1 u v')

theorem make_shape {P : Program} {ρ : Operand → Value} {o : Oper} {v : Value} {H' : Heap} (hf : isMake o.op = true) (h : opEval P ρ o H = some (.val v H')) : ∃ vs e s, H' = H.new (.cells vs e s) := by
  obtain ⟨dst, op, ty, pos, after, guard⟩ := o
  simp only at hf
  unfold opEval at h
  simp only at h
  cases op <;> (try simp only [isMake] at hf) <;> (try (cases hf; done)) <;> (try simp only at h)
  case alloc => split at h <;> cases h; exact ⟨_, _, _, rfl⟩
  case box => cases h; exact ⟨_, _, _, rfl⟩
  case buildSlice =>
    split at h
    · split at h
      · split at h
        · cases h
        · split at h
          · cases h; exact ⟨_, _, _, rfl⟩
          · cases h
      · cases h
    · cases h

theorem ptr_late {φ1 : Phi} {b c : Nat} (h : φ1 b = some (.live c 0 0)) : VR φ1 (.pointer (some ⟨b, 0, none⟩)) (.pointer (some ⟨c, 0, none⟩)) := .ptr (a := ⟨b, 0, none⟩) h rfl

theorem cells_or {P : Program} {vs vs' : List Value} {arr : Array Value} {e : TypeId} (h : VRs φ vs vs') (ha : arr.toList = vs') : OR P φ 0 0 (.cells vs e false) (.cells arr e (0, 0)) :=
  ⟨arr, (0, 0), [], vs', [], rfl, by simp [ha], rfl, h, by simp, rfl⟩

theorem make_ok (hw : Rel C φ H w) {ρ ρ' : Operand → Value} {o : Oper} {v : Value} {H' : Heap} (hf : isMake o.op = true) (hρ : ∀ x ∈ o.op.operands.toList, VR φ (ρ x) (ρ' x)) (h : opEval C.P ρ o H = some (.val v H')) :
    ∃ (obj : AObj) (o' : Obj) (v' : Value) (w' : World), H' = H.new obj ∧ (execOp ρ' o).run C.P w = .ok (.value v') w' ∧ w'.heap = w.heap.push o' ∧ w'.os = w.os ∧ w'.output = w.output ∧ w'.tape = w.tape ∧ OR C.P φ 0 0 obj o' ∧
    (∀ φ1 b u, φ1 b = some (.live w.heap.size 0 0) → rename b v = some u → VR φ1 u v') := by
  obtain ⟨dst, op, ty, pos, after, guard⟩ := o
  simp only at hf hρ
  unfold opEval at h
  simp only at h
  cases op <;> (try simp only [isMake] at hf) <;> (try (cases hf; done)) <;> (try simp only [Op.operands] at hρ) <;> (try simp only [execOp]) <;> (try simp only at h)
  case alloc e =>
    split at h
    · rename_i z hz
      cases h
      obtain ⟨h1, h2⟩ := run_zero (w := w) hz
      refine ⟨_, .cells z.cells e (0, 0), .pointer (some ⟨w.heap.size, 0, none⟩), { w with heap := w.heap.push (.cells z.cells e) }, rfl, by simp [Instr.alloc, newVar, newRow, h1], rfl, rfl, rfl, rfl, cells_or (VR.const h2).cells rfl, ?_⟩
      intro φ1 b u hb hu
      cases hu
      exact ptr_late hb
    · cases h
  case box e x =>
    cases h
    refine ⟨_, .cells (ρ' x).cells e (0, 0), .pointer (some ⟨w.heap.size, 0, none⟩), { w with heap := w.heap.push (.cells (ρ' x).cells e) }, rfl, by simp [Instr.box, newVar, newRow], rfl, rfl, rfl, rfl, cells_or (hρ x (by simp)).cells rfl, ?_⟩
    intro φ1 b u hb hu
    cases hu
    exact ptr_late hb
  case buildSlice t len parts =>
    split at h
    · rename_i e hu
      split at h
      · rename_i size z hs hz
        split at h
        · cases h
        · rename_i hb
          split at h
          · rename_i cells hfl
            cases h
            have hp : PRs φ (parts.toList.map fun (i, x) => (i, ρ x)) (parts.toList.map fun (i, x) => (i, ρ' x)) := PRs.map fun x hx => hρ x.2 (by simp; exact ⟨x.1, by simpa using hx⟩)
            have e0 : (parts.toList.map fun (i, x) => (i, ρ' x)).toArray = parts.map fun (i, x) => (i, ρ' x) := by apply Array.ext'; simp
            rw [← e0]
            simp only [not_or, Nat.not_lt, Decidable.not_not] at hb
            have hb1 : ¬ (len * size > 2 ^ 24) := by have : (2 : Nat) ^ 24 = 16777216 := rfl; omega
            generalize (parts.toList.map fun (i, x) => (i, ρ' x)) = parts' at hp
            generalize (parts.toList.map fun (i, x) => (i, ρ x)) = partsA at hp hfl
            have key : ∀ (zs : Array Value), ((Array.range (len * size)).map (zs[· % zs.size]!)).toList = zeros z len → (zs = #[] ∧ len * size = 0 ∨ zs = z.cells ∧ len * size ≠ 0) →
                ∃ l', VRs φ cells l'.toList ∧ (Instr.buildSlice t len parts'.toArray).run C.P w = .ok (.slice (some ⟨w.heap.size, 0, none⟩) len len) { w with heap := w.heap.push (.cells l' e) } := fun zs h2 hzs => by
              obtain ⟨l', h3, h4⟩ := fill_ok _ _ _ _ ((Array.range (len * size)).map (zs[· % zs.size]!)) _ hp (by rw [h2]; exact zeros_rel (run_zero (w := w) hz).2 _) hfl
              refine ⟨l', h4, ?_⟩
              rcases hzs with ⟨rfl, h0⟩ | ⟨rfl, h0⟩
              · have hz0 : ¬ ((0 : Nat) > 2 ^ 24) := by decide
                simp only [Instr.buildSlice, Sem.run_bind, run_und hu, Result.andThen_ok, run_sizeOf hs, hz0, if_false, h0, if_true, pure_bind] at h3 ⊢
                simp only [h3, newRow, Sem.run_bind, run_newObj, Result.andThen_ok, Sem.run_pure]
              · simp only [Instr.buildSlice, Sem.run_bind, run_und hu, Result.andThen_ok, run_sizeOf hs, hb1, if_false, h0, (run_zero (w := w) hz).1, pure_bind, bind_assoc]
                simp only [h3, newRow, Sem.run_bind, run_newObj, Result.andThen_ok, Sem.run_pure]
            have key2 : ∃ l', VRs φ cells l'.toList ∧ (Instr.buildSlice t len parts'.toArray).run C.P w = .ok (.slice (some ⟨w.heap.size, 0, none⟩) len len) { w with heap := w.heap.push (.cells l' e) } := by
              by_cases h0 : len * size = 0
              · exact key #[] (zeroRow0 hb.2.1 h0) (.inl ⟨rfl, h0⟩)
              · exact key z.cells (zeroRow z _ _ (by rw [hb.2.1])) (.inr ⟨rfl, h0⟩)
            obtain ⟨l', k1, k2⟩ := key2
            refine ⟨_, .cells l' e (0, 0), .slice (some ⟨w.heap.size, 0, none⟩) len len, { w with heap := w.heap.push (.cells l' e) }, rfl, by simp [k2], rfl, rfl, rfl, rfl, cells_or k1 rfl, ?_⟩
            intro φ1 b u hb2 hu2
            cases hu2
            have hv := VR.slice (φ := φ1) (a := ⟨b, 0, none⟩) (n := len) (cap := len) hb2 rfl
            rw [conc_exact (by omega)] at hv
            exact hv
          · cases h
      · cases h
    · cases h

end Go.Abs

/-! A region that draws its order: whatever order the model takes, it comes to what the abstract machine's one order came to; no condition. -/
namespace Go.Abs
variable {C : Cfg} {φ : Phi} {H : Heap} {w : World}

/-! ### Masks -/
theorem subMask_ok {a b : Nat} (h : subMask a b = true) {i : Nat} (hi : a.testBit i = true) : b.testBit i = true := by
  have e : a &&& b = a := by simpa [subMask] using h
  rw [← e, Nat.testBit_and] at hi
  simp only [Bool.and_eq_true] at hi
  exact hi.2

theorem subMask_of {a b : Nat} (h : ∀ i, a.testBit i = true → b.testBit i = true) : subMask a b = true := by
  have : a &&& b = a := by
    apply Nat.eq_of_testBit_eq
    intro i
    rw [Nat.testBit_and]
    cases ha : a.testBit i with
    | false => rfl
    | true => rw [h i ha]; rfl
  simp [subMask, this]

theorem orBit {L i j : Nat} : (L ||| 2 ^ i).testBit j = true ↔ L.testBit j = true ∨ j = i := by
  rw [Nat.testBit_or, Nat.testBit_two_pow, Bool.or_eq_true, decide_eq_true_eq]
  exact ⟨fun h => h.imp id Eq.symm, fun h => h.imp id Eq.symm⟩

theorem foldMask : ∀ (l : List Edge) (m j : Nat), (l.foldl (fun m e => m ||| 2 ^ e.on) m).testBit j = true ↔ m.testBit j = true ∨ ∃ e ∈ l, e.on = j
  | [], m, j => by simp
  | e :: l, m, j => by
    simp only [List.foldl_cons]
    rw [foldMask l, orBit]
    constructor
    · rintro ((h | h) | ⟨e', h1, h2⟩)
      · exact .inl h
      · exact .inr ⟨e, List.mem_cons_self, h.symm⟩
      · exact .inr ⟨e', List.mem_cons_of_mem _ h1, h2⟩
    · rintro (h | ⟨e', h1, h2⟩)
      · exact .inl (.inl h)
      · rcases List.mem_cons.1 h1 with rfl | h1
        · exact .inl (.inr h2.symm)
        · exact .inr ⟨e', h1, h2⟩

theorem predMask_iff {o : Oper} {j : Nat} : (predMask o).testBit j = true ↔ ∃ e ∈ o.after, Region.binds .any e = true ∧ e.on = j := by
  unfold predMask
  rw [foldMask]
  simp only [Nat.zero_testBit, Bool.false_eq_true, false_or, List.mem_filter]
  constructor
  · rintro ⟨e, ⟨h1, h2⟩, h3⟩; exact ⟨e, by simpa using h1, h2, h3⟩
  · rintro ⟨e, h1, h2, h3⟩; exact ⟨e, ⟨by simpa using h1, h2⟩, h3⟩

theorem pm_get {ops : Array Oper} {i : Nat} {o : Oper} (h : ops[i]? = some o) : (predMasks ops).getD i 0 = predMask o := by
  simp [predMasks, List.getD_eq_getElem?_getD, h]

theorem upMask_ok {pm : List Nat} {S : Nat → Prop} (hS : ∀ i, S i → ∀ j, (pm.getD i 0).testBit j = true → S j) : ∀ (l : List Nat) (m : Nat), (∀ i, m.testBit i = true → S i) → ∀ i, (upMask pm m l).testBit i = true → S i
  | [], m, hm, i, h => hm i h
  | k :: l, m, hm, i, h => by
    unfold upMask at h
    refine upMask_ok hS l _ (fun j hj => ?_) i h
    split at hj
    · rename_i hk
      rw [Nat.testBit_or, Bool.or_eq_true] at hj
      exact hj.elim (hm j) (hS k (hm k hk) j)
    · exact hm j hj

/-! ### What has been listed -/
def lst (listed : Array Bool) (i : Nat) : Prop := listed.getD i false = true

theorem getD_at {x : Array Bool} {i : Nat} (h : i < x.size) (d : Bool) : x.getD i d = x[i] := by simp [Array.getD, h]

theorem lst_set {listed : Array Bool} {i j : Nat} (hi : i < listed.size) : lst (listed.setIfInBounds i true) j ↔ lst listed j ∨ j = i := by
  unfold lst
  by_cases hj : j = i
  · subst hj
    simp [Array.getD, hi]
  · rw [Array.getD_eq_getD_getElem?, Array.getD_eq_getD_getElem?, Array.getElem?_setIfInBounds_ne (fun e => hj e.symm)]
    simp [hj]

theorem unlisted {listed : Array Bool} {i : Nat} (h : listed.getD i true = false) : i < listed.size ∧ ¬ lst listed i := by
  rcases Nat.lt_or_ge i listed.size with h1 | h1
  · refine ⟨h1, fun h2 => ?_⟩
    unfold lst at h2
    rw [getD_at h1] at h h2
    rw [h] at h2; cases h2
  · rw [Array.getD_eq_getD_getElem?, Array.getElem?_eq_none h1] at h; cases h

theorem not_listed {listed : Array Bool} {i : Nat} (hi : i < listed.size) (h : ¬ lst listed i) : listed.getD i true = false := by
  unfold lst at h
  rw [getD_at hi] at h ⊢
  simpa using h

def left (listed : Array Bool) : Nat := listed.toList.count false

theorem left_set {listed : Array Bool} {i : Nat} (h : listed.getD i true = false) : left (listed.setIfInBounds i true) + 1 = left listed := by
  obtain ⟨h1, _⟩ := unlisted h
  rw [getD_at h1] at h
  unfold left
  rw [Array.toList_setIfInBounds, List.count_set (by simpa using h1)]
  have e : listed.toList[i]'(by simpa using h1) = false := by simpa using h
  have hpos : 0 < listed.toList.count false := List.count_pos_iff.2 (by rw [← e]; exact List.getElem_mem _)
  rw [if_pos (by rw [e]; rfl), if_neg (by decide)]
  omega

theorem left_zero {listed : Array Bool} (h : left listed = 0) {i : Nat} (hi : i < listed.size) : lst listed i := by
  unfold left at h
  rw [List.count_eq_zero] at h
  unfold lst
  rw [getD_at hi]
  cases hx : listed[i] with
  | true => rfl
  | false => exact absurd (by rw [← hx]; simp) h

/-! ### Late blocks -/
theorem Rel.late (R : Rel C φ H w) {b : Nat} {obj : AObj} {o' : Obj} {w' : World} (hb : φ b = none) (hlt : b < H.next) (hg : H.get b = some obj) (hh : w'.heap = w.heap.push o') (ho : OR C.P φ 0 0 obj o') :
    Rel C (φ.put b (.live w.heap.size 0 0)) H w' := by
  have hle := φ.le_put (.live w.heap.size 0 0) hb
  have hget : ∀ c, c < w.heap.size → w'.heap[c]? = w.heap[c]? := fun c hc => by
    rw [hh]; simp [Array.getElem?_push]; omega
  refine ⟨fun b1 c k sh o1 h1 hg1 => ?_, fun b1 h1 => ?_, fun b1 b2 c k1 sh1 k2 sh2 h1 h2 => ?_, fun b1 c k1 sh1 h1 => ?_, R.wf, fun b1 hb1 => ?_, fun g hg' => ?_, R.first⟩
  · by_cases e : b1 = b
    · subst e
      rw [Phi.put_same] at h1; cases h1
      rw [hg] at hg1; cases hg1
      exact ⟨o', by rw [hh]; simp, ho.mono hle⟩
    · rw [Phi.put_other _ _ e] at h1
      obtain ⟨p', h3, h4⟩ := R.live b1 c k sh o1 h1 hg1
      exact ⟨p', by rw [hget c (R.low _ _ _ _ h1)]; exact h3, h4.mono hle⟩
  · have e : b1 ≠ b := fun e => by subst e; rw [Phi.put_same] at h1; cases h1
    rw [Phi.put_other _ _ e] at h1
    exact R.dead b1 h1
  · by_cases e1 : b1 = b <;> by_cases e2 : b2 = b
    · rw [e1, e2]
    · subst e1; rw [Phi.put_same] at h1; cases h1
      rw [Phi.put_other _ _ e2] at h2
      have := R.low _ _ _ _ h2; omega
    · subst e2; rw [Phi.put_same] at h2; cases h2
      rw [Phi.put_other _ _ e1] at h1
      have := R.low _ _ _ _ h1; omega
    · rw [Phi.put_other _ _ e1] at h1; rw [Phi.put_other _ _ e2] at h2
      exact R.inj _ _ _ _ _ _ _ h1 h2
  · rw [hh]
    by_cases e : b1 = b
    · subst e; rw [Phi.put_same] at h1; cases h1; simp
    · rw [Phi.put_other _ _ e] at h1; have := R.low _ _ _ _ h1; simp; omega
  · rw [Phi.put_other _ _ (by omega)]; exact R.fresh b1 hb1
  · have h1 := R.glob g hg'
    have e : g ≠ b := fun e => by subst e; rw [hb] at h1; cases h1
    rw [Phi.put_other _ _ e]; exact h1

theorem Ext.late {φ0 : Phi} {H0 : Heap} {w0 : World} (E : Ext C φ0 H0 w0 φ H w) {b c : Nat} {o' : Obj} {w' : World} (hb : H0.next ≤ b) (hf : ∀ b, H0.next ≤ b → φ0 b = none) (hh : w'.heap = w.heap.push o') (hc : c = w.heap.size)
    (hos : w'.os = w.os) (hout : w'.output = w.output) (htape : w'.tape = w.tape) : Ext C φ0 H0 w0 (φ.put b (.live c 0 0)) H w' where
  mono := fun b1 x hx => by
    have e : b1 ≠ b := fun e => by subst e; rw [hf b1 hb] at hx; cases hx
    rw [Phi.put_other _ _ e]; exact E.mono b1 x hx
  old := fun b1 h1 h2 => by rw [Phi.put_other _ _ (by omega)]; exact E.old b1 h1 h2
  abs := E.abs
  le := E.le
  size := by rw [hh]; simp; have := E.size; omega
  frame := fun c1 hc1 hn => by
    have := E.size
    rw [hh, ← E.frame c1 hc1 hn]; simp [Array.getElem?_push]; omega
  orig := fun b1 c1 k sh hb1 h1 => by
    by_cases e : b1 = b
    · subst e; rw [Phi.put_same] at h1; cases h1; subst hc; exact .inl E.size
    · rw [Phi.put_other _ _ e] at h1; exact E.orig b1 c1 k sh hb1 h1
  os := hos.trans E.os
  output := hout.trans E.output
  tape := htape.trans E.tape

/-- A block that only the abstract machine has. -/
theorem Rel.ghost (R : Rel C φ H w) (o : AObj) : Rel C φ (H.new o) w := by
  have hf := R.free
  refine ⟨fun b c k sh o1 h1 hg => ?_, fun b h1 => ?_, R.inj, R.low, fun b hb => ?_, fun b hb => ?_, R.glob, Nat.le_succ_of_le R.first⟩
  · have e : b ≠ H.next := fun e => by subst e; rw [hf] at h1; cases h1
    simp [e] at hg
    exact R.live b c k sh o1 h1 hg
  · have e : b ≠ H.next := fun e => by subst e; rw [hf] at h1; cases h1
    simp [e, R.dead b h1]
  · simp at hb
    have e : b ≠ H.next := by omega
    simp [e, R.wf b (by omega)]
  · simp at hb; exact R.fresh b (by omega)

theorem Ext.ghost {φ0 : Phi} {H0 : Heap} {w0 : World} (E : Ext C φ0 H0 w0 φ H w) (R : Rel C φ H w) (o : AObj) : Ext C φ0 H0 w0 φ (H.new o) w where
  mono := E.mono
  old := E.old
  abs := fun b hb h1 => by
    have := E.le
    have e : b ≠ H.next := by omega
    simp [e, E.abs b hb h1]
  le := Nat.le_succ_of_le E.le
  size := E.size
  frame := E.frame
  orig := fun b c k sh hb h1 => by
    have e : b ≠ H.next := fun e => by subst e; rw [R.free] at h1; cases h1
    simp [e] at hb
    exact E.orig b c k sh hb h1
  os := E.os
  output := E.output
  tape := E.tape

/-! ### Temporaries -/
theorem ActR.late {X X' : Skips} {a : AAct} {a' : Act} {dst : Option Tmp} {v' : Value} (ha : ActR φ X a a') (hX : ∀ t, X t → X' t ∨ dst = some t) (hv : ∀ d, dst = some d → VR φ (a.tmps.getD d undef) v') : ActR φ X' a (a'.put dst v') := by
  cases dst with
  | none => exact ⟨ha.len, fun t ht => ha.tmps t fun h => (hX t h).elim ht (fun e => by cases e), ha.defers⟩
  | some d =>
    refine ⟨by simp only [Act.put, Array.size_setIfInBounds]; exact ha.len, fun t ht => ?_, ha.defers⟩
    have hl := ha.len
    simp only [Act.put]
    rw [array_getD, Array.toList_setIfInBounds, List.getD_eq_getElem?_getD (l := (a'.tmps.toList.set d v')), List.getElem?_set]
    by_cases e : d = t
    · subst e
      rw [if_pos rfl]
      by_cases hd : d < a'.tmps.toList.length
      · rw [if_pos hd]; exact hv d rfl
      · rw [if_neg hd]
        have : a.tmps.getD d undef = undef := by rw [List.getD_eq_getElem?_getD, List.getElem?_eq_none (by simp at hd; omega)]; rfl
        rw [this]; exact undef_rel
    · rw [if_neg e]
      have := ha.tmps t fun h => (hX t h).elim ht (fun e' => by cases e'; exact e rfl)
      rw [array_getD, List.getD_eq_getElem?_getD (l := a'.tmps.toList)] at this
      exact this

theorem ActR.ghost {X X' : Skips} {a : AAct} {a' : Act} {dst : Option Tmp} {v : Value} (ha : ActR φ X a a') (hX : ∀ t, X t → X' t) (hd : ∀ d, dst = some d → X' d) : ActR φ X' (a.put dst v) a' := by
  cases dst with
  | none => exact ⟨ha.len, fun t ht => ha.tmps t fun h => ht (hX t h), ha.defers⟩
  | some d =>
    refine ⟨by simp only [AAct.put, List.length_set]; exact ha.len, fun t ht => ?_, ha.defers⟩
    have e : d ≠ t := fun e => ht (e ▸ hd d rfl)
    have := ha.tmps t fun h => ht (hX t h)
    simp only [AAct.put, List.getD_eq_getElem?_getD, List.getElem?_set, if_neg e] at this ⊢
    exact this

theorem ActR.weaken {X X' : Skips} {a : AAct} {a' : Act} (ha : ActR φ X a a') (hX : ∀ t, X t → X' t) : ActR φ X' a a' := ⟨ha.len, fun t ht => ha.tmps t fun h => ht (hX t h), ha.defers⟩

end Go.Abs

/-! A region that draws its order: the run; no condition. -/
namespace Go.Abs
variable {C : Cfg} {φ : Phi} {H : Heap} {w : World}

/-- what waits in the model that the abstract machine has run already -/
def waits (ops : Array Oper) (L : Nat) (listed : Array Bool) : Skips := fun t => ∃ j o, L.testBit j = true ∧ ¬ lst listed j ∧ ops[j]? = some o ∧ o.dst = some t

structure Names (φ : Phi) (H0 : Heap) (listed : Array Bool) (s : DState) : Prop where
  at_ : ∀ i b, s.names.lookup i = some b → H0.next ≤ b ∧ b < s.H.next ∧ (¬ lst listed i → φ b = none)
  inj : ∀ i j b, s.names.lookup i = some b → s.names.lookup j = some b → i = j

structure Ghost (C : Cfg) (φ0 : Phi) (H0 : Heap) (w0 : World) (X : Skips) (listed : Array Bool) (φ : Phi) (s : DState) (a' : Act) (w : World) : Prop where
  act : ActR φ X s.a a'
  rel : Rel C φ s.H w
  ext : Ext C φ0 H0 w0 φ s.H w
  names : Names φ H0 listed s

theorem lookup_cons {i b k : Nat} {N : List (Nat × Nat)} : ((i, b) :: N).lookup k = if k = i then some b else N.lookup k := by
  by_cases h : k = i
  · subst h; simp
  · have : (k == i) = false := by simpa using h
    simp [List.lookup_cons, this, h]

theorem Names.push {H0 : Heap} {listed : Array Bool} {s : DState} (h : Names φ H0 listed s) (hf : ∀ b, s.H.next ≤ b → φ b = none) (hle : H0.next ≤ s.H.next) (i : Nat) (a : AAct) (o : AObj) :
    Names φ H0 listed { a, H := s.H.new o, names := (i, s.H.next) :: s.names } := by
  refine ⟨fun k b hk => ?_, fun k j b hk hj => ?_⟩
  · rw [lookup_cons] at hk
    split at hk
    · cases hk; exact ⟨hle, Nat.lt_succ_self _, fun _ => hf _ (Nat.le_refl _)⟩
    · obtain ⟨h1, h2, h3⟩ := h.at_ k b hk
      exact ⟨h1, Nat.lt_succ_of_lt h2, h3⟩
  · rw [lookup_cons] at hk hj
    split at hk <;> split at hj
    · rename_i e1 e2; rw [e1, e2]
    · cases hk
      have := (h.at_ j _ hj).2.1
      omega
    · cases hj
      have := (h.at_ k _ hk).2.1
      omega
    · exact h.inj k j b hk hj

theorem float_ghost {φ0 : Phi} {H0 : Heap} {w0 : World} {X : Skips} {listed : Array Bool} {ops : Array Oper} {i : Nat} {s s' : DState} {a' : Act} (g : Ghost C φ0 H0 w0 X listed φ s a' w) (h : floatA C ops i s = some s') :
    ∃ o, ops[i]? = some o ∧ Ghost C φ0 H0 w0 (fun t => X t ∨ o.dst = some t) listed φ s' a' w := by
  unfold floatA at h
  split at h
  · cases h
  · rename_i o ho
    refine ⟨o, ho, ?_⟩
    split at h
    · cases h
    · split at h
      · split at h
        · rename_i hm
          split at h
          · rename_i v H' hev
            cases h
            obtain ⟨vs, e, st, rfl⟩ := make_shape hm hev
            exact ⟨g.act.ghost (fun t ht => .inl ht) (fun d hd => .inr hd), g.rel.ghost _, g.ext.ghost g.rel _, g.names.push g.rel.fresh g.ext.le _ _ _⟩
          · cases h
        · split at h
          · rename_i hf
            split at h
            · rename_i v H' hev
              cases h
              have := float_same hf hev
              subst this
              exact ⟨g.act.ghost (fun t ht => .inl ht) (fun d hd => .inr hd), g.rel, g.ext, ⟨g.names.at_, g.names.inj⟩⟩
            · cases h
          · cases h
      · cases h
        exact ⟨g.act.ghost (fun t ht => .inl ht) (fun d hd => .inr hd), g.rel, g.ext, ⟨g.names.at_, g.names.inj⟩⟩

theorem floats_ghost {φ0 : Phi} {H0 : Heap} {w0 : World} {listed : Array Bool} {ops : Array Oper} {a' : Act} : ∀ (fs : List Nat) {X : Skips} {s s' : DState}, Ghost C φ0 H0 w0 X listed φ s a' w → floatsA C ops fs s = some s' →
    Ghost C φ0 H0 w0 (fun t => X t ∨ ∃ i ∈ fs, ∃ o, ops[i]? = some o ∧ o.dst = some t) listed φ s' a' w
  | [], X, s, s', g, h => by
    cases h
    exact ⟨g.act.weaken fun t ht => .inl ht, g.rel, g.ext, g.names⟩
  | i :: r, X, s, s', g, h => by
    unfold floatsA at h
    split at h
    · rename_i s1 h1
      obtain ⟨o, ho, g1⟩ := float_ghost g h1
      have g2 := floats_ghost r g1 h
      refine ⟨g2.act.weaken ?_, g2.rel, g2.ext, g2.names⟩
      rintro t ((ht | ht) | ⟨j, hj, o', h3, h4⟩)
      · exact .inl ht
      · exact .inr ⟨i, List.mem_cons_self, o, ho, ht⟩
      · exact .inr ⟨j, List.mem_cons_of_mem _ hj, o', h3, h4⟩
    · cases h

theorem okFloats_ok {n : Nat} {pm eff : List Nat} : ∀ (fs : List Nat) {L L' : Nat}, okFloats n pm eff fs L = some L' →
    (∀ i, L'.testBit i = true ↔ L.testBit i = true ∨ i ∈ fs) ∧ (∀ i ∈ fs, i < n ∧ L.testBit i = false ∧ i ∉ eff)
  | [], L, L', h => by cases h; exact ⟨fun i => by simp, fun i hi => by cases hi⟩
  | k :: r, L, L', h => by
    unfold okFloats at h
    split at h
    · rename_i hc
      simp only [Bool.and_eq_true, Bool.not_eq_true', decide_eq_true_eq] at hc
      obtain ⟨⟨⟨h1, h2⟩, h3⟩, h4⟩ := hc
      obtain ⟨k1, k2⟩ := okFloats_ok r h
      refine ⟨fun i => ?_, fun i hi => ?_⟩
      · rw [k1, orBit, List.mem_cons]
        constructor
        · rintro ((h | h) | h)
          · exact .inl h
          · exact .inr (.inl h)
          · exact .inr (.inr h)
        · rintro (h | h | h)
          · exact .inl (.inl h)
          · exact .inl (.inr h)
          · exact .inr h
      · rcases List.mem_cons.1 hi with rfl | hi
        · exact ⟨h2, h1, by simpa using h4⟩
        · obtain ⟨q1, q2, q3⟩ := k2 i hi
          refine ⟨q1, ?_, q3⟩
          cases hb : L.testBit i with
          | false => rfl
          | true => rw [orBit.2 (.inl hb)] at q2; cases q2
    · cases h

structure Inv (C : Cfg) (ops : Array Oper) (eff : List Nat) (φ0 : Phi) (H0 : Heap) (w0 : World) (L F : Nat) (s : DState) (listed : Array Bool) (a' : Act) (w : World) (φ : Phi) : Prop where
  size : listed.size = ops.size
  down : ∀ i, lst listed i → ∀ j, ((predMasks ops).getD i 0).testBit j = true → lst listed j
  sub : ∀ i, lst listed i → L.testBit i = true
  forced : ∀ i, F.testBit i = true → lst listed i
  effs : ∀ j, j ∈ eff → L.testBit j = true → lst listed j
  ghost : Ghost C φ0 H0 w0 (waits ops L listed) listed φ s a' w
  again : ∀ i, L.testBit i = true → F.testBit i = false → again C ops s i = true

/-- what the plan's check says of the operations -/
structure PlanOk (ops : Array Oper) (eff : List Nat) : Prop where
  back : ∀ i, i < ops.size → (predMasks ops).getD i 0 < 2 ^ i
  reads : ∀ i o, ops[i]? = some o → ∀ t ∈ tmpsOf ops o, ∀ j, j < ops.size → (ops[j]?).bind (·.dst) = some t →
    (upMask (predMasks ops) ((predMasks ops).getD i 0) (List.range ops.size).reverse).testBit j = true ∨ j ∈ eff

theorem ready_inv {ops : Array Oper} {listed : Array Bool} {i : Nat} (h : i ∈ Region.ready .any ops listed) :
    listed.getD i true = false ∧ ∃ o, ops[i]? = some o ∧ ∀ j, ((predMasks ops).getD i 0).testBit j = true → lst listed j := by
  obtain ⟨h1, o, h2, h3⟩ := mem_ready.1 h
  refine ⟨h1, o, h2, fun j hj => ?_⟩
  rw [pm_get h2, predMask_iff] at hj
  obtain ⟨e, he, hb, rfl⟩ := hj
  exact h3 e he hb

theorem Inv.seen {ops : Array Oper} {eff : List Nat} {φ0 : Phi} {H0 : Heap} {w0 : World} {L F : Nat} {s : DState} {listed : Array Bool} {a' : Act} (I : Inv C ops eff φ0 H0 w0 L F s listed a' w φ) (hp : PlanOk ops eff) {i : Nat} {o : Oper}
    (ho : ops[i]? = some o) (hpre : ∀ j, ((predMasks ops).getD i 0).testBit j = true → lst listed j) : Seen (waits ops L listed) ops o := by
  have key : ∀ t, t ∈ tmpsOf ops o → ¬ waits ops L listed t := by
    rintro t ht ⟨j, o', h1, h2, h3, h4⟩
    have hj : j < ops.size := (Array.getElem?_eq_some_iff.1 h3).1
    rcases hp.reads i o ho t ht j hj (by rw [h3]; exact h4) with h5 | h5
    · exact h2 (upMask_ok I.down _ _ hpre j h5)
    · exact h2 (I.effs j h5 h1)
  refine ⟨fun t ht => key t ?_, fun j b d hg hd => key d ?_⟩
  · unfold tmpsOf
    refine List.mem_append_left _ (List.mem_filterMap.2 ⟨.tmp t, ht, rfl⟩)
  · unfold tmpsOf
    refine List.mem_append_right _ ?_
    rw [hg]
    simp [hd]

theorem recorded_ok {a : AAct} {dst : Option Tmp} {v : Value} (h : recorded a dst v = true) : ∀ d, dst = some d → a.tmps.getD d undef = v := by
  intro d hd
  subst hd
  exact (sameV_eq _ _ h).symm

/-- one that waits runs -/
theorem Inv.float {ops : Array Oper} {eff : List Nat} {φ0 : Phi} {H0 : Heap} {w0 : World} {L F : Nat} {s : DState} {listed : Array Bool} {a' : Act} (hK : ∀ g ∈ C.K, g < G0 C.P) (hf0 : ∀ b, H0.next ≤ b → φ0 b = none)
    (I : Inv C ops eff φ0 H0 w0 L F s listed a' w φ) (hp : PlanOk ops eff) {i : Nat}
    (hi : i ∈ Region.ready .any ops listed) (hL : L.testBit i = true) {ro' : Option Nat} {Q : Exit → Act → World → Prop} {K : Act → World → Prop}
    (hk : ∀ a'' w'' φ'', φ.le φ'' → Inv C ops eff φ0 H0 w0 L F s (listed.setIfInBounds i true) a'' w'' φ'' → K a'' w'') : wpOpIn (fenceA ro') 0 C.P ops Q i K a' w := by
  obtain ⟨h1, o, ho, hpre⟩ := ready_inv hi
  obtain ⟨hsz, hnl⟩ := unlisted h1
  have hF : F.testBit i = false := by
    cases hb : F.testBit i with
    | false => rfl
    | true => exact absurd (I.forced i hb) hnl
  have hag := I.again i hL hF
  have hs := I.seen hp ho hpre
  have hX : ∀ t, waits ops L listed t → waits ops L (listed.setIfInBounds i true) t ∨ o.dst = some t := by
    rintro t ⟨j, o', q1, q2, q3, q4⟩
    by_cases e : j = i
    · subst e; rw [ho] at q3; cases q3; exact .inr q4
    · exact .inl ⟨j, o', q1, fun h => ((lst_set hsz).1 h).elim q2 e, q3, q4⟩
  -- what is left of the invariant
  have fin : ∀ {a'' : Act} {w'' : World} {φ'' : Phi}, ActR φ'' (waits ops L (listed.setIfInBounds i true)) s.a a'' → Rel C φ'' s.H w'' → Ext C φ0 H0 w0 φ'' s.H w'' → Names φ'' H0 (listed.setIfInBounds i true) s →
      Inv C ops eff φ0 H0 w0 L F s (listed.setIfInBounds i true) a'' w'' φ'' := fun q1 q2 q3 q4 => by
    refine ⟨by rw [Array.size_setIfInBounds]; exact I.size, fun k hk j hj => ?_, fun k hk => ?_, fun k hk => (lst_set hsz).2 (.inl (I.forced k hk)), fun j h2 h3 => (lst_set hsz).2 (.inl (I.effs j h2 h3)), ⟨q1, q2, q3, q4⟩, I.again⟩
    · rcases (lst_set hsz).1 hk with h | rfl
      · exact (lst_set hsz).2 (.inl (I.down k h j hj))
      · exact (lst_set hsz).2 (.inl (hpre j hj))
    · rcases (lst_set hsz).1 hk with h | rfl
      · exact I.sub k h
      · exact hL
  have names : ∀ {φ'' : Phi}, (∀ b, φ b = none → b < s.H.next → (∀ k, s.names.lookup k = some b → k ≠ i) → φ'' b = none) → Names φ'' H0 (listed.setIfInBounds i true) s := fun hφ => by
    refine ⟨fun k b hk => ?_, I.ghost.names.inj⟩
    obtain ⟨k1, k2, k3⟩ := I.ghost.names.at_ k b hk
    refine ⟨k1, k2, fun hn => hφ b (k3 fun h => hn ((lst_set hsz).2 (.inl h))) k2 fun k' hk' e => ?_⟩
    have := I.ghost.names.inj k k' b hk hk'
    exact hn ((lst_set hsz).2 (.inr (this.trans e)))
  unfold Go.Abs.again at hag
  rw [ho] at hag
  simp only [Bool.and_eq_true] at hag
  obtain ⟨hok, hag⟩ := hag
  have hok' : ∀ x ∈ o.op.operands.toList, VR φ (s.a.eval x) (a'.eval x) := fun x hx => I.ghost.act.eval I.ghost.rel (List.all_eq_true.1 hok x hx) fun t ht => hs.operands t (ht ▸ hx)
  unfold wpOpIn
  rw [ho]
  simp only
  rw [wanted_eq I.ghost.act hs] at hag
  split at hag
  · rename_i hw
    rw [if_pos hw]
    refine ⟨fun f _ => fenceA_fn _ _, ?_⟩
    have hsem : ∀ {v H'}, opEval C.P s.a.eval o s.H = some (.val v H') → o.semAt (fenceA ro').round a'.eval = execOp a'.eval o := fun hev =>
      Oper.semAt_eq _ _ _ fun c hc => by
        obtain ⟨d, hd⟩ := opEval_defer hc hev
        cases hd
    split at hag
    · rename_i hm
      split at hag
      · rename_i v H' hev
        split at hag
        · rename_i b hb
          split at hag
          · rename_i u hu
            simp only [Bool.and_eq_true] at hag
            obtain ⟨hso, hrec⟩ := hag
            obtain ⟨obj, o', v', w', rfl, k2, k3, k4, k5, k6, k7, k8⟩ := make_ok I.ghost.rel hm hok' hev
            rw [hsem hev, k2, Oper.uponIn_value]
            obtain ⟨n1, n2, n3⟩ := I.ghost.names.at_ i b hb
            have hφb := n3 hnl
            have hobj : s.H.get b = some obj := by
              have e : (s.H.new obj).get s.H.next = some obj := by simp
              rw [e] at hso
              unfold sameO at hso
              split at hso
              · rename_i vs e1 s1 vs' e1' s1' q1 q2
                cases q2
                simp only [Bool.and_eq_true, beq_iff_eq] at hso
                rw [q1, sameVs_eq _ _ hso.1.1, hso.1.2, hso.2]
              · cases hso
            have R2 := I.ghost.rel.late hφb n2 hobj k3 k7
            have E2 := I.ghost.ext.late n1 hf0 k3 rfl k4 k5 k6
            have hle := φ.le_put (.live w.heap.size 0 0) hφb
            refine hk _ _ _ hle (fin ((I.ghost.act.mono hle).late hX fun d hd => ?_) R2 E2 (names fun b' h2 h3 h4 => ?_))
            · rw [recorded_ok hrec d hd]
              exact k8 _ b u (Phi.put_same _ _ _) hu
            · have : b' ≠ b := fun e => h4 i (e ▸ hb) rfl
              rw [Phi.put_other _ _ this]; exact h2
          · cases hag
        · cases hag
      · cases hag
    · split at hag
      · rename_i hf
        split at hag
        · rename_i v H' hev
          have := float_same hf hev
          subst this
          obtain ⟨φ', w', v', k1, k2, k3, k4⟩ := op_sound I.ghost.rel hK (ρ' := a'.eval) hok' hev
          rw [hsem hev, k1, Oper.uponIn_value]
          refine hk _ _ φ' k4.phi (fin ((I.ghost.act.mono k4.phi).late hX fun d hd => ?_) k3 (I.ghost.ext.trans hf0 k4) (names fun b' h2 h3 _ => k4.old b' h3 h2))
          rw [recorded_ok hag d hd]
          exact k2
        · cases hag
      · cases hag
  · rename_i hw
    rw [if_neg hw]
    refine ⟨fun f _ => fenceA_fn _ _, hk _ _ φ (Phi.le_refl _) (fin (I.ghost.act.late hX fun d hd => ?_) I.ghost.rel I.ghost.ext (names fun b' h2 _ _ => h2))⟩
    rw [recorded_ok hag d hd]
    exact undef_rel

end Go.Abs

/-! A region that draws its order: whatever order the model takes comes to what the abstract machine's one order came to; no condition. -/
namespace Go.Abs
variable {C : Cfg} {φ : Phi} {H : Heap} {w : World}

theorem Inv.all_listed {ops : Array Oper} {eff : List Nat} {φ0 : Phi} {H0 : Heap} {w0 : World} {L F : Nat} {s : DState} {listed : Array Bool} {a' : Act} (I : Inv C ops eff φ0 H0 w0 L F s listed a' w φ) (hp : PlanOk ops eff)
    (h : Region.ready .any ops listed = []) : ∀ i, i < ops.size → lst listed i := by
  intro i
  induction i using Nat.strongRecOn with
  | _ i ih =>
    intro hi
    by_cases hl : lst listed i
    · exact hl
    · exfalso
      have hr : i ∈ Region.ready .any ops listed := by
        refine mem_ready.2 ⟨not_listed (by rw [I.size]; exact hi) hl, ops[i], by simp [hi], fun e he hb => ?_⟩
        have hbit : ((predMasks ops).getD i 0).testBit e.on = true := by
          rw [pm_get (o := ops[i]) (by simp [hi]), predMask_iff]
          exact ⟨e, he, hb, rfl⟩
        have hlt : e.on < i := by
          rcases Nat.lt_or_ge e.on i with h1 | h1
          · exact h1
          · have := Nat.testBit_lt_two_pow (Nat.lt_of_lt_of_le (hp.back i hi) (Nat.pow_le_pow_right (by decide) h1))
            rw [this] at hbit; cases hbit
        exact ih e.on hlt (by omega)
      rw [h] at hr
      cases hr

theorem Inv.done {ops : Array Oper} {eff : List Nat} {φ0 : Phi} {H0 : Heap} {w0 : World} {L F : Nat} {s : DState} {listed : Array Bool} {a' : Act} (I : Inv C ops eff φ0 H0 w0 L F s listed a' w φ)
    (hall : ∀ i, i < ops.size → lst listed i) {R : Rec} {ro : Option Nat} {stages : List (Nat × List Nat × List Nat)} {pm down : List Nat} (hst : okStages ops.size pm eff down stages L F = true) {out out' : List (AAct × Heap)}
    (h : stagesA C R ro ops stages s = some out') (hsub : ∀ y ∈ out', y ∈ out) : opsPost C noSkips φ0 H0 w0 out a' w := by
  cases stages with
  | nil =>
    cases h
    refine ⟨_, φ, hsub _ (List.mem_singleton.2 rfl), I.ghost.act.weaken ?_, I.ghost.rel, I.ghost.ext⟩
    rintro t ⟨j, o, h1, h2, h3, h4⟩
    exact h2 (hall j (Array.getElem?_eq_some_iff.1 h3).1)
  | cons x r =>
    obtain ⟨e, fs, chk⟩ := x
    simp only [okStages, Bool.and_eq_true, decide_eq_true_eq, Bool.not_eq_true'] at hst
    obtain ⟨⟨⟨⟨h1, h2⟩, _⟩, _⟩, _⟩ := hst
    have := I.sub e (hall e h1)
    rw [h2] at this
    cases this

theorem any_ok {R : Rec} (hR : RecOk C R) (hK : ∀ g ∈ C.K, g < G0 C.P) {φ0 : Phi} {H0 : Heap} {w0 : World} (hf0 : ∀ b, H0.next ≤ b → φ0 b = none) {ro ro' : Option Nat} (hro0 : RoR φ0 ro ro') {ops : Array Oper} {eff : List Nat} (hp : PlanOk ops eff)
    {out : List (AAct × Heap)} {Q : Exit → Act → World → Prop} (hq : ∀ a'' w'', opsPost C noSkips φ0 H0 w0 out a'' w'' → Q .normal a'' w'') :
    ∀ (fuel : Nat) (stages : List (Nat × List Nat × List Nat)) (L F : Nat) (s : DState) (listed : Array Bool) (a' : Act) (w : World) (φ : Phi) (out' : List (AAct × Heap)),
    okStages ops.size (predMasks ops) eff (List.range ops.size).reverse stages L F = true → stagesA C R ro ops stages s = some out' → (∀ y ∈ out', y ∈ out) →
    Inv C ops eff φ0 H0 w0 L F s listed a' w φ → left listed ≤ fuel → wpAnyIn (fenceA ro') 0 C.P .any ops Q fuel listed a' w := by
  intro fuel
  induction fuel with
  | zero =>
    intro stages L F s listed a' w φ out' hst hrun hsub I hleft
    have hall : ∀ i, i < ops.size → lst listed i := fun i hi => left_zero (by omega) (by rw [I.size]; exact hi)
    refine ⟨?_, hq _ _ (I.done hall hst hrun hsub)⟩
    cases hr : Region.ready .any ops listed with
    | nil => rfl
    | cons i r =>
      obtain ⟨h1, o, h2, _⟩ := ready_inv (ops := ops) (listed := listed) (i := i) (by rw [hr]; exact List.mem_cons_self)
      exact absurd (hall i (Array.getElem?_eq_some_iff.1 h2).1) (unlisted h1).2
  | succ fuel ih =>
    intro stages L F s listed a' w φ out' hst hrun hsub I hleft
    refine ⟨fun hr => hq _ _ (I.done (I.all_listed hp hr) hst hrun hsub), fun i hi => ?_⟩
    obtain ⟨h1, o, ho, hpre⟩ := ready_inv hi
    obtain ⟨hsz, hnl⟩ := unlisted h1
    have hin : i < ops.size := (Array.getElem?_eq_some_iff.1 ho).1
    have hleft' : left (listed.setIfInBounds i true) ≤ fuel := by have := left_set h1; omega
    cases hL : L.testBit i with
    | true => exact I.float hK hf0 hp hi hL fun a'' w'' φ'' _ I' => ih stages L F s _ a'' w'' φ'' out' hst hrun hsub I' hleft'
    | false =>
      cases stages with
      | nil =>
        simp only [okStages, List.all_eq_true, List.mem_range] at hst
        have := hst i hin
        rw [hL] at this; cases this
      | cons x r =>
        obtain ⟨e, fs, chk⟩ := x
        simp only [okStages, Bool.and_eq_true, decide_eq_true_eq, Bool.not_eq_true', List.all_eq_true, List.mem_range] at hst
        obtain ⟨⟨⟨⟨he1, he2⟩, he3⟩, he4⟩, he5⟩ := hst
        have hie : i = e := by
          have := he4 i hin
          rw [hL, subMask_of fun j hj => I.sub j (hpre j hj)] at this
          simpa using this
        subst hie
        split at he5
        · rename_i L' hfl
          simp only [Bool.and_eq_true, List.all_eq_true, List.mem_range] at he5
          obtain ⟨hchk, hst'⟩ := he5
          obtain ⟨hL', hfs⟩ := okFloats_ok fs hfl
          simp only [stagesA] at hrun
          obtain ⟨l1, e1, hb⟩ := bind_inv hrun
          have hs := I.seen hp ho hpre
          refine op_ok hR hK I.ghost.rel ((hro0.mono I.ghost.ext.phi)) (fun o' ho' => by rw [ho] at ho'; cases ho'; exact hs) I.ghost.act e1 ?_
          rintro a'' w'' ⟨x, φ1, hx, hact, hrel, hext⟩
          obtain ⟨lo, h2, h3⟩ := hb x hx
          split at h2
          · rename_i s' hs'
            split at h2
            · rename_i hag
              have hnames : Names φ1 H0 (listed.setIfInBounds i true) { a := x.1, H := x.2, names := s.names } := by
                refine ⟨fun k b hk => ?_, I.ghost.names.inj⟩
                obtain ⟨k1, k2, k3⟩ := I.ghost.names.at_ k b hk
                exact ⟨k1, Nat.lt_of_lt_of_le k2 hext.le, fun hn => hext.old b k2 (k3 fun h => hn ((lst_set hsz).2 (.inl h)))⟩
              have hg := floats_ghost fs (listed := listed.setIfInBounds i true) (s := { a := x.1, H := x.2, names := s.names }) (H0 := H0) (φ0 := φ0) (w0 := w0) ⟨hact, hrel, I.ghost.ext.trans hf0 hext, hnames⟩ hs'
              have hbit : ∀ j, L'.testBit j = true → L.testBit j = true ∨ j = i ∨ j ∈ fs := fun j hj => by
                rcases (hL' j).1 hj with h | h
                · rcases orBit.1 h with h | h
                  · exact .inl h
                  · exact .inr (.inl h)
                · exact .inr (.inr h)
              have hdown : ∀ k, lst (listed.setIfInBounds i true) k → ∀ j, ((predMasks ops).getD k 0).testBit j = true → lst (listed.setIfInBounds i true) j := fun k hk j hj => by
                rcases (lst_set hsz).1 hk with h | rfl
                · exact (lst_set hsz).2 (.inl (I.down k h j hj))
                · exact (lst_set hsz).2 (.inl (hpre j hj))
              refine ih r L' _ s' _ a'' w'' φ1 lo hst' h2 (fun y hy => hsub y (h3 y hy)) ⟨by rw [Array.size_setIfInBounds]; exact I.size, hdown, fun k hk => ?_, fun k hk => ?_, fun j hj1 hj2 => ?_, ⟨hg.act.weaken ?_, hg.rel, hg.ext, hg.names⟩, fun k hk1 hk2 => ?_⟩ hleft'
              · rcases (lst_set hsz).1 hk with h | rfl
                · exact (hL' k).2 (.inl (orBit.2 (.inl (I.sub k h))))
                · exact (hL' k).2 (.inl (orBit.2 (.inr rfl)))
              · refine upMask_ok hdown _ _ (fun j hj => ?_) k hk
                rcases orBit.1 hj with h | rfl
                · exact (lst_set hsz).2 (.inl (I.forced j h))
                · exact (lst_set hsz).2 (.inr rfl)
              · rcases hbit j hj2 with h | rfl | h
                · exact (lst_set hsz).2 (.inl (I.effs j hj1 h))
                · exact (lst_set hsz).2 (.inr rfl)
                · exact absurd hj1 (hfs j h).2.2
              · rintro t (⟨j, o', q1, q2, q3, q4⟩ | ⟨j, hj, o', q3, q4⟩)
                · refine ⟨j, o', (hL' j).2 (.inl (orBit.2 (.inl q1))), fun h => ((lst_set hsz).1 h).elim q2 fun e => ?_, q3, q4⟩
                  subst e; rw [hL] at q1; cases q1
                · refine ⟨j, o', (hL' j).2 (.inr hj), fun h => ?_, q3, q4⟩
                  have hnb := (hfs j hj).2.1
                  rcases (lst_set hsz).1 h with h | rfl
                  · rw [orBit.2 (.inl (I.sub j h))] at hnb; cases hnb
                  · rw [orBit.2 (.inr rfl)] at hnb; cases hnb
              · have hlt : k < ops.size := by
                  rcases hbit k hk1 with h | rfl | h
                  · rcases Nat.lt_or_ge k ops.size with h4 | h4
                    · exact h4
                    · exfalso
                      have h5 := I.again
                      have : lst listed k ∨ ¬ lst listed k := Classical.em _
                      rcases this with h6 | h6
                      · unfold lst at h6
                        rw [Array.getD_eq_getD_getElem?, Array.getElem?_eq_none (by rw [I.size]; exact h4)] at h6
                        cases h6
                      · cases hFk : F.testBit k with
                        | true => exact h6 (I.forced k hFk)
                        | false =>
                          have h7 := h5 k h hFk
                          unfold Go.Abs.again at h7
                          rw [Array.getElem?_eq_none h4] at h7
                          cases h7
                  · exact hin
                  · exact (hfs k h).1
                have h4 := hchk k hlt
                rw [hk1, hk2] at h4
                simp only [Bool.not_true, Bool.false_or] at h4
                have h5 : k ∈ chk := by simpa using h4
                exact List.all_eq_true.1 hag k h5
            · cases h2
          · cases h2
        · cases he5

theorem draw_ok {R : Rec} (hR : RecOk C R) (hK : ∀ g ∈ C.K, g < G0 C.P) (hw : Rel C φ H w) {ro ro' : Option Nat} (hro : RoR φ ro ro') {ops : Array Oper} {a : AAct} {a' : Act} {out : List (AAct × Heap)}
    (ha : ActR φ noSkips a a') (h : drawA C R ro ops a H = some out) {Q : Exit → Act → World → Prop} (hq : ∀ a'' w'', opsPost C noSkips φ H w out a'' w'' → Q .normal a'' w'') {id : Nat} :
    (Code.region id ops true).wpIn (fenceA ro') 0 C.P Q a' w := by
  unfold drawA at h
  simp only at h
  generalize mkPlan C.P ops = p at h
  split at h
  · rename_i hpl
    simp only [Bool.and_eq_true] at hpl
    obtain ⟨hpl, hfol⟩ := hpl
    apply wpIn_region_any hfol
    split at h
    · rename_i s hs
      split at h
      · rename_i hag
        unfold okPlan at hpl
        simp only [Bool.and_eq_true, List.all_eq_true, List.mem_range, decide_eq_true_eq] at hpl
        obtain ⟨⟨hback, hreads⟩, hfirst⟩ := hpl
        have hp : PlanOk ops (p.stages.map (·.1)) := by
          refine ⟨hback, fun i o ho t ht j hj hd => ?_⟩
          have h1 := hreads i (Array.getElem?_eq_some_iff.1 ho).1
          rw [ho] at h1
          simp only [List.all_eq_true, List.mem_range] at h1
          have h2 := h1 t ht j hj
          rw [hd] at h2
          simp only [bne_self_eq_false, Bool.false_or, Bool.or_eq_true] at h2
          exact h2.imp (fun h => h) fun h => by simpa using h
        split at hfirst
        · rename_i L hL
          simp only [Bool.and_eq_true, List.all_eq_true, List.mem_range] at hfirst
          obtain ⟨hcov, hst⟩ := hfirst
          obtain ⟨hbits, hfs⟩ := okFloats_ok _ hL
          have hnot : ∀ i, ¬ lst (Array.replicate ops.size false) i := fun i h => by
            unfold lst at h
            rw [Array.getD_eq_getD_getElem?] at h
            by_cases hi : i < ops.size
            · simp [hi] at h
            · rw [Array.getElem?_eq_none (by simpa using hi)] at h; cases h
          have hal := Alike.draw w
          have hg := floats_ghost p.first (listed := Array.replicate ops.size false) (s := { a, H, names := [] }) (X := noSkips) (H0 := H) (φ0 := φ) (w0 := w) ⟨ha, hw.alike hal, Ext.alike hal, ⟨fun i b h => (by cases h), fun i j b h => (by cases h)⟩⟩ hs
          have hzero : ∀ i, ¬ (0 : Nat).testBit i = true := fun i h => by rw [Nat.zero_testBit] at h; cases h
          refine any_ok hR hK hw.fresh hro hp hq ops.size p.stages L 0 s _ a' _ φ out hst h (fun _ h => h) ⟨by simp, fun i hi => absurd hi (hnot i), fun i hi => absurd hi (hnot i), fun i hi => absurd hi (hzero i), fun j hj hb => ?_, ⟨hg.act.weaken ?_, hg.rel, hg.ext, hg.names⟩, fun i hi _ => ?_⟩ ?_
          · rcases (hbits j).1 hb with h | h
            · exact absurd h (hzero j)
            · exact absurd hj (hfs j h).2.2
          · rintro t (h | ⟨j, hj, o, h1, h2⟩)
            · exact h.elim
            · exact ⟨j, o, (hbits j).2 (.inr hj), hnot j, h1, h2⟩
          · rcases (hbits i).1 hi with h | h
            · exact absurd h (hzero i)
            · exact List.all_eq_true.1 hag i h
          · unfold left
            rw [Array.toList_replicate]
            exact Nat.le_trans List.count_le_length (by simp)
        · cases hfirst
      · cases h
    · cases h
  · cases h

end Go.Abs

/-! The abstract machine: code, calls; what it does stands for the model's; no condition. -/
namespace Go.Abs
variable {C : Cfg} {φ : Phi} {H : Heap} {w : World}

def loopA (f : AAct → Heap → Res Out) : Nat → AAct → Heap → Res Out
  | 0, _, _ => none
  | n + 1, a, H => (f a H).bind fun o =>
    match o.e with
    | .normal => loopA f n o.a o.H
    | _ => some [o]

def scopeA (R : Rec) (ro : Option Nat) (c : Code) : Nat → Out → Res Out
  | 0, _ => none
  | n + 1, o =>
    match o.e with
    | .goto l => match findLabel c l with
      | some rest => (R.code ro rest o.a o.H).bind (scopeA R ro c n)
      | none => some [o]
    | _ => some [o]

def blockA (id : Nat) (o : Out) : Out :=
  match o.e with
  | .exit id' => if id' = id then { o with e := .normal } else o
  | _ => o

/-- entering a range over a function: the loop's block, the mark, the memory -/
def enterA (ro : Option Nat) (a : AAct) (ps : Array Tmp) (assign body : Code) (H : Heap) : Option (Nat × List Deferred × Heap) :=
  match ro with
  | none =>
    let H1 := H.new (.defd true)
    some (H1.next, [{ target := .collected H.next, args := #[] }], H1.new (.loop { state := .ready, pending := none, fn := 0, tmps := a.tmps.toArray, params := ps, assign, body, defers := H.next }))
  | some l => match H.get l with
    | some (.loop r) => some (H.next, [], H.new (.loop { state := .ready, pending := none, fn := 0, tmps := a.tmps.toArray, params := ps, assign, body, defers := r.defers }))
    | _ => none

def jumpA : Option Code → Option AExit
  | none => some .normal
  | some .ret => some .ret
  | some (.exit id) => some (.exit id)
  | some (.goto g) => some (.goto g)
  | _ => none

/-- the function that was ranged over has returned -/
def endLoopA (P : Program) (l : Nat) (a : AAct) (H : Heap) : Res Out :=
  match H.get l with
  | some (.loop r) =>
    if r.state == .busy || decide (l < G0 P) then none else
    match jumpA r.pending with
    | some e => some [{ e, a, H := H.kill l }]
    | none => none
  | _ => none

def rangeA (C : Cfg) (R : Rec) (ro : Option Nat) (g : Operand) (ps : Array Tmp) (assign body : Code) (a : AAct) (H : Heap) : Res Out :=
  if !okOperand C.K g then none else
  match enterA ro a ps assign body H, a.eval g with
  | some (l, mark, H1), .func (.func f) first cap =>
    match C.P.funcs[f]? with
    | some fn => if fn.name == "runtime.NumGoroutine" then none else
      (R.call f (first.toList ++ [.func (.yield l) #[] #[]] ++ cap.toList) H1).bind fun x => endLoopA C.P l { a with defers := mark ++ a.defers } x.2
    | none => none
  | _, _ => none

def execC (C : Cfg) (R : Rec) (ro : Option Nat) : Code → AAct → Heap → Res Out
  | .skip, a, H | .label _, a, H => some [⟨.normal, a, H⟩]
  | .region _ ops draw, a, H => (if draw then drawA C R ro ops a H else runOps C R ro ops (List.range ops.size) a H).bind fun x => some [⟨.normal, x.1, x.2⟩]
  | .seq x y, a, H => (execC C R ro x a H).bind fun o =>
    match o.e with
    | .normal => execC C R ro y o.a o.H
    | _ => some [o]
  | .cond c x y, a, H =>
    if !okOperand C.K c then none else
    match a.eval c with
    | .bool true => execC C R ro x a H
    | .bool false => execC C R ro y a H
    | _ => none
  | .block id c, a, H => (execC C R ro c a H).bind fun o => some [blockA id o]
  | .loop c, a, H => loopA (execC C R ro c) R.fuel a H
  | .scope c, a, H => (execC C R ro c a H).bind (scopeA R ro c R.fuel)
  | .rangeFunc g ps assign body, a, H => rangeA C R ro g ps assign body a H
  | .exit id, a, H => some [⟨.exit id, a, H⟩]
  | .goto l, a, H => some [⟨.goto l, a, H⟩]
  | .ret, a, H => some [⟨.ret, a, H⟩]
  | .refuse _, _, _ => none

/-! ### Rules -/
theorem wpIn_loop_n {F : Fence} {n : Nat} {P : Program} {c : Code} {Q : Exit → Act → World → Prop} {a : Act} {w : World} (J : Nat → Act → World → Prop) (m : Nat) (h₀ : J m a w)
    (round : ∀ m a w, J m a w → c.wpIn F n P (Exit.then (fun a' w' => ∃ k, k < m ∧ J k a' w') Q) a w) : (Code.loop c).wpIn F n P Q a w := by
  intro b k cs hro hb hr
  have key : ∀ j a w, J j a w →
      ∃ e a' w', Q e a' w' ∧ ArrivesIn (Machine.fenced P F) P (lone (b.atR a (.code c :: .inLoop c :: k)) cs w) b k cs e a' w' := by
    intro j
    induction j using Nat.strongRecOn with
    | _ j ih =>
      intro a w hI
      obtain ⟨e, a₁, w₁, hq, harr⟩ := round j a w hI b (.inLoop c :: k) cs hro hb hr
      cases e with
      | normal =>
        obtain ⟨i, hlt, hI₁⟩ := hq
        obtain ⟨e₂, a₂, w₂, hq₂, harr₂⟩ := ih i hlt a₁ w₁ hI₁
        exact ⟨e₂, a₂, w₂, hq₂, .of_steps (StepsIn.trans harr (.one (fenced_calm hb hr rfl) stepR_inLoop)) harr₂⟩
      | exit id => exact ⟨_, a₁, w₁, hq, .pass (x := .inLoop c) rfl (fun _ _ => .inl (by simp)) harr⟩
      | goto l => exact ⟨_, a₁, w₁, hq, .pass (x := .inLoop c) rfl (fun _ _ => .inl (by simp)) harr⟩
      | ret => exact ⟨_, a₁, w₁, hq, .pass (x := .inLoop c) rfl (fun _ _ => .inl (by simp)) harr⟩
      | panic ch => exact ⟨_, a₁, w₁, hq, .pass (x := .inLoop c) rfl (fun _ _ => .inl (by simp)) harr⟩
      | outgrown => exact ⟨_, a₁, w₁, hq, .pass (x := .inLoop c) rfl (fun _ _ => .inl (by simp)) harr⟩
  obtain ⟨e, a', w', hq, harr⟩ := key m a w h₀
  exact ⟨e, a', w', hq, .of_steps (.one (fenced_calm hb hr rfl) stepR_loop) harr⟩

/-- as Q, but a jump to a label of c: K -/
def scopePost (c : Code) (K : Nat → Act → World → Prop) (Q : Exit → Act → World → Prop) : Exit → Act → World → Prop
  | .goto l, a, w => if (findLabel c l).isSome then K l a w else Q (.goto l) a w
  | e, a, w => Q e a w

theorem stepR_scope {P : Program} {b : Frame} {a : Act} {k : List Item} {cs : List Frame} {w : World} {c : Code} :
    step P (lone (b.atR a (.code (.scope c) :: k)) cs w) = .next (lone (b.atR a (.code c :: .inScope c :: k)) cs w) :=
  step_lone_go (by simp [stepG, stepG.exec, Frame.atR])
theorem stepR_inScope {P : Program} {b : Frame} {a : Act} {k : List Item} {cs : List Frame} {w : World} {c : Code} :
    step P (lone (b.atR a (.inScope c :: k)) cs w) = .next (lone (b.atR a k) cs w) :=
  step_lone_go (by simp [stepG, stepG.exec, Frame.atR])

theorem wpIn_scope_n {F : Fence} {n : Nat} {P : Program} {c : Code} {Q : Exit → Act → World → Prop} {a : Act} {w : World} (J : Nat → Nat → Act → World → Prop)
    (first : c.wpIn F n P (scopePost c (fun l a w => ∃ m, J m l a w) Q) a w)
    (pass : ∀ m l rest a w, findLabel c l = some rest → J m l a w → rest.wpIn F n P (scopePost c (fun l a w => ∃ i, i < m ∧ J i l a w) Q) a w) : (Code.scope c).wpIn F n P Q a w := by
  intro b k cs hro hb hr
  have exits : ∀ {m₀ : Machine} {e : Exit} {a₁ : Act} {w₁ : World}, (∀ l, e = .goto l → findLabel c l = none) → ArrivesIn (Machine.fenced P F) P m₀ b (.inScope c :: k) cs e a₁ w₁ → ArrivesIn (Machine.fenced P F) P m₀ b k cs e a₁ w₁ := by
    intro m₀ e a₁ w₁ hl harr
    cases e with
    | normal => exact StepsIn.trans harr (.one (fenced_calm hb hr rfl) stepR_inScope)
    | exit id => exact ⟨fun k' hk => harr.1 k' (by simp [exitTo, hk]), fun h1 hk => harr.2 h1 (by simp [exitTo, hk])⟩
    | goto l =>
      have hx : gotoIn l (.inScope c :: k) = gotoIn l k := by simp [gotoIn, hl l rfl]
      exact ⟨fun k' hk => harr.1 k' (by rw [hx]; exact hk), fun h1 hk => harr.2 h1 (by rw [hx]; exact hk)⟩
    | ret => exact harr
    | panic ch => exact harr
    | outgrown => exact harr
  have key : ∀ j l rest a w, findLabel c l = some rest → J j l a w →
      ∃ e a' w', Q e a' w' ∧ ArrivesIn (Machine.fenced P F) P (lone (b.atR a (.code rest :: .inScope c :: k)) cs w) b k cs e a' w' := by
    intro j
    induction j using Nat.strongRecOn with
    | _ j ih =>
      intro l rest a w hf hJ
      obtain ⟨e, a₁, w₁, hq, harr⟩ := pass j l rest a w hf hJ b (.inScope c :: k) cs hro hb hr
      cases e with
      | goto l' =>
        simp only [scopePost] at hq
        cases hl : findLabel c l' with
        | none => rw [hl] at hq; exact ⟨_, a₁, w₁, hq, exits (fun l2 e => by cases e; exact hl) harr⟩
        | some rest' =>
          rw [hl] at hq
          obtain ⟨i, hi, hJ'⟩ := hq
          obtain ⟨e₂, a₂, w₂, hq₂, harr₂⟩ := ih i hi l' rest' a₁ w₁ hl hJ'
          exact ⟨e₂, a₂, w₂, hq₂, .of_steps (harr.1 _ (by simp [gotoIn, hl])) harr₂⟩
      | _ => exact ⟨_, a₁, w₁, hq, exits (fun l2 e => by cases e) harr⟩
  have h0 : (lone (b.atR a (.code (.scope c) :: k)) cs w).fenced P F := fenced_calm hb hr rfl
  obtain ⟨e, a₁, w₁, hq, harr⟩ := first b (.inScope c :: k) cs hro hb hr
  cases e with
  | goto l' =>
    simp only [scopePost] at hq
    cases hl : findLabel c l' with
    | none => rw [hl] at hq; exact ⟨_, a₁, w₁, hq, .of_steps (.one h0 stepR_scope) (exits (fun l2 e => by cases e; exact hl) harr)⟩
    | some rest' =>
      rw [hl] at hq
      obtain ⟨i, hJ'⟩ := hq
      obtain ⟨e₂, a₂, w₂, hq₂, harr₂⟩ := key i l' rest' a₁ w₁ hl hJ'
      exact ⟨e₂, a₂, w₂, hq₂, .of_steps (.head h0 stepR_scope (harr.1 _ (by simp [gotoIn, hl]))) harr₂⟩
  | _ => exact ⟨_, a₁, w₁, hq, .of_steps (.one h0 stepR_scope) (exits (fun l2 e => by cases e) harr)⟩

theorem codePost.trans {φ' : Phi} {H' : Heap} {w' : World} {l l' : List Out} (R : Rel C φ H w) (E : Ext C φ H w φ' H' w') (hl : ∀ x ∈ l, x ∈ l') {e : Exit} {a : Act} {w'' : World}
    (h : codePost C φ' H' w' l e a w'') : codePost C φ H w l' e a w'' := by
  obtain ⟨o, φ'', h1, h2, h3, h4, h5⟩ := h
  exact ⟨o, φ'', hl o h1, h2, h3, h4, E.trans R.fresh h5⟩


theorem MRs.append {l l' m m' : List Deferred} (h : MRs φ l l') (h2 : MRs φ m m') : MRs φ (l ++ m) (l' ++ m') := by
  induction h with
  | nil => exact h2
  | cons h1 _ ih => exact .cons h1 ih

theorem enter_ok (hw : Rel C φ H w) {ro ro' : Option Nat} {a : AAct} {a' : Act} {ps : Array Tmp} {assign body : Code} {l : Nat} {mark : List Deferred} {H1 : Heap} (ha : ActR φ noSkips a a') (hro : RoR φ ro ro')
    (h : enterA ro a ps assign body H = some (l, mark, H1)) (fn : FuncId) :
    ∃ l' mark' w1 φ1, (Instr.enterLoop fn a'.tmps ps assign body ro').run C.P w = .ok (l', mark') w1 ∧ Rel C φ1 H1 w1 ∧ Ext C φ H w φ1 H1 w1 ∧ VR φ1 (.map (some l)) (.map (some l')) ∧ MRs φ1 mark mark' := by
  cases hro with
  | none =>
    simp only [enterA, Option.some.injEq, Prod.mk.injEq] at h
    obtain ⟨rfl, rfl, rfl⟩ := h
    obtain ⟨q1, q2⟩ := hw.new (w' := w.alloc (.deferred (some []))) (k := 0) (sh := 0) (o := .defd true) (o' := .deferred (some [])) rfl rfl rfl rfl rfl
    have e1 := Phi.put_same φ H.next (.live w.heap.size 0 0)
    obtain ⟨q3, q4⟩ := q1.new (w' := (w.alloc (.deferred (some []))).alloc (.loop { state := .ready, pending := none, fn, tmps := a'.tmps, params := ps, assign, body, defers := w.heap.size })) (k := 0) (sh := 0)
      (o := .loop { state := .ready, pending := none, fn := 0, tmps := a.tmps.toArray, params := ps, assign, body, defers := H.next }) (o' := .loop { state := .ready, pending := none, fn, tmps := a'.tmps, params := ps, assign, body, defers := w.heap.size })
      rfl rfl rfl rfl ⟨_, rfl, { state := rfl, pending := rfl, params := rfl, assign := rfl, body := rfl, tmps := ((ha.all.mono q2.phi).mono (Phi.le_put _ _ q1.free)), defers := VR.mono (Phi.le_put _ _ q1.free) (.map e1) }⟩
    refine ⟨_, _, _, _, run_enterLoop_outer fn a'.tmps ps assign body, q3, q2.trans hw.fresh q4, ?_, .cons (.mark (VR.mono q4.phi (.map e1))) .nil⟩
    rw [← World.size_alloc w (.deferred (some []))]
    exact .map (Phi.put_same _ _ _)
  | some hl =>
    rename_i l0 l0'
    simp only [enterA] at h
    split at h
    · rename_i r hg
      simp only [Option.some.injEq, Prod.mk.injEq] at h
      obtain ⟨rfl, rfl, rfl⟩ := h
      obtain ⟨r', k, sh, h1, h2, h3⟩ := hw.loop hl hg
      obtain ⟨q3, q4⟩ := hw.new (w' := w.alloc (.loop { state := .ready, pending := none, fn, tmps := a'.tmps, params := ps, assign, body, defers := r'.defers })) (k := 0) (sh := 0)
        (o := .loop { state := .ready, pending := none, fn := 0, tmps := a.tmps.toArray, params := ps, assign, body, defers := r.defers }) (o' := .loop { state := .ready, pending := none, fn, tmps := a'.tmps, params := ps, assign, body, defers := r'.defers })
        rfl rfl rfl rfl ⟨_, rfl, { state := rfl, pending := rfl, params := rfl, assign := rfl, body := rfl, tmps := ha.all.mono (Phi.le_put _ _ hw.free), defers := h2.defers.mono (Phi.le_put _ _ hw.free) }⟩
      refine ⟨w.heap.size, [], _, _, ?_, q3, q4, .map (Phi.put_same _ _ _), .nil⟩
      unfold Instr.enterLoop
      simp only [Sem.run_bind, run_getLoop h1, run_newObj_alloc, Result.andThen, Sem.run_pure]
    · cases h

theorem T.set_set : ∀ (f : Nat) (t : T) (k : Nat) (o o' : Option AObj), T.set f (T.set f t k o) k o' = T.set f t k o'
  | 0, _, _, _, _ => rfl
  | f + 1, .leaf, k, o, o' => by
    by_cases h0 : k = 0
    · simp [T.set, h0]
    · by_cases h1 : k % 2 = 1
      · simp [T.set, h0, h1, T.set_set f]
      · simp [T.set, h0, h1, T.set_set f]
  | f + 1, .node l v r, k, o, o' => by
    by_cases h0 : k = 0
    · simp [T.set, h0]
    · by_cases h1 : k % 2 = 1
      · simp [T.set, h0, h1, T.set_set f]
      · simp [T.set, h0, h1, T.set_set f]

theorem Heap.kill_put (H : Heap) (b : Nat) (o : AObj) : (H.put b o).kill b = H.kill b := by
  simp [Heap.put, Heap.kill, T.set_set]

theorem endLoop_ok (hK : ∀ g ∈ C.K, g < G0 C.P) (hw : Rel C φ H w) {l l' : Nat} {a : AAct} {a' : Act} {out : List Out} (hl : VR φ (.map (some l)) (.map (some l'))) (ha : ActR φ noSkips a a') (h : endLoopA C.P l a H = some out) {F : Fence} {n : Nat} :
    ∃ jump w', (Instr.endLoop l').run C.P w = .ok jump w' ∧ (match jump with
      | none => codePost C φ H w out .normal a' w'
      | some c => c.wpIn F n C.P (codePost C φ H w out) a' w') := by
  unfold endLoopA at h
  split at h
  · rename_i r hg
    split at h
    · cases h
    · rename_i hb
      obtain ⟨r', k, sh, h1, h2, h3⟩ := hw.loop hl hg
      split at h
      · rename_i e he
        cases h
        simp only [Bool.or_eq_true, decide_eq_true_eq, not_or, Nat.not_lt] at hb
        have hb' : r'.state ≠ .busy := by rw [h2.state]; intro h; rw [h] at hb; exact hb.1 rfl
        obtain ⟨q1, q2⟩ := hw.putLoop (r := { r with state := .exhausted }) (r' := { r' with state := .exhausted }) h3 (by rw [hg]; simp) h1
          { state := rfl, pending := h2.pending, params := h2.params, assign := h2.assign, body := h2.body, tmps := h2.tmps, defers := h2.defers }
        obtain ⟨q3, q4, q5⟩ := q1.kill (b := l) (by simp) hb.2 hK (by rw [h3]; rfl)
        rw [Heap.kill_put] at q3 q5
        have q6 := q2.trans hw.fresh q5
        refine ⟨_, _, run_endLoop h1 hb', ?_⟩
        generalize w.putObj l' (.loop { r' with state := .exhausted }) = w2 at q3 q6 ⊢
        rw [h2.pending]
        have fin : ∀ e', ER e e' → codePost C φ H w [{ e, a, H := H.kill l }] e' a' w2 := fun e' he' =>
          ⟨_, _, List.mem_singleton.2 rfl, he', ha.mono q4, q3, q6⟩
        generalize [({ e, a, H := H.kill l } : Out)] = out0 at fin ⊢
        generalize r.pending = p at he
        unfold jumpA at he
        split at he <;> cases he
        · exact fin _ .normal
        · exact wpIn_ret (fin _ .ret)
        · exact wpIn_exit (fin _ .exit)
        · exact wpIn_goto (fin _ .goto)
      · cases h
  · cases h

theorem range_ok {R : Rec} (hR : RecOk C R) (hK : ∀ g ∈ C.K, g < G0 C.P) (hw : Rel C φ H w) {ro ro' : Option Nat} (hro : RoR φ ro ro') {g : Operand} {ps : Array Tmp} {assign body : Code} {a : AAct} {a' : Act} {out : List Out}
    (ha : ActR φ noSkips a a') (h : rangeA C R ro g ps assign body a H = some out) : (Code.rangeFunc g ps assign body).wpIn (fenceA ro') 0 C.P (codePost C φ H w out) a' w := by
  unfold rangeA at h
  split at h
  · cases h
  · rename_i hok
    split at h
    · rename_i l mark H1 f first cap he hg
      split at h
      · rename_i fn hfn
        split at h
        · cases h
        · rename_i hname
          obtain ⟨l1, e1, hb⟩ := bind_inv h
          obtain ⟨fn', h5, h6, h7⟩ := hR.call _ _ _ _ e1
          rw [hfn] at h5; cases h5
          have hev := ha.eval hw (x := g) (by simpa using hok) (fun _ _ h => h)
          rw [hg] at hev
          apply wpIn_rangeFunc
          intro fno _
          rw [fenceA_round]
          obtain ⟨l', mark', w1, φ1, k1, k2, k3, k4, k5⟩ := enter_ok hw ha hro he fno
          cases hfv : a'.eval g with
          | func f' x y =>
            rw [hfv] at hev
            cases hev with
            | scalar h => simp [Abs.scalar] at h
            | func q1 q2 =>
              have hyield : VRs φ1 [.func (.yield l) #[] #[]] [.func (.yield l') #[] #[]] := by
                cases k4 with
                | scalar h => simp [Abs.scalar] at h
                | map h1 => exact .cons (.yield h1) .nil
                | mapDead h1 => exact .cons (.yieldDead h1) .nil
              have hargs := (((q1.mono k3.phi).append hyield).append (q2.mono k3.phi))
              refine ⟨l', mark', w1, { target := .fn (.func f) y, args := x ++ #[.func (.yield l') #[] #[]] }, w1, f, (x.toList ++ [Value.func (.yield l') #[] #[]] ++ y.toList).toArray, w1, k1, ?_, fun _ _ => fenceA_fn _ _, ?_, fun hd => (by rw [fenceA_depth] at hd; cases hd), ?_⟩
              · rw [resolve_value rfl, hfv]
                simp [Deferred.ofValue, Act.eval]
              · have e : (x.toList ++ [Value.func (.yield l') #[] #[]] ++ y.toList).toArray = (x ++ #[Value.func (.yield l') #[] #[]]) ++ y := by apply Array.ext'; simp
                rw [e]
                exact run_enter hfn (by simpa using hname) h6
              · have hc := h7 φ1 w1 _ k2 hargs
                have hc' : CallsIn (fenceA ro') 0 C.P f (x.toList ++ [Value.func (.yield l') #[] #[]] ++ y.toList).toArray w1 (callPost C φ1 H1 w1 l1) := by
                  cases ro' with
                  | none => exact hc
                  | some l => exact hc
                refine hc'.mono fun e w2 he' => ?_
                cases e with
                | returned v =>
                  obtain ⟨xx, φ2, hx, r1, r2, r3⟩ := he'
                  obtain ⟨lo, q4, q5⟩ := hb xx hx
                  have hle := Phi.le_trans k3.phi r3.phi
                  have hact : ActR φ2 noSkips { a with defers := mark ++ a.defers } { a' with defers := mark' ++ a'.defers } :=
                    ⟨ha.len, fun t ht => (ha.tmps t ht).mono hle, (k5.mono r3.phi).append (ha.defers.mono hle)⟩
                  obtain ⟨jump, w4, m1, m2⟩ := endLoop_ok hK r2 (k4.mono r3.phi) hact q4 (F := fenceA ro') (n := 0)
                  refine ⟨jump, w4, m1, ?_⟩
                  cases jump with
                  | none => exact codePost.trans hw (k3.trans hw.fresh r3) q5 m2
                  | some c => exact wpIn_mono m2 fun e a5 w5 hp => codePost.trans hw (k3.trans hw.fresh r3) q5 hp
                | panicked c => exact he'.elim
                | outgrown => exact he'.elim
          | _ => rw [hfv] at hev; cases hev <;> rename_i h <;> simp [Abs.scalar] at h
      · cases h
    · cases h

theorem code_ok {R : Rec} (hR : RecOk C R) (hK : ∀ g ∈ C.K, g < G0 C.P) : ∀ (c : Code) {ro ro' : Option Nat} {φ : Phi} {H : Heap} {w : World} {a : AAct} {a' : Act} {out : List Out},
    execC C R ro c a H = some out → Rel C φ H w → ActR φ noSkips a a' → RoR φ ro ro' → c.wpIn (fenceA ro') 0 C.P (codePost C φ H w out) a' w := by
  intro c
  induction c with
  | skip =>
    intro ro ro' φ H w a a' out h hw ha hro
    cases h
    exact wpIn_skip ⟨_, φ, List.mem_singleton.2 rfl, .normal, ha, hw, .refl⟩
  | label l =>
    intro ro ro' φ H w a a' out h hw ha hro
    cases h
    exact wpIn_label ⟨_, φ, List.mem_singleton.2 rfl, .normal, ha, hw, .refl⟩
  | exit id =>
    intro ro ro' φ H w a a' out h hw ha hro
    cases h
    exact wpIn_exit ⟨_, φ, List.mem_singleton.2 rfl, .exit, ha, hw, .refl⟩
  | goto l =>
    intro ro ro' φ H w a a' out h hw ha hro
    cases h
    exact wpIn_goto ⟨_, φ, List.mem_singleton.2 rfl, .goto, ha, hw, .refl⟩
  | ret =>
    intro ro ro' φ H w a a' out h hw ha hro
    cases h
    exact wpIn_ret ⟨_, φ, List.mem_singleton.2 rfl, .ret, ha, hw, .refl⟩
  | refuse why =>
    intro ro ro' φ H w a a' out h hw ha hro
    cases h
  | region id ops draw =>
    intro ro ro' φ H w a a' out h hw ha hro
    obtain ⟨l1, e1, hb⟩ := bind_inv h
    have fin : ∀ a'' w'', opsPost C noSkips φ H w l1 a'' w'' → codePost C φ H w out .normal a'' w'' := by
      rintro a'' w'' ⟨x, φ', h1, h2, h3, h4⟩
      obtain ⟨lo, h5, h6⟩ := hb x h1
      cases h5
      exact ⟨_, φ', h6 _ (List.mem_singleton.2 rfl), .normal, h2, h3, h4⟩
    cases draw with
    | true => exact draw_ok hR hK hw hro ha e1 fin
    | false => exact wpIn_region (run_ok hR hK _ hw hro ha e1 fin)
  | seq x y ihx ihy =>
    intro ro ro' φ H w a a' out h hw ha hro
    obtain ⟨l1, e1, hb⟩ := bind_inv h
    refine wpIn_seq (wpIn_mono (ihx e1 hw ha hro) ?_)
    rintro e a1 w1 ⟨o, φ1, ho, he, ha1, hw1, E1⟩
    obtain ⟨lo, h1, h2⟩ := hb o ho
    generalize hoe : o.e = x at he h1
    cases he with
    | normal => exact wpIn_mono (ihy h1 hw1 ha1 (hro.mono E1.phi)) fun e a2 w2 hp => codePost.trans hw E1 h2 hp
    | exit => cases h1; exact ⟨o, φ1, h2 _ (List.mem_singleton.2 rfl), hoe ▸ .exit, ha1, hw1, E1⟩
    | goto => cases h1; exact ⟨o, φ1, h2 _ (List.mem_singleton.2 rfl), hoe ▸ .goto, ha1, hw1, E1⟩
    | ret => cases h1; exact ⟨o, φ1, h2 _ (List.mem_singleton.2 rfl), hoe ▸ .ret, ha1, hw1, E1⟩
  | cond c x y ihx ihy =>
    intro ro ro' φ H w a a' out h hw ha hro
    simp only [execC] at h
    split at h
    · cases h
    · rename_i hok
      have hev := ha.eval hw (x := c) (by simpa using hok) (fun _ _ h => h)
      split at h
      · rename_i hc
        rw [hc] at hev
        exact wpIn_cond_true hev.bool_inv (ihx h hw ha hro)
      · rename_i hc
        rw [hc] at hev
        exact wpIn_cond_false hev.bool_inv (ihy h hw ha hro)
      · cases h
  | block id c ih =>
    intro ro ro' φ H w a a' out h hw ha hro
    obtain ⟨l1, e1, hb⟩ := bind_inv h
    refine wpIn_block (wpIn_mono (ih e1 hw ha hro) ?_)
    rintro e a1 w1 ⟨o, φ1, ho, he, ha1, hw1, E1⟩
    obtain ⟨lo, h1, h2⟩ := hb o ho
    cases h1
    obtain ⟨oe, oa, oH⟩ := o
    simp only at he ha1 hw1 E1
    cases he with
    | normal => exact ⟨_, φ1, h2 _ (List.mem_singleton.2 rfl), .normal, ha1, hw1, E1⟩
    | goto => exact ⟨_, φ1, h2 _ (List.mem_singleton.2 rfl), .goto, ha1, hw1, E1⟩
    | ret => exact ⟨_, φ1, h2 _ (List.mem_singleton.2 rfl), .ret, ha1, hw1, E1⟩
    | exit =>
      rename_i id'
      simp only [Exit.inBlock]
      by_cases hid : id' = id
      · rw [if_pos hid]
        refine ⟨_, φ1, h2 _ (List.mem_singleton.2 rfl), ?_, ?_, ?_, ?_⟩ <;> simp only [blockA, hid, if_true]
        · exact .normal
        · exact ha1
        · exact hw1
        · exact E1
      · rw [if_neg hid]
        refine ⟨_, φ1, h2 _ (List.mem_singleton.2 rfl), ?_, ?_, ?_, ?_⟩ <;> simp only [blockA, hid, if_false]
        · exact .exit
        · exact ha1
        · exact hw1
        · exact E1
  | loop c ih =>
    intro ro ro' φ H w a a' out h hw ha hro
    refine wpIn_loop_n (fun m a1 w1 => ∃ aa HH φ1 lo, loopA (execC C R ro c) m aa HH = some lo ∧ (∀ x ∈ lo, x ∈ out) ∧ Rel C φ1 HH w1 ∧ ActR φ1 noSkips aa a1 ∧ Ext C φ H w φ1 HH w1) R.fuel ⟨a, H, φ, out, h, fun _ h => h, hw, ha, .refl⟩ ?_
    rintro m a1 w1 ⟨aa, HH, φ1, lo, h1, h2, h3, h4, h5⟩
    cases m with
    | zero => cases h1
    | succ m =>
      obtain ⟨l1, e1, hb⟩ := bind_inv h1
      refine wpIn_mono (ih e1 h3 h4 (hro.mono h5.phi)) ?_
      rintro e a2 w2 ⟨o, φ2, ho, he, ha2, hw2, E2⟩
      obtain ⟨lo2, k1, k2⟩ := hb o ho
      have E := h5.trans hw.fresh E2
      generalize hoe : o.e = x at he k1
      cases he with
      | normal => exact ⟨m, Nat.lt_succ_self m, o.a, o.H, φ2, lo2, k1, fun x hx => h2 x (k2 x hx), hw2, ha2, E⟩
      | exit => cases k1; exact ⟨o, φ2, h2 _ (k2 _ (List.mem_singleton.2 rfl)), hoe ▸ .exit, ha2, hw2, E⟩
      | goto => cases k1; exact ⟨o, φ2, h2 _ (k2 _ (List.mem_singleton.2 rfl)), hoe ▸ .goto, ha2, hw2, E⟩
      | ret => cases k1; exact ⟨o, φ2, h2 _ (k2 _ (List.mem_singleton.2 rfl)), hoe ▸ .ret, ha2, hw2, E⟩
  | scope c ih =>
    intro ro ro' φ H w a a' out h hw ha hro
    obtain ⟨l0, e0, hb0⟩ := bind_inv h
    have step : ∀ (m : Nat) (o : Out) (lo : List Out) (φ1 : Phi) (e : Exit) (a1 : Act) (w1 : World), scopeA R ro c m o = some lo → (∀ x ∈ lo, x ∈ out) → ER o.e e → ActR φ1 noSkips o.a a1 → Rel C φ1 o.H w1 → Ext C φ H w φ1 o.H w1 →
        scopePost c (fun l a2 w2 => ∃ i, i < m ∧ ∃ aa HH φ1 l1 rest, findLabel c l = some rest ∧ R.code ro rest aa HH = some l1 ∧ (∀ o' ∈ l1, ∃ lo, scopeA R ro c i o' = some lo ∧ ∀ x ∈ lo, x ∈ out) ∧ Rel C φ1 HH w2 ∧ ActR φ1 noSkips aa a2 ∧ Ext C φ H w φ1 HH w2)
          (codePost C φ H w out) e a1 w1 := by
      intro m o lo φ1 e a1 w1 hs hl he ha1 hw1 E1
      cases m with
      | zero => cases hs
      | succ m =>
        simp only [scopeA] at hs
        generalize hoe : o.e = x at he hs
        cases he with
        | normal => cases hs; exact ⟨o, φ1, hl _ (List.mem_singleton.2 rfl), hoe ▸ .normal, ha1, hw1, E1⟩
        | exit => cases hs; exact ⟨o, φ1, hl _ (List.mem_singleton.2 rfl), hoe ▸ .exit, ha1, hw1, E1⟩
        | ret => cases hs; exact ⟨o, φ1, hl _ (List.mem_singleton.2 rfl), hoe ▸ .ret, ha1, hw1, E1⟩
        | goto =>
          rename_i l
          simp only [scopePost]
          simp only at hs
          cases hf : findLabel c l with
          | none =>
            rw [hf] at hs
            cases hs
            exact ⟨o, φ1, hl _ (List.mem_singleton.2 rfl), hoe ▸ .goto, ha1, hw1, E1⟩
          | some rest =>
            rw [hf] at hs
            obtain ⟨l1, e1, hb1⟩ := bind_inv hs
            refine ⟨m, Nat.lt_succ_self m, o.a, o.H, φ1, l1, rest, rfl, e1, fun o' ho' => ?_, hw1, ha1, E1⟩
            obtain ⟨lo', k1, k2⟩ := hb1 o' ho'
            exact ⟨lo', k1, fun x hx => hl x (k2 x hx)⟩
    refine wpIn_scope_n (fun i l a2 w2 => ∃ aa HH φ1 l1 rest, findLabel c l = some rest ∧ R.code ro rest aa HH = some l1 ∧ (∀ o' ∈ l1, ∃ lo, scopeA R ro c i o' = some lo ∧ ∀ x ∈ lo, x ∈ out) ∧ Rel C φ1 HH w2 ∧ ActR φ1 noSkips aa a2 ∧ Ext C φ H w φ1 HH w2) ?_ ?_
    · refine wpIn_mono (ih e0 hw ha hro) ?_
      rintro e a1 w1 ⟨o, φ1, ho, he, ha1, hw1, E1⟩
      obtain ⟨lo, h1, h2⟩ := hb0 o ho
      have := step _ o lo φ1 e a1 w1 h1 h2 he ha1 hw1 E1
      cases e with
      | goto l =>
        simp only [scopePost] at this ⊢
        split
        · rename_i hs; rw [if_pos hs] at this; obtain ⟨i, _, hh⟩ := this; exact ⟨i, hh⟩
        · rename_i hs; rw [if_neg hs] at this; exact this
      | _ => exact this
    · rintro m l rest a1 w1 hf ⟨aa, HH, φ1, l1, rest', hf', k1, k2, k3, k4, k5⟩
      rw [hf] at hf'; cases hf'
      refine wpIn_mono (hR.code _ _ _ _ _ k1 φ1 w1 a1 ro' k3 k4 (hro.mono k5.phi)) ?_
      rintro e a2 w2 ⟨o, φ2, ho, he, ha2, hw2, E2⟩
      obtain ⟨lo, h1, h2⟩ := k2 o ho
      exact step _ o lo φ2 e a2 w2 h1 h2 he ha2 hw2 (k5.trans hw.fresh E2)
  | rangeFunc g ps assign body _ _ =>
    intro ro ro' φ H w a a' out h hw ha hro
    exact range_ok hR hK hw hro ha h

end Go.Abs

/-! The abstract machine: calls of functions, deferred calls; what it does stands for the model's; no condition. -/
namespace Go.Abs
variable {C : Cfg} {φ : Phi} {H : Heap} {w : World}

def resultA (P : Program) (tmps : List Value) (H : Heap) : ResultVar → Option Value
  | .tmp t => some (tmps.getD t undef)
  | .cell a t => match tmps.getD a undef with
    | .pointer (some ad) => loadA P H t ad
    | _ => none

def resultListA (P : Program) (tmps : List Value) (H : Heap) : List ResultVar → Option (List Value)
  | [] => some []
  | r :: rs => match resultA P tmps H r, resultListA P tmps H rs with
    | some v, some vs => some (v :: vs)
    | _, _ => none

def resultsA (P : Program) (fn : Func) (tmps : List Value) (H : Heap) : Option Value :=
  match resultListA P tmps H fn.results.toList with
  | some [v] => some v
  | some vs => some (.tuple vs.toArray)
  | none => none

def enterF (fn : Func) (args : List Value) : AAct := { tmps := args ++ List.replicate (fn.ntmps - args.length) undef, defers := [] }

/-- a deferred call of a function that begins with recover, on a way out without a panic -/
def deferA (C : Cfg) (R : Rec) (g : FuncId) (args : List Value) (H : Heap) : Res Heap :=
  match C.P.funcs[g]? with
  | some fn =>
    if fn.name == "runtime.NumGoroutine" then none else
    match fn.body with
    | some (.seq (.region _ ⟨[{ dst, op := .call { callee := .builtin .recover, .. }, guard := none, .. }]⟩ false) rest) =>
      (execC C R none rest ((enterF fn args).put dst .nilIface) H).bind fun o =>
        match o.e, o.a.defers with
        | .normal, [] | .ret, [] => match resultsA C.P fn o.a.tmps o.H with
          | some _ => some [o.H]
          | none => none
        | _, _ => none
    | _ => none
  | none => none

def leaveA (C : Cfg) (R : Rec) (fn : Func) (tmps : List Value) : List Deferred → Heap → Res (Value × Heap)
  | [], H => match resultsA C.P fn tmps H with
    | some v => some [(v, H)]
    | none => none
  | d :: ds, H => match d.target with
    | .collected b => match H.get b with
      | some (.defd true) => if b < G0 C.P then none else leaveA C R fn tmps ds (H.kill b)
      | _ => none
    | .fn (.func g) cap => (deferA C R g (d.args.toList ++ cap.toList) H).bind fun H' => leaveA C R fn tmps ds H'
    | _ => none

def callF (C : Cfg) (R : Rec) (f : FuncId) (args : List Value) (H : Heap) : Res (Value × Heap) :=
  match C.P.funcs[f]? with
  | some fn => match fn.body with
    | some c => (execC C R none c (enterF fn args) H).bind fun o =>
      match o.e with
      | .normal | .ret => leaveA C R fn o.a.tmps o.a.defers o.H
      | _ => none
    | none => none
  | none => none

def recN (C : Cfg) (fuel : Nat) : Nat → Rec
  | 0 => { fuel, call := fun _ _ _ => none, code := fun _ _ _ _ => none }
  | n + 1 => { fuel, call := callF C (recN C fuel n), code := execC C (recN C fuel n) }

/-! ### Sound -/
theorem result_ok (hw : Rel C φ H w) {t : List Value} {t' : Array Value} (ht : VRs φ t t'.toList) {f : ResultVar → Sem Value} (hf : ∀ t, f (.tmp t) = pure (t'.getD t undef))
    (hf2 : ∀ a t, f (.cell a t) = do loadVar t (← asAddr (t'.getD a undef))) {r : ResultVar} {v : Value} (h : resultA C.P t H r = some v) :
    ∃ v', (f r).run C.P w = .ok v' w ∧ VR φ v v' := by
  cases r with
  | tmp x =>
    cases h
    refine ⟨_, by rw [hf]; rfl, ?_⟩
    rw [array_getD]
    exact ht.getD x
  | cell a ty =>
    simp only [resultA] at h
    split at h
    · rename_i ad ha
      have h1 := ht.getD a
      rw [ha, ← array_getD] at h1
      obtain ⟨ad', e, h2⟩ := h1.ptr_inv
      obtain ⟨v', h3, h4⟩ := loadVar_ok hw h2 h
      exact ⟨v', by rw [hf2]; simp [e, asAddr, h3], h4⟩
    · cases h

theorem resultList_ok (hw : Rel C φ H w) {t : List Value} {t' : Array Value} (ht : VRs φ t t'.toList) {f : ResultVar → Sem Value} (hf : ∀ t, f (.tmp t) = pure (t'.getD t undef))
    (hf2 : ∀ a t, f (.cell a t) = do loadVar t (← asAddr (t'.getD a undef))) : ∀ (rs : List ResultVar) {vs : List Value}, resultListA C.P t H rs = some vs →
    ∃ vs', (rs.mapM f).run C.P w = .ok vs' w ∧ VRs φ vs vs'
  | [], vs, h => by
    cases h
    exact ⟨[], by simp, .nil⟩
  | r :: rs, vs, h => by
    simp only [resultListA] at h
    split at h
    · rename_i v vs1 h1 h2
      cases h
      obtain ⟨v', h3, h4⟩ := result_ok hw ht hf hf2 h1
      obtain ⟨vs', h5, h6⟩ := resultList_ok hw ht hf hf2 rs h2
      refine ⟨v' :: vs', ?_, .cons h4 h6⟩
      rw [List.mapM_cons]
      simp only [Sem.run_bind]
      rw [h3]
      simp only [Result.andThen_ok, h5, Sem.run_pure]
    · cases h

theorem results_ok (hw : Rel C φ H w) {fn : Func} {t : List Value} {t' : Array Value} (ht : VRs φ t t'.toList) {v : Value} (h : resultsA C.P fn t H = some v) :
    ∃ v', (results fn t').run C.P w = .ok v' w ∧ VR φ v v' := by
  unfold resultsA at h
  unfold results
  rw [Array.mapM_eq_mapM_toList]
  split at h
  · rename_i v1 h1
    cases h
    obtain ⟨vs', h2, h3⟩ := resultList_ok hw ht (f := fun r => match r with | .tmp t => pure (t'.getD t undef) | .cell a t => do loadVar t (← asAddr (t'.getD a undef))) (fun _ => rfl) (fun _ _ => rfl) _ h1
    cases h3 with
    | cons h4 h5 =>
      cases h5
      rename_i v'
      refine ⟨v', ?_, h4⟩
      simp only [map_eq_pure_bind, bind_assoc, pure_bind, Sem.run_bind]
      refine (congrArg (fun r : Result (List Value) => r.andThen _) h2).trans ?_
      rfl
  · rename_i vs hne h1
    cases h
    obtain ⟨vs', h2, h3⟩ := resultList_ok hw ht (f := fun r => match r with | .tmp t => pure (t'.getD t undef) | .cell a t => do loadVar t (← asAddr (t'.getD a undef))) (fun _ => rfl) (fun _ _ => rfl) _ h1
    refine ⟨.tuple vs'.toArray, ?_, .tuple h3⟩
    have hl := h3.length
    have hs : ¬ vs'.toArray.size = 1 := by
      intro e
      simp at e
      rw [← hl] at e
      obtain ⟨x, hx⟩ := List.length_eq_one_iff.1 e
      exact hne x hx
    simp only [map_eq_pure_bind, bind_assoc, pure_bind, Sem.run_bind]
    refine (congrArg (fun r : Result (List Value) => r.andThen _) h2).trans ?_
    simp only [Result.andThen_ok, hs, dite_false, Sem.run_pure]
  · cases h

theorem enterF_rel {fn : Func} {args args' : List Value} (h : VRs φ args args') : ActR φ noSkips (enterF fn args) { tmps := args'.toArray ++ Array.replicate (fn.ntmps - args'.toArray.size) undef, defers := [] } := by
  refine .of ?_ .nil
  simp only [enterF, Array.toList_append, List.toList_toArray, Array.toList_replicate, List.size_toArray, ← h.length]
  exact h.append (VRs.replicate undef_rel _)

theorem defer_ok {R : Rec} (hR : RecOk C R) (hK : ∀ g ∈ C.K, g < G0 C.P) (hw : Rel C φ H w) {g : FuncId} {args args' : List Value} {out : List Heap} (ha : VRs φ args args') (h : deferA C R g args H = some out) :
    (∃ fn, C.P.funcs[g]? = some fn ∧ (fn.name == "runtime.NumGoroutine") = false ∧ fn.body.isSome = true) ∧
    CallsDIn Fence.wide 0 C.P g args'.toArray .returning w fun e u' w' => match e with
      | .returned _ => u' = .returning ∧ ∃ H' φ', H' ∈ out ∧ Rel C φ' H' w' ∧ Ext C φ H w φ' H' w'
      | _ => False := by
  unfold deferA at h
  split at h
  · rename_i fn hfn
    split at h
    · cases h
    · rename_i hname
      split at h
      · rename_i id dst oargs oat oty opos oafter rest hbody
        refine ⟨⟨fn, hfn, by simpa using hname, by rw [hbody]; rfl⟩, ?_⟩
        obtain ⟨l1, e1, hb⟩ := bind_inv h
        apply callsDIn_of_wpSIn hfn hbody trivial
        intro c₀ cs hu
        apply wpSIn_seq
        apply wpSIn_region
        have hact := enterF_rel (fn := fn) ha
        have hact2 := hact.put dst (v := .nilIface) (v' := .nilIface) (.scalar rfl)
        have hrec : recoverD (c₀ :: cs) = none := by simp [recoverD, hu]
        have hrun : ∀ ρ, (execOp ρ { dst, op := .call { callee := .builtin .recover, args := oargs, argTypes := oat }, type := oty, pos := opos, after := oafter, guard := none }).run C.P w = .ok .recover w := fun ρ => by
          simp [execOp, resolve, invoke, builtin]
        have hrange : List.range (Array.size ⟨[({ dst, op := .call { callee := .builtin .recover, args := oargs, argTypes := oat }, type := oty, pos := opos, after := oafter, guard := none } : Oper)]⟩) = [0] := rfl
        rw [hrange]
        simp only [wpOpsSIn, List.getElem?_toArray, List.getElem?_cons_zero, Region.wanted, if_true, hrun, hrec]
        refine ⟨fun _ _ => trivial, ?_⟩
        have hc := code_ok hR hK rest e1 hw hact2 (.none (φ := φ))
        refine wpSIn_of_wpIn rfl (wpIn_mono hc ?_)
        rintro e a1 w1 ⟨o, φ1, ho, he, ha1, hw1, E1⟩
        obtain ⟨lo, h1, h2⟩ := hb o ho
        have fin : ∀ {v}, resultsA C.P fn o.a.tmps o.H = some v → o.a.defers = [] → lo = [o.H] → a1.defers = [] ∧ ∃ u', c₀ :: cs = { c₀ with mode := u' } :: cs ∧ ∃ v, (results fn a1.tmps).run C.P w1 = .ok v w1 ∧ (u' = .returning ∧ ∃ H' φ', H' ∈ out ∧ Rel C φ' H' w1 ∧ Ext C φ H w φ' H' w1) := fun {v} hv hd hlo => by
          have hdd := ha1.defers
          rw [hd] at hdd
          obtain ⟨v', k1, _⟩ := results_ok hw1 ha1.all hv
          refine ⟨?_, .returning, by rw [← hu], v', k1, rfl, o.H, φ1, h2 _ (by rw [hlo]; exact List.mem_singleton.2 rfl), hw1, E1⟩
          generalize a1.defers = dd at hdd
          cases hdd
          rfl
        split at h1
        · rename_i hoe hd
          rw [hoe] at he
          cases he
          split at h1
          · rename_i v hv
            cases h1
            exact fin hv hd rfl
          · cases h1
        · rename_i hoe hd
          rw [hoe] at he
          cases he
          split at h1
          · rename_i v hv
            cases h1
            exact fin hv hd rfl
          · cases h1
        · cases h1
      · cases h
  · cases h

theorem callPost.more {l l' : List (Value × Heap)} (hl : ∀ x ∈ l, x ∈ l') {e : Ending} {w' : World} (h : callPost C φ H w l e w') : callPost C φ H w l' e w' := by
  cases e with
  | returned v =>
    obtain ⟨x, φ'', h1, h2, h3, h4⟩ := h
    exact ⟨x, φ'', hl x h1, h2, h3, h4⟩
  | panicked c => exact h.elim
  | outgrown => exact h.elim

theorem leaves_mono {F : Fence} {n : Nat} {P : Program} {fn : Func} {t : Array Value} {Q Q' : Ending → World → Prop} (hq : ∀ e w, Q e w → Q' e w) : ∀ (ds : List Deferred) {u : FrameMode} {w : World}, LeavesInM F n P fn t Q ds u w → LeavesInM F n P fn t Q' ds u w
  | [], u, w, h => by
    cases u with
    | run => exact h.elim
    | returning => obtain ⟨v, h1, h2⟩ := h; exact ⟨v, h1, hq _ _ h2⟩
    | panicking c => exact hq _ _ h
  | d :: ds, u, w, h => by
    obtain ⟨h0, h⟩ := h
    refine ⟨h0, ?_⟩
    rcases h with ⟨r, w', h1, h2, h3⟩ | ⟨h1, fv, cap, f, args, h2, h3, h4, h5⟩
    · exact .inl ⟨r, w', h1, h2, leaves_mono hq ds h3⟩
    · refine .inr ⟨h1, fv, cap, f, args, h2, h3, h4, h5.mono fun e u' w' he => ?_⟩
      cases e with
      | returned v => exact leaves_mono hq ds he
      | panicked c => exact leaves_mono hq ds he
      | outgrown => exact hq _ _ he

theorem leave_ok {R : Rec} (hR : RecOk C R) (hK : ∀ g ∈ C.K, g < G0 C.P) {fn : Func} {φ0 : Phi} {H0 : Heap} {w0 : World} (hw0 : Rel C φ0 H0 w0) : ∀ (ds : List Deferred) {ds' : List Deferred} {φ : Phi} {H : Heap} {w : World} {t : List Value} {t' : Array Value} {out : List (Value × Heap)},
    Rel C φ H w → Ext C φ0 H0 w0 φ H w → VRs φ t t'.toList → MRs φ ds ds' → leaveA C R fn t ds H = some out → LeavesInM Fence.wide 0 C.P fn t' (callPost C φ0 H0 w0 out) ds' .returning w
  | [], ds', φ, H, w, t, t', out, hw, E, ht, hd, h => by
    cases hd
    simp only [leaveA] at h
    split at h
    · rename_i v hv
      cases h
      obtain ⟨v', h1, h2⟩ := results_ok hw ht hv
      exact ⟨v', h1, _, φ, List.mem_singleton.2 rfl, h2, hw, E⟩
    · cases h
  | d :: ds, ds', φ, H, w, t, t', out, hw, E, ht, hd, h => by
    cases hd with
    | cons h1 h2 =>
      rename_i d' dd'
      refine ⟨by simp, ?_⟩
      cases h1 with
      | mark hm =>
        rename_i r r' x x'
        simp only [leaveA] at h
        split at h
        · rename_i hg
          split at h
          · cases h
          rename_i hG
          left
          cases hm with
          | scalar h => simp [Abs.scalar] at h
          | map hφ =>
            obtain ⟨o', k1, k2⟩ := hw.live _ _ _ _ _ hφ hg
            simp only [OR, if_true] at k2
            subst k2
            have hset := set_facts (o' := .deferred none) k1
            obtain ⟨q1, q2⟩ := hw.setObj (o := .defd false) (by rw [hg]; simp) hφ (show OR C.P φ _ _ (.defd false) (.deferred none) from rfl) hset.1 hset.2.1 hset.2.2
            obtain ⟨q3, q4, q5⟩ := q1.kill (b := r) (by simp) (Nat.le_of_not_lt hG) hK (by rw [hφ]; rfl)
            rw [Heap.kill_put] at q3 q5
            exact ⟨r', _, rfl, run_takeDeferred k1, leave_ok hR hK hw0 ds q3 (E.trans hw0.fresh (q2.trans hw.fresh q5)) (ht.mono q4) (h2.mono q4) h⟩
          | mapDead hφ => rw [hw.dead _ hφ] at hg; cases hg
        · cases h
      | call hdr =>
        obtain ⟨g, cap, cap', e1, e2, hc, hargs⟩ := hdr
        simp only [leaveA, e1] at h
        obtain ⟨l1, e3, hb⟩ := bind_inv h
        obtain ⟨⟨fn', k1, k2, k3⟩, k4⟩ := defer_ok hR hK hw (hargs.append hc) e3
        right
        refine ⟨fun h => (by cases h), .func g, cap', g, (d'.args.toList ++ cap'.toList).toArray, e2, ?_, fun _ _ => trivial, ?_⟩
        · rw [e2]
          have e : (d'.args.toList ++ cap'.toList).toArray = d'.args ++ cap' := by apply Array.ext'; simp
          rw [e]
          exact run_enter k1 k2 k3
        · refine k4.mono fun e u' w' he => ?_
          cases e with
          | returned v =>
            obtain ⟨rfl, H', φ', m1, m2, m3⟩ := he
            obtain ⟨lo, m4, m5⟩ := hb H' m1
            have := leave_ok hR hK hw0 ds m2 (E.trans hw0.fresh m3) (ht.mono m3.phi) (h2.mono m3.phi) m4
            exact leaves_mono (fun e w' he => callPost.more m5 he) _ this
          | panicked c => exact he.elim
          | outgrown => exact he.elim

theorem callF_ok {R : Rec} (hR : RecOk C R) (hK : ∀ g ∈ C.K, g < G0 C.P) {f : FuncId} {args : List Value} {out : List (Value × Heap)} (h : callF C R f args H = some out) :
    ∃ fn, C.P.funcs[f]? = some fn ∧ fn.body.isSome = true ∧ ∀ φ w args', Rel C φ H w → VRs φ args args' → CallsIn Fence.wide 0 C.P f args'.toArray w (callPost C φ H w out) := by
  unfold callF at h
  split at h
  · rename_i fn hfn
    split at h
    · rename_i c hc
      refine ⟨fn, hfn, by rw [hc]; rfl, fun φ w args' hw ha => ?_⟩
      obtain ⟨l1, e1, hb⟩ := bind_inv h
      apply callsIn_of_wp_marks hfn hc trivial
      refine wpIn_mono (code_ok hR hK c e1 hw (enterF_rel ha) (.none (φ := φ))) ?_
      rintro e a1 w1 ⟨o, φ1, ho, he, ha1, hw1, E1⟩
      obtain ⟨lo, h1, h2⟩ := hb o ho
      generalize o.e = x at he h1
      cases he with
      | normal => exact leaves_mono (fun e w' he => callPost.more h2 he) _ (leave_ok hR hK hw _ hw1 E1 ha1.all ha1.defers h1)
      | ret => exact leaves_mono (fun e w' he => callPost.more h2 he) _ (leave_ok hR hK hw _ hw1 E1 ha1.all ha1.defers h1)
      | exit => cases h1
      | goto => cases h1
    · cases h
  · cases h

theorem recN_ok (hK : ∀ g ∈ C.K, g < G0 C.P) (fuel : Nat) : ∀ n, RecOk C (recN C fuel n)
  | 0 => ⟨fun _ _ _ _ h => (by cases h), fun _ _ _ _ _ h => (by cases h)⟩
  | n + 1 => ⟨fun _ _ _ _ h => callF_ok (recN_ok hK fuel n) hK h, fun _ c _ _ _ h _ _ _ _ hw ha hro => code_ok (recN_ok hK fuel n) hK c h hw ha hro⟩

end Go.Abs

/-! Writing down the abstract machine's states, and comparing with them; no condition. -/
namespace Go.Abs

def sameEs : List MapEntry → List MapEntry → Bool
  | [], [] => true
  | x :: l, y :: m => sameV x.key y.key && sameV x.val y.val && x.born == y.born && sameEs l m
  | _, _ => false

theorem sameEs_eq : ∀ (l m : List MapEntry), sameEs l m = true → l = m
  | [], [], _ => rfl
  | [], _ :: _, h => by cases h
  | _ :: _, [], h => by cases h
  | x :: l, y :: m, h => by
    simp only [sameEs, Bool.and_eq_true, beq_iff_eq] at h
    obtain ⟨⟨⟨h1, h2⟩, h3⟩, h4⟩ := h
    obtain ⟨a, b, c⟩ := x; obtain ⟨a', b', c'⟩ := y
    simp only at h1 h2 h3
    rw [sameV_eq _ _ h1, sameV_eq _ _ h2, h3, sameEs_eq l m h4]

def sameB : Option AObj → Option AObj → Bool
  | none, none => true
  | some (.cells vs e s), some (.cells vs' e' s') => sameVs vs vs' && e == e' && s == s'
  | some (.map es c), some (.map es' c') => sameEs es es' && c == c'
  | some (.iter m s x l), some (.iter m' s' x' l') => m == m' && s == s' && x == x' && l == l'
  | some (.defd b), some (.defd b') => b == b'
  | _, _ => false

theorem sameB_eq (a b : Option AObj) (h : sameB a b = true) : a = b := by
  unfold sameB at h
  split at h
  · rfl
  · simp only [Bool.and_eq_true, beq_iff_eq] at h
    rw [sameVs_eq _ _ h.1.1, h.1.2, h.2]
  · simp only [Bool.and_eq_true, beq_iff_eq] at h
    rw [sameEs_eq _ _ h.1, h.2]
  · simp only [Bool.and_eq_true, beq_iff_eq] at h
    rw [h.1.1.1, h.1.1.2, h.1.2, h.2]
  · simp only [beq_iff_eq] at h
    rw [h]
  · cases h

def sameT : T → T → Bool
  | .leaf, .leaf => true
  | .node l v r, .node l' v' r' => sameT l l' && sameB v v' && sameT r r'
  | _, _ => false

theorem sameT_eq : ∀ (a b : T), sameT a b = true → a = b
  | .leaf, .leaf, _ => rfl
  | .leaf, .node .., h => by cases h
  | .node .., .leaf, h => by cases h
  | .node l v r, .node l' v' r', h => by
    simp only [sameT, Bool.and_eq_true] at h
    rw [sameT_eq l l' h.1.1, sameB_eq v v' h.1.2, sameT_eq r r' h.2]

def sameH (a b : Heap) : Bool := a.next == b.next && sameT a.t b.t

theorem sameH_eq {a b : Heap} (h : sameH a b = true) : a = b := by
  simp only [sameH, Bool.and_eq_true, beq_iff_eq] at h
  obtain ⟨n, t⟩ := a; obtain ⟨n', t'⟩ := b
  simp only at h
  rw [h.1, sameT_eq _ _ h.2]

def sameE : AExit → AExit → Bool
  | .normal, .normal => true
  | .ret, .ret => true
  | .exit i, .exit j => i == j
  | _, _ => false

theorem sameE_eq (a b : AExit) (h : sameE a b = true) : a = b := by
  cases a <;> cases b <;> simp [sameE] at h <;> first | rfl | rw [h]

/-- one outcome, without deferred calls: this one -/
def outIs (r : Res Out) (e : AExit) (t : List Value) (H : Heap) : Bool :=
  match r with
  | some [o] => sameE o.e e && sameVs o.a.tmps t && o.a.defers.isEmpty && sameH o.H H
  | _ => false

theorem outIs_eq {r : Res Out} {e : AExit} {t : List Value} {H : Heap} (h : outIs r e t H = true) : r = some [⟨e, ⟨t, []⟩, H⟩] := by
  unfold outIs at h
  split at h
  · rename_i o
    simp only [Bool.and_eq_true] at h
    obtain ⟨⟨⟨h1, h2⟩, h3⟩, h4⟩ := h
    obtain ⟨oe, ⟨ot, od⟩, oH⟩ := o
    simp only at h1 h2 h3 h4
    cases od with
    | nil => rw [sameE_eq _ _ h1, sameVs_eq _ _ h2, sameH_eq h4]
    | cons => cases h3
  · cases h

def opsIs (r : Res (AAct × Heap)) (t : List Value) (H : Heap) : Bool :=
  match r with
  | some [o] => sameVs o.1.tmps t && o.1.defers.isEmpty && sameH o.2 H
  | _ => false

theorem opsIs_eq {r : Res (AAct × Heap)} {t : List Value} {H : Heap} (h : opsIs r t H = true) : r = some [(⟨t, []⟩, H)] := by
  unfold opsIs at h
  split at h
  · rename_i o
    simp only [Bool.and_eq_true] at h
    obtain ⟨⟨h2, h3⟩, h4⟩ := h
    obtain ⟨⟨ot, od⟩, oH⟩ := o
    simp only at h2 h3 h4
    cases od with
    | nil => rw [sameVs_eq _ _ h2, sameH_eq h4]
    | cons => cases h3
  · cases h

def callIs (r : Res (Value × Heap)) (v : Value) (H : Heap) : Bool :=
  match r with
  | some [o] => sameV o.1 v && sameH o.2 H
  | _ => false

theorem callIs_eq {r : Res (Value × Heap)} {v : Value} {H : Heap} (h : callIs r v H = true) : r = some [(v, H)] := by
  unfold callIs at h
  split at h
  · rename_i o
    simp only [Bool.and_eq_true] at h
    obtain ⟨h1, h2⟩ := h
    obtain ⟨ov, oH⟩ := o
    simp only at h1 h2
    rw [sameV_eq _ _ h1, sameH_eq h2]
  · cases h

/-! ### Short words -/
abbrev vN : T → Option AObj → T → T := .node
abbrev vL : T := .leaf
def vc (l : List Value) (e : Nat) : Option AObj := some (.cells l e false)
def vs (l : List Value) (e : Nat) : Option AObj := some (.cells l e true)
def vm (l : List MapEntry) (c : Nat) : Option AObj := some (.map l c)
def ve (k v : Value) (b : Nat) : MapEntry := { key := k, val := v, born := b }
def vi (n : Int) : Value := .int .i64 n
def vu (n : Int) : Value := .int .u64 n
def v4 (n : Int) : Value := .int .u32 n
def v8 (n : Int) : Value := .int .u8 n
def vt : Value := .bool true
def vf : Value := .bool false
def vx : Value := .tuple #[]
def vp (b o : Nat) : Value := .pointer (some ⟨b, o, none⟩)
def v0 : Value := .pointer none
def vz : Value := .slice none 0 0
def vl (b o n c : Nat) : Value := .slice (some ⟨b, o, none⟩) n c
def vo (b o n c : Nat) : Value := .slice (some ⟨b, o, none⟩) n (18446744073709551616 + c)
def vg (l : List UInt8) : Value := .string ⟨l.toArray⟩
def vF (f : Nat) (x y : List Value) : Value := .func (.func f) x.toArray y.toArray
def va (l : List Value) : Value := .agg l.toArray
def vT (l : List Value) : Value := .tuple l.toArray
def vq (r : Nat) : Value := .map (some r)
def vQ : Value := .map none
end Go.Abs
