/- An abstract machine over the model: heaps of numbered blocks, no draws; whatever it does stands for what the model does; no condition. -/
import Derived.RangeFuncLeaves
import Derived.RecoverIn
import Derived.OrdersIn
import Derived.Laws.CopyRow
import Derived.Lib.FrozenHead
import Derived.Laws.Cells
import Derived.IntWalk
/-! The abstract machine: the model's operations over a heap of numbered blocks, without draws; no condition. -/
namespace Go.Abs

/-- A capacity from OPEN on says: at least so many places; how many is not known. -/
def OPEN : Nat := 18446744073709551616

inductive AObj where
  | cells (vs : List Value) (elem : TypeId) (str : Bool)
  | map (es : List MapEntry) (clock : Nat)
  | iter (m : Option Nat) (since : Nat) (seen : List Nat) (last : Nat)
  | loop (l : Loop)
  | defd (open_ : Bool)
  deriving Inhabited

inductive T where
  | leaf
  | node (l : T) (v : Option AObj) (r : T)

def T.get : T → Nat → Option AObj
  | .leaf, _ => none
  | .node l v r, k => if k = 0 then v else if k % 2 = 1 then l.get (k / 2) else r.get (k / 2 - 1)

def T.set : Nat → T → Nat → Option AObj → T
  | 0, t, _, _ => t
  | f + 1, .leaf, k, o =>
    if k = 0 then .node .leaf o .leaf else if k % 2 = 1 then .node (T.set f .leaf (k / 2) o) none .leaf else .node .leaf none (T.set f .leaf (k / 2 - 1) o)
  | f + 1, .node l v r, k, o =>
    if k = 0 then .node l o r else if k % 2 = 1 then .node (T.set f l (k / 2) o) v r else .node l v (T.set f r (k / 2 - 1) o)

structure Heap where
  next : Nat
  t : T

def Heap.get (H : Heap) (b : Nat) : Option AObj := H.t.get b
def Heap.put (H : Heap) (b : Nat) (o : AObj) : Heap := { H with t := T.set (b + 1) H.t b (some o) }
def Heap.kill (H : Heap) (b : Nat) : Heap := { H with t := T.set (b + 1) H.t b none }
def Heap.new (H : Heap) (o : AObj) : Heap := { next := H.next + 1, t := T.set (H.next + 1) H.t H.next (some o) }

theorem T.get_set : ∀ (f : Nat) (t : T) (k k' : Nat) (o : Option AObj), k < f → (T.set f t k o).get k' = if k' = k then o else t.get k'
  | 0, _, _, _, _, h => absurd h (Nat.not_lt_zero _)
  | f + 1, .leaf, k, k', o, h => by
    unfold T.set
    by_cases h0 : k = 0
    · subst h0
      by_cases h1 : k' = 0
      · subst h1; simp [T.get]
      · simp only [if_true, T.get, h1, if_false]; split <;> rfl
    · simp only [h0, if_false]
      by_cases h2 : k % 2 = 1
      · simp only [h2, if_true, T.get]
        by_cases h1 : k' = 0
        · subst h1; simp; omega
        · simp only [h1, if_false]
          by_cases h3 : k' % 2 = 1
          · simp only [h3, if_true]
            rw [T.get_set f _ _ _ _ (by omega)]
            by_cases h4 : k' = k
            · simp [h4]
            · have : k' / 2 ≠ k / 2 := by omega
              simp [h4, this, T.get]
          · have : k' ≠ k := by omega
            simp [h3, this, T.get]
      · simp only [h2, if_false, T.get]
        by_cases h1 : k' = 0
        · subst h1; simp; omega
        · simp only [h1, if_false]
          by_cases h3 : k' % 2 = 1
          · have : k' ≠ k := by omega
            simp [h3, this, T.get]
          · simp only [h3, if_false]
            rw [T.get_set f _ _ _ _ (by omega)]
            by_cases h4 : k' = k
            · simp [h4]
            · have : k' / 2 - 1 ≠ k / 2 - 1 := by omega
              simp [h4, this, T.get]
  | f + 1, .node l v r, k, k', o, h => by
    unfold T.set
    by_cases h0 : k = 0
    · subst h0
      by_cases h1 : k' = 0
      · subst h1; simp [T.get]
      · simp only [if_true, T.get, h1, if_false]
    · simp only [h0, if_false]
      by_cases h2 : k % 2 = 1
      · simp only [h2, if_true, T.get]
        by_cases h1 : k' = 0
        · subst h1; simp; omega
        · simp only [h1, if_false]
          by_cases h3 : k' % 2 = 1
          · simp only [h3, if_true]
            rw [T.get_set f _ _ _ _ (by omega)]
            by_cases h4 : k' = k
            · simp [h4]
            · have : k' / 2 ≠ k / 2 := by omega
              simp [h4, this]
          · have : k' ≠ k := by omega
            simp [h3, this]
      · simp only [h2, if_false, T.get]
        by_cases h1 : k' = 0
        · subst h1; simp; omega
        · simp only [h1, if_false]
          by_cases h3 : k' % 2 = 1
          · have : k' ≠ k := by omega
            simp [h3, this]
          · simp only [h3, if_false]
            rw [T.get_set f _ _ _ _ (by omega)]
            by_cases h4 : k' = k
            · simp [h4]
            · have : k' / 2 - 1 ≠ k / 2 - 1 := by omega
              simp [h4, this]

@[simp] theorem Heap.get_put (H : Heap) (b b' : Nat) (o : AObj) : (H.put b o).get b' = if b' = b then some o else H.get b' := T.get_set _ _ _ _ _ (by omega)
@[simp] theorem Heap.get_kill (H : Heap) (b b' : Nat) : (H.kill b).get b' = if b' = b then none else H.get b' := T.get_set _ _ _ _ _ (by omega)
@[simp] theorem Heap.get_new (H : Heap) (b' : Nat) (o : AObj) : (H.new o).get b' = if b' = H.next then some o else H.get b' := T.get_set _ _ _ _ _ (by omega)
@[simp] theorem Heap.next_put (H : Heap) (b : Nat) (o : AObj) : (H.put b o).next = H.next := rfl
@[simp] theorem Heap.next_kill (H : Heap) (b : Nat) : (H.kill b).next = H.next := rfl
@[simp] theorem Heap.next_new (H : Heap) (o : AObj) : (H.new o).next = H.next + 1 := rfl

/-- No address in it. -/
def scalar : Value → Bool
  | .bool _ | .int _ _ | .float _ _ | .complex _ _ _ | .string _ | .nilFunc | .nilIface | .pointer none | .slice none _ _ | .map none => true
  | _ => false

def constOk : Value → Bool
  | .agg cs | .tuple cs => cs.toList.all scalar
  | v => scalar v

/-- a cell: what may be stored -/
def isCell : Value → Bool
  | .agg _ | .tuple _ => false
  | _ => true

/-! ### Types -/
def tagg (P : Program) (t : TypeId) : Option Bool :=
  match P.underlying t with
  | some (.struct _) | some (.array _ _) => some true
  | some _ => some false
  | none => none

def tsize (P : Program) (t : TypeId) : Option Nat := (P.info? t).map (·.size)
def tbytes (P : Program) (t : TypeId) : Option Nat := (P.info? t).map (·.bytes)
/-- the zero value's cells -/
def tzero (P : Program) (t : TypeId) : Option Value :=
  match (P.info? t).bind (·.zero) with
  | some z => if constOk z then some z else none
  | none => none

def partA (P : Program) (t : TypeId) (cs : List Value) (off : Nat) : Option Value :=
  match tagg P t, tsize P t with
  | some true, some n => some (.agg ((cs.drop off).take n).toArray)
  | some false, _ => cs[off]?
  | _, _ => none

/-! ### Memory -/
def loadN (H : Heap) (a : Addr) (n : Nat) : Option (List Value) :=
  if n = 0 then some [] else
  if a.spot.isSome then none else
  match H.get a.block with
  | some (.cells vs _ _) => if a.off + n ≤ vs.length then some ((vs.drop a.off).take n) else none
  | _ => none

def storeN (H : Heap) (a : Addr) (xs : List Value) : Option Heap :=
  if xs.isEmpty then some H else
  if a.spot.isSome || !xs.all isCell then none else
  match H.get a.block with
  | some (.cells vs e s) => if a.off + xs.length ≤ vs.length then some (H.put a.block (.cells (vs.take a.off ++ xs ++ vs.drop (a.off + xs.length)) e s)) else none
  | _ => none

def loadA (P : Program) (H : Heap) (t : TypeId) (a : Addr) : Option Value :=
  match tagg P t, tsize P t with
  | some true, some n => (loadN H a n).map fun l => .agg l.toArray
  | some false, _ => match loadN H a 1 with | some [v] => some v | _ => none
  | _, _ => none

def storeA (P : Program) (H : Heap) (t : TypeId) (a : Addr) (v : Value) : Option Heap :=
  if tsize P t = some v.cells.size then storeN H a v.cells.toList else none

/-! ### Arithmetic -/
def intBin (op : BinOp) (k : IntKind) (a b : Int) : Option Value :=
  match op with
  | .add => some (.int k (k.wrap (a + b)))
  | .sub => some (.int k (k.wrap (a - b)))
  | .mul => some (.int k (k.wrap (a * b)))
  | .quo => if b = 0 then none else some (.int k (k.wrap (a.tdiv b)))
  | .rem => if b = 0 then none else some (.int k (a.tmod b))
  | .and => some (.int k (k.wrap (BitVec.ofInt k.bits a &&& BitVec.ofInt k.bits b).toNat))
  | .or => some (.int k (k.wrap (BitVec.ofInt k.bits a ||| BitVec.ofInt k.bits b).toNat))
  | .xor => some (.int k (k.wrap (BitVec.ofInt k.bits a ^^^ BitVec.ofInt k.bits b).toNat))
  | .andNot => some (.int k (k.wrap (BitVec.ofInt k.bits a &&& ~~~BitVec.ofInt k.bits b).toNat))
  | .eql => some (.bool (a == b))
  | .neq => some (.bool (a != b))
  | .lss => some (.bool (a < b))
  | .leq => some (.bool (a ≤ b))
  | .gtr => some (.bool (a > b))
  | .geq => some (.bool (a ≥ b))
  | _ => none

def shiftA (op : BinOp) (k : IntKind) (a b : Int) : Option Value :=
  if b < 0 then none else
  match op with
  | .shl => some (.int k (k.wrap (a * 2 ^ min b.toNat k.bits)))
  | .shr => some (.int k (a.fdiv (2 ^ min b.toNat k.bits)))
  | _ => none

def strBin (op : BinOp) (x y : ByteArray) : Option Value :=
  match op with
  | .add => if x.size + y.size ≤ 4611686018427387904 then some (.string (x ++ y)) else none
  | .eql => some (.bool (x.toList == y.toList))
  | .neq => some (.bool !(x.toList == y.toList))
  | .lss => some (.bool (Op.bytesLess x.toList y.toList))
  | .leq => some (.bool (Op.bytesLess x.toList y.toList || x.toList == y.toList))
  | .gtr => some (.bool !(Op.bytesLess x.toList y.toList || x.toList == y.toList))
  | .geq => some (.bool !(Op.bytesLess x.toList y.toList))
  | _ => none

/-- Is it an ordinary block (no string's bytes)? -/
def ordinary (H : Heap) (b : Nat) : Bool :=
  match H.get b with
  | some (.cells _ _ false) => true
  | _ => false

def all2 (f : Value → Value → Option Bool) : List (Value × Value) → Option Bool
  | [] => some true
  | (x, y) :: r => match f x y with
    | some true => all2 f r
    | some false => some false
    | none => none

/-- '==' -/
def eqA (P : Program) (H : Heap) : Nat → TypeId → Value → Value → Option Bool
  | 0, _, _, _ => none
  | d + 1, t, x, y =>
    match P.underlying t, x, y with
    | some .bool, .bool a, .bool b => some (a == b)
    | some (.int _), .int k a, .int k' b => if k = k' then some (a == b) else none
    | some .string, .string a, .string b => some (a == b)
    | some (.pointer _), .pointer none, .pointer b => some b.isNone
    | some (.pointer _), .pointer (some _), .pointer none => some false
    | some (.pointer e), .pointer (some a), .pointer (some b) =>
      match tsize P e with
      | some (_ + 1) =>
        if a.spot.isSome || b.spot.isSome || !ordinary H a.block || !ordinary H b.block then none
        else some (a.block == b.block && a.off == b.off)
      | _ => none
    | some (.interface _), .nilIface, .nilIface => some true
    | some (.interface _), .nilIface, .iface _ _ | some (.interface _), .iface _ _, .nilIface => some false
    | some (.struct fields), .agg xs, .agg ys =>
      if P.stoodInHeld t then none else
      fields.toList.foldr (fun f acc =>
        if f.name = "_" then acc else
        match partA P f.type xs.toList f.offset, partA P f.type ys.toList f.offset with
        | some u, some v => match eqA P H d f.type u v with
          | some true => acc
          | r => r
        | _, _ => none) (some true)
    | some (.array len elem), .agg xs, .agg ys =>
      match tsize P elem with
      | some n => (List.range len).foldr (fun i acc =>
        match partA P elem xs.toList (i * n), partA P elem ys.toList (i * n) with
        | some u, some v => match eqA P H d elem u v with
          | some true => acc
          | r => r
        | _, _ => none) (some true)
      | none => none
    | some (.slice _), .slice none _ _, .slice b _ _ => some b.isNone
    | some (.slice _), .slice (some _) _ _, .slice none _ _ => some false
    | some (.map _ _), .map none, .map b => some b.isNone
    | some (.map _ _), .map (some _), .map none => some false
    | some (.func _ _ _), .nilFunc, .nilFunc => some true
    | some (.func _ _ _), .nilFunc, .func _ _ _ | some (.func _ _ _), .func _ _ _, .nilFunc => some false
    | _, _, _ => none

/-- does '==' ask nothing of its two operands (two nil values of an interface type)? -/
def eqGuardA (P : Program) (t : TypeId) (x y : Operand) (a b : Value) : Bool :=
  match a, b with
  | .nilIface, .nilIface => (x matches .const _) || (y matches .const _)
  | .agg _, .agg _ => !P.eqGuardType P.depth t
  | _, _ => true

def binA (P : Program) (H : Heap) (op : BinOp) (t : TypeId) (x y : Operand) (a b : Value) : Option Value :=
  match a, b with
  | .int k m, .int k' n =>
    match op with
    | .shl | .shr => shiftA op k m n
    | _ => if k = k' then intBin op k m n else none
  | .string m, .string n => strBin op m n
  | a, b =>
    match op with
    | .eql => if eqGuardA P t x y a b then (eqA P H Op.maxDepth t a b).map .bool else none
    | .neq => if eqGuardA P t x y a b then (eqA P H Op.maxDepth t a b).map (.bool !·) else none
    | _ => none

def unA (op : UnOp) (x : Value) : Option Value :=
  match op, x with
  | .neg, .int k n => some (.int k (k.wrap (0 - n)))
  | .xor, .int k n => intBin .xor k (if k.signed then -1 else k.max) n
  | .not, .bool b => some (.bool !b)
  | _, _ => none

/-! ### Slices -/
/-- the places that are surely there -/
def sureCap (c : Nat) : Nat := if c < OPEN then c else c - OPEN
/-- a capacity that is less by l -/
def lessCap (c l : Nat) : Nat := c - l

def intOf? : Value → Option Int
  | .int _ n => some n
  | _ => none

def boundA (x : Value) (y : Nat) : Option Nat :=
  match x with
  | .int _ i => if 0 ≤ i ∧ i ≤ (y : Int) then some i.toNat else none
  | _ => none

/-- low, high, and the new capacity -/
def boundsA (len cap : Nat) (low high max : Option Value) : Option (Nat × Nat × Nat) :=
  match max with
  | some mx =>
    match boundA mx (sureCap cap), high with
    | some m, some hv => if OPEN ≤ m then none else match boundA hv m with
      | some h => match low with
        | some lv => (boundA lv h).map fun l => (l, h, m - l)
        | none => some (0, h, m)
      | none => none
    | _, _ => none
  | none =>
    match (match high with | some hv => boundA hv (sureCap cap) | none => some len) with
    | some h => match low with
      | some lv => (boundA lv h).map fun l => (l, h, cap - l)
      | none => some (0, h, cap)
    | none => none

def sliceA (P : Program) (t : TypeId) (x : Value) (low high max : Option Value) : Option Value :=
  match P.underlying t, x with
  | some (.string), .string s =>
    if max.isSome || OPEN ≤ s.size then none else
    match boundsA s.size s.size low high none with
    | some (l, h, _) => some (.string (s.extract l h))
    | none => none
  | some (.slice elem), .slice a len cap =>
    match boundsA len cap low high max, tsize P elem with
    | some (l, h, c), some size => if len ≤ sureCap cap && (a.isSome || cap < OPEN) then some (.slice (if c = 0 then a else a.map (·.add (l * size))) (h - l) c) else none
    | _, _ => none
  | some (.array n elem), .pointer (some a) =>
    match boundsA n n low high max, tsize P elem with
    | some (l, h, c), some size => if OPEN ≤ n then none else some (.slice (some (if c = 0 then a else a.add (l * size))) (h - l) c)
    | _, _ => none
  | _, _ => none

def indexAddrA (P : Program) (t : TypeId) (x ix : Value) : Option Value :=
  match ix with
  | .int _ i =>
    match P.underlying t, x with
    | some (.array len elem), .pointer (some a) =>
      match tsize P elem with
      | some n => if 0 ≤ i ∧ i < (len : Int) then some (.pointer (some (a.add (i.toNat * n)))) else none
      | none => none
    | some (.slice elem), .slice (some a) len _ =>
      match tsize P elem with
      | some n => if 0 ≤ i ∧ i < (len : Int) then some (.pointer (some (a.add (i.toNat * n)))) else none
      | none => none
    | _, _ => none
  | _ => none

def indexA (P : Program) (t : TypeId) (x ix : Value) : Option Value :=
  match ix with
  | .int _ i =>
    match P.underlying t, x with
    | some (.array len elem), .agg cs =>
      match tsize P elem with
      | some n => if 0 ≤ i ∧ i < (len : Int) then partA P elem cs.toList (i.toNat * n) else none
      | none => none
    | some .string, .string s => if 0 ≤ i then (s[i.toNat]?).map fun b => .int .u8 b.toNat else none
    | _, _ => none
  | _ => none

def fieldAddrA (P : Program) (s : TypeId) (x : Value) (i : Nat) : Option Value :=
  match P.underlying s, x with
  | some (.struct fields), .pointer (some a) =>
    match fields[i]? with
    | some f => match tsize P f.type with
      | some (_ + 1) => some (.pointer (some (a.add f.offset)))
      | _ => none
    | none => none
  | _, _ => none

def fieldA (P : Program) (s : TypeId) (x : Value) (i : Nat) : Option Value :=
  match P.underlying s, x with
  | some (.struct fields), .agg cs =>
    match fields[i]? with
    | some f => partA P f.type cs.toList f.offset
    | none => none
  | _, _ => none

def fillL (place : Nat → Option (Nat × Nat)) (cells : List Value) : List (Nat × Value) → Option (List Value)
  | [] => some cells
  | (i, v) :: rest =>
    match place i with
    | none => none
    | some (off, size) =>
      if v.cells.size ≠ size || off + v.cells.size > cells.length then none
      else fillL place (cells.take off ++ v.cells.toList ++ cells.drop (off + v.cells.size)) rest

def buildA (P : Program) (t : TypeId) (parts : List (Nat × Value)) : Option Value :=
  match tzero P t with
  | none => none
  | some z =>
    match P.underlying t with
    | some (.struct fields) =>
      if fields.toList.all (fun f => (tsize P f.type).isSome) then
        (fillL (fun i => (fields[i]?).bind fun f => (tsize P f.type).map fun n => (f.offset, n)) z.cells.toList parts).map fun l => .agg l.toArray
      else none
    | some (.array _ elem) =>
      match tsize P elem with
      | some size => (fillL (fun i => some (i * size, size)) z.cells.toList parts).map fun l => .agg l.toArray
      | none => none
    | _ => none

/-- so many zero values -/
def zeros (z : Value) : Nat → List Value
  | 0 => []
  | n + 1 => z.cells.toList ++ zeros z n

/-! ### Append, copy -/
def growA (P : Program) (elem : TypeId) (z : Value) (s : Value) (new : List Value) (n : Nat) (H : Heap) : Option (Value × Heap) :=
  match s, tsize P elem, tbytes P elem with
  | .slice base sLen sCap, some size, some bytes =>
    if (2 * (sLen + n) + 1024) * bytes > 281474976710656 ∨ new.length ≠ n * size ∨ z.cells.size ≠ size ∨ sLen + n > 4611686018427387904 then none else
    if sLen + n ≤ sureCap sCap then
      match base with
      | some a => (storeN H (a.add (sLen * size)) new).map fun H' => (.slice base (sLen + n) sCap, H')
      | none => if n = 0 then some (.slice base (sLen + n) sCap, H) else none
    else if sCap < OPEN then
      match (match base with | some a => loadN H a (sLen * size) | none => if sLen = 0 then some [] else none) with
      | some old => some (.slice (some ⟨H.next, 0, none⟩) (sLen + n) (OPEN + (sLen + n)), H.new (.cells (old ++ new) elem false))
      | none => none
    else
      match base with
      | some a =>
        match H.get a.block with
        | some (.cells vs e false) =>
          if sLen = sCap - OPEN ∧ a.off + sLen * size = vs.length ∧ e = elem ∧ a.spot = none ∧ P.globals.size + 8 ≤ a.block ∧ new.all isCell then
            some (.slice (some ⟨H.next, 0, none⟩) (sLen + n) (OPEN + (sLen + n)), (H.kill a.block).new (.cells (vs.drop a.off ++ new) elem false))
          else none
        | _ => none
      | none => none
  | _, _, _ => none

def lenA : Value → Option Nat
  | .slice _ n _ => some n
  | .string s => some s.size
  | _ => none

def firstA (size n : Nat) (H : Heap) : Value → Option (List Value)
  | .slice (some a) _ _ => loadN H a (n * size)
  | .slice none _ _ => some []
  | .string s => some ((s.extract 0 n).data.toList.map fun b => .int .u8 b.toNat)
  | _ => none

def appendA (P : Program) (argTypes : Array TypeId) (args : List Value) (H : Heap) : Option (Value × Heap) :=
  match argTypes[0]?, argTypes[1]?, args with
  | some sType, some xType, [s, x] =>
    match P.underlying sType, P.underlying xType with
    | some (.slice elem), some xd =>
      match tsize P elem, tbytes P elem, tzero P elem, xd, x with
      | some _, some bytes, some z, .int _, .int _ m =>
        if IntKind.i64.wrap m < 0 ∨ IntKind.i64.wrap m * bytes > 140737488355328 then none
        else growA P elem z s (zeros z (IntKind.i64.wrap m).toNat) (IntKind.i64.wrap m).toNat H
      | _, _, _, .int _, _ => none
      | some size, _, some z, _, x =>
        match lenA x with
        | some n => match firstA size n H x with
          | some new => growA P elem z s new n H
          | none => none
        | none => none
      | _, _, _, _, _ => none
    | _, _ => none
  | _, _, _ => none

def copyA (P : Program) (argTypes : Array TypeId) (args : List Value) (H : Heap) : Option (Value × Heap) :=
  match argTypes[0]?, args with
  | some dType, [.slice base dLen _, src] =>
    match P.underlying dType with
    | some (.slice elem) =>
      match lenA src, tsize P elem with
      | some m, some size =>
        match firstA size (Nat.min m dLen) H src with
        | some cells => match base with
          | some a => (storeN H a cells).map fun H' => (.int .i64 (Nat.min m dLen), H')
          | none => some (.int .i64 (Nat.min m dLen), H)
        | none => none
      | _, _ => none
    | _ => none
  | _, _ => none

/-! ### Maps -/
/-- a key whose check asks nothing -/
def keyOk (P : Program) : Nat → TypeId → Value → Bool
  | 0, _, _ => false
  | d + 1, t, v =>
    match P.underlying t, v with
    | some (.struct fields), .agg cs => fields.toList.all fun f => f.name == "_" || (match partA P f.type cs.toList f.offset with | some u => keyOk P d f.type u | none => false)
    | some .bool, .bool _ | some (.int _), .int _ _ | some .string, .string _ => true
    | _, _ => false

def findA (P : Program) (H : Heap) (t : TypeId) (k : Value) : List MapEntry → Nat → Option (Option (Nat × Value))
  | [], _ => some none
  | e :: es, i =>
    match eqA P H Op.maxDepth t k e.key with
    | some true => some (some (i, e.val))
    | some false => findA P H t k es (i + 1)
    | none => none

def mapOf (H : Heap) : Value → Option (List MapEntry)
  | .map none => some []
  | .map (some r) => match H.get r with
    | some (.map es _) => some es
    | _ => none
  | _ => none

def keyScalar (v : Value) : Bool := constOk v

def lookupA (P : Program) (t : TypeId) (x k : Value) (ok : Bool) (H : Heap) : Option Value :=
  match P.underlying t with
  | some (.map kt et) =>
    if keyOk P 8 kt k && keyScalar k then
      match mapOf H x, tzero P et with
      | some es, some z =>
        match findA P H kt k es 0 with
        | some (some (_, v)) => some (if ok then .tuple #[v, .bool true] else v)
        | some none => some (if ok then .tuple #[z, .bool false] else z)
        | none => none
      | _, _ => none
    else none
  | _ => none

def mapUpdateA (P : Program) (t : TypeId) (m k v : Value) (H : Heap) : Option Heap :=
  match P.underlying t, m with
  | some (.map kt _), .map (some r) =>
    if keyOk P 8 kt k && keyScalar k then
      match H.get r with
      | some (.map es clock) =>
        match findA P H kt k es 0 with
        | some (some (i, _)) =>
          if Instr.sameBits 10000 (((es[i]?).map (·.key)).getD k) k && keyScalar (((es[i]?).map (·.key)).getD k) then
            some (H.put r (.map (es.modify i fun e => { e with key := k, val := v }) clock))
          else none
        | some none => some (H.put r (.map (es ++ [{ key := k, val := v, born := clock }]) (clock + 1)))
        | none => none
      | _ => none
    else none
  | _, _ => none

def deleteA (P : Program) (argTypes : Array TypeId) (args : List Value) (H : Heap) : Option Heap :=
  match argTypes[0]?, args with
  | some t, [m, k] =>
    match P.underlying t with
    | some (.map kt _) =>
      if keyOk P 8 kt k && keyScalar k then
        match m with
        | .map none => some H
        | .map (some r) =>
          match H.get r with
          | some (.map es clock) =>
            match findA P H kt k es 0 with
            | some (some (i, _)) => some (H.put r (.map (es.eraseIdx i) clock))
            | some none => some H
            | none => none
          | _ => none
        | _ => none
      else none
    | _ => none
  | _, _ => none

/-! ### One operation -/
inductive ONext where
  | val (v : Value) (H : Heap)
  | skip (H : Heap)
  | call (f : FuncId) (args : List Value)
  | yield (l : Nat) (args : List Value)
  | defer (d : Deferred)
  | any (l : List (Value × Heap))

def one (H : Heap) (v : Option Value) : Option ONext := v.map fun v => .val v H

def bytesVal (s : ByteArray) : List Value := s.data.toList.map fun b => .int .u8 b.toNat

def toStr : List Value → ByteArray → Option ByteArray
  | [], acc => some acc
  | .int .u8 n :: r, acc => toStr r (acc.push (UInt8.ofNat n.toNat))
  | _ :: _, _ => none

def convA (P : Program) (src dst : TypeId) (x : Value) (H : Heap) : Option (Value × Heap) :=
  match P.underlying src, P.underlying dst, x with
  | some _, some (.int k), .int _ n => some (.int k (k.wrap n), H)
  | some .string, some .string, .string s => some (.string s, H)
  | some .string, some (.slice e), .string s =>
    match P.underlying e, tsize P e with
    | some (.int .u8), some 1 => some (.slice (some ⟨H.next, 0, none⟩) s.size (OPEN + s.size), H.new (.cells (bytesVal s) e true))
    | _, _ => none
  | some (.slice e), some .string, .slice a n _ =>
    match P.underlying e with
    | some (.int .u8) =>
      match a with
      | none => some (.string .empty, H)
      | some a => match loadN H a n with
        | some l => (toStr l .empty).map fun s => (.string s, H)
        | none => none
    | _ => none
  | _, _, _ => none

/-- a call of a function value -/
def callA (P : Program) (fv : Value) (args : List Value) : Option ONext :=
  match fv with
  | .func (.func f) first cap =>
    match P.funcs[f]? with
    | some fn => if fn.name == "runtime.NumGoroutine" then none else some (.call f (first.toList ++ args ++ cap.toList))
    | none => none
  | .func (.yield l) first cap => if first.isEmpty && cap.isEmpty then some (.yield l args) else none
  | _ => none

def lenOfA (P : Program) (t : TypeId) (x : Value) (H : Heap) : Option Value :=
  match P.underlying t, x with
  | some .string, .string s => some (.int .i64 s.size)
  | some (.slice _), .slice _ n _ => some (.int .i64 n)
  | some (.map _ _), x => (mapOf H x).map fun es => .int .i64 es.length
  | some (.array n _), _ => some (.int .i64 n)
  | _, _ => none

def minA (max : Bool) : Value → Value → Option Value
  | .int k x, .int _ y => some (.int k (if max then (if y > x then y else x) else (if y < x then y else x)))
  | _, _ => none

def nextMap (H : Heap) (it : Nat) : Option (List (Value × Heap)) :=
  match H.get it with
  | some (.iter none _ _ _) => some [(.tuple #[.bool false], H)]
  | some (.iter (some m) since seen last) =>
    match H.get m with
    | some (.map es clock) =>
      if !seen.isEmpty && !es.isEmpty && es.all (fun e => e.born ≥ last) then none else
      let left := es.filter fun e => !seen.contains e.born
      let old := left.filter fun e => e.born < since
      let new := left.filter fun e => e.born ≥ since
      some ((if old.isEmpty then [(.tuple #[.bool false], H)] else []) ++ (old ++ new).map fun e =>
        (.tuple #[.bool true, e.key, e.val], H.put it (.iter (some m) since (seen ++ [e.born]) clock)))
    | _ => none
  | _ => none

def opEval (P : Program) (ρ : Operand → Value) (o : Oper) (H : Heap) : Option ONext :=
  match o.op with
  | .move x | .assign x => some (.val (ρ x) H)
  | .pick c a b => match ρ c with
    | .bool t => some (.val (if t then ρ a else ρ b) H)
    | _ => none
  | .alloc e => match tzero P e with
    | some z => some (.val (.pointer (some ⟨H.next, 0, none⟩)) (H.new (.cells z.cells.toList e false)))
    | none => none
  | .box e x => some (.val (.pointer (some ⟨H.next, 0, none⟩)) (H.new (.cells (ρ x).cells.toList e false)))
  | .build t parts => one H (buildA P t (parts.toList.map fun (i, x) => (i, ρ x)))
  | .buildSlice t len parts => match P.underlying t with
    | some (.slice e) => match tsize P e, tzero P e with
      | some size, some z =>
        if len * size > 16777216 ∨ z.cells.size ≠ size ∨ OPEN ≤ len then none else
        match fillL (fun i => some (i * size, size)) (zeros z len) (parts.toList.map fun (i, x) => (i, ρ x)) with
        | some cells => some (.val (.slice (some ⟨H.next, 0, none⟩) len len) (H.new (.cells cells e false)))
        | none => none
      | _, _ => none
    | _ => none
  | .load t x => match ρ x with
    | .pointer (some a) => one H (loadA P H t a)
    | _ => none
  | .store t x v => match ρ x with
    | .pointer (some a) => (storeA P H t a (ρ v)).map .skip
    | _ => none
  | .nilCheck x => match ρ x with
    | .pointer (some a) => some (.val (.pointer (some a)) H)
    | .func (.func f) first cap => some (.val (.func (.func f) first cap) H)
    | .func (.yield l) first cap => some (.val (.func (.yield l) first cap) H)
    | _ => none
  | .binOp op t x y _ => one H (binA P H op t x y (ρ x) (ρ y))
  | .unOp op _ x => one H (unA op (ρ x))
  | .convert s d x => (convA P s d (ρ x) H).map fun (v, H') => .val v H'
  | .makeInterface t x => match P.underlying t with
    | some (.interface _) => none
    | some _ => some (.val (.iface t (ρ x)) H)
    | none => none
  | .makeFunc (.func f) first cap => some (.val (.func (.func f) (first.map ρ) (cap.map ρ)) H)
  | .makeMap _ none => some (.val (.map (some H.next)) (H.new (.map [] 0)))
  | .makeSlice t l c => match P.underlying t with
    | some (.slice e) => match tsize P e, tbytes P e, tzero P e, ρ l, ρ c with
      | some size, some bytes, some z, .int _ n, .int _ m =>
        if 0 ≤ n ∧ n ≤ m ∧ m * bytes ≤ 140737488355328 ∧ m ≤ 140737488355328 ∧ z.cells.size = size then
          some (.val (.slice (some ⟨H.next, 0, none⟩) n.toNat m.toNat) (H.new (.cells (zeros z m.toNat) e false)))
        else none
      | _, _, _, _, _ => none
    | _ => none
  | .slice t x lo hi mx => one H (sliceA P t (ρ x) (lo.map ρ) (hi.map ρ) (mx.map ρ))
  | .fieldAddr s x f => one H (fieldAddrA P s (ρ x) f)
  | .field s x f => one H (fieldA P s (ρ x) f)
  | .indexAddr t x i => one H (indexAddrA P t (ρ x) (ρ i))
  | .index t x i => one H (indexA P t (ρ x) (ρ i))
  | .lookup t x i ok => one H (lookupA P t (ρ x) (ρ i) ok H)
  | .mapUpdate t m k v | .insert t m k v => (mapUpdateA P t (ρ m) (ρ k) (ρ v) H).map .skip
  | .range t x => match P.underlying t, ρ x with
    | some (.map _ _), .map none => some (.val (.pointer (some ⟨H.next, 0, none⟩)) (H.new (.iter none 0 [] 0)))
    | some (.map _ _), .map (some m) => match H.get m with
      | some (.map _ clock) => some (.val (.pointer (some ⟨H.next, 0, none⟩)) (H.new (.iter (some m) clock [] clock)))
      | _ => none
    | _, _ => none
  | .next it false => match ρ it with
    | .pointer (some ⟨r, 0, none⟩) => (nextMap H r).map .any
    | _ => none
  | .extract x i => match ρ x with
    | .tuple vs => one H vs[i]?
    | _ => none
  | .call c =>
    match c.callee with
    | .value f => callA P (ρ f) (c.args.toList.map ρ)
    | .invoke _ _ => none
    | .builtin b =>
      let args := c.args.toList.map ρ
      match b with
      | .append => (appendA P c.argTypes args H).map fun (v, H') => .val v H'
      | .copy => (copyA P c.argTypes args H).map fun (v, H') => .val v H'
      | .delete => (deleteA P c.argTypes args H).map fun H' => .val (.tuple #[]) H'
      | .len => match c.argTypes[0]?, args with
        | some t, [x] => one H (lenOfA P t x H)
        | _, _ => none
      | .cap => match c.argTypes[0]?, args with
        | some t, [.slice _ _ n] => match P.underlying t with
          | some (.slice _) => if n < OPEN then some (.val (.int .i64 n) H) else none
          | _ => none
        | _, _ => none
      | .min => match args with
        | [x, y] => one H (minA false x y)
        | _ => none
      | .max => match args with
        | [x, y] => one H (minA true x y)
        | _ => none
      | _ => none
  | .defer c => match c.callee with
    | .value f => match ρ f with
      | .func (.func g) first cap => some (.defer { target := .fn (.func g) cap, args := first ++ c.args.map ρ })
      | _ => none
    | _ => none
  | _ => none

end Go.Abs

/-! The abstract machine: regions, code, calls; no condition. -/
namespace Go.Abs

structure AAct where
  tmps : List Value
  defers : List Deferred

def AAct.eval (a : AAct) : Operand → Value
  | .tmp t => a.tmps.getD t undef
  | .const v => v
  | .global g => .pointer (some ⟨g, 0, none⟩)
  | .func f => .func (.func f) #[] #[]

def AAct.put (a : AAct) (dst : Option Tmp) (v : Value) : AAct :=
  match dst with
  | some d => { a with tmps := a.tmps.set d v }
  | none => a

/-- may this operand be looked at? K: the variables that are known -/
def okOperand (K : List Nat) : Operand → Bool
  | .tmp _ => true
  | .const v => constOk v
  | .global g => K.contains g
  | .func _ => true

abbrev Res (α : Type) := Option (List α)

def Res.all {α β : Type} (f : α → Res β) : List α → Res β
  | [] => some []
  | a :: l => match f a, Res.all f l with
    | some r, some s => some (r ++ s)
    | _, _ => none

def Res.bind {α β : Type} (x : Res α) (f : α → Res β) : Res β :=
  match x with
  | none => none
  | some l => Res.all f l

inductive AExit where
  | normal
  | exit (id : Nat)
  | goto (l : Nat)
  | ret

structure Out where
  e : AExit
  a : AAct
  H : Heap

/-- What calls come to, and code; how many rounds a loop may have. -/
structure Rec where
  fuel : Nat
  call : FuncId → List Value → Heap → Res (Value × Heap)
  code : Option Nat → Code → AAct → Heap → Res Out

/-- K: the variables that are known. -/
structure Cfg where
  P : Program
  K : List Nat

def yieldedA (ops : Array Oper) (tmps : List Value) (j : Nat) : Option Bool :=
  match ((ops[j]?).bind (·.dst)).bind (tmps[·]?) with
  | some (.bool b) => some b
  | _ => none

def setAll : List Tmp → List Value → List Value → List Value
  | p :: ps, v :: vs, t => setAll ps vs (t.set p v)
  | _, _, t => t

/-- how a round of a range over a function ends: l is the loop's block -/
def endRoundA (l : Nat) (H : Heap) (jump : Option Code) : Res (Value × Heap) :=
  match H.get l with
  | some (.loop r) => some [(.bool jump.isNone, H.put l (.loop { r with state := if jump.isNone then .ready else .done, pending := jump }))]
  | _ => none

def jumpOf : AExit → Option Code
  | .normal => none
  | .ret => some .ret
  | .exit id => some (.exit id)
  | .goto g => some (.goto g)

/-- a round of a range over a function -/
def roundA (R : Rec) (l : Nat) (args : List Value) (H : Heap) : Res (Value × Heap) :=
  match H.get l with
  | some (.loop r) =>
    if args.length ≠ r.params.size then none else
    (R.code (some l) r.assign { tmps := setAll r.params.toList args r.tmps.toList, defers := [] } H).bind fun o =>
      match o.e, o.H.get l with
      | .normal, some (.loop r') =>
        if r'.state == .ready then
          (R.code (some l) r.body o.a (o.H.put l (.loop { r' with state := .busy }))).bind fun o' => endRoundA l o'.H (jumpOf o'.e)
        else none
      | _, _ => none
  | _ => none

/-- one operation, carried out -/
def stepA (C : Cfg) (R : Rec) (ro : Option Nat) (o : Oper) (a : AAct) (H : Heap) : Res (AAct × Heap) :=
  if !o.op.operands.toList.all (okOperand C.K) then none else
  match opEval C.P a.eval o H with
  | none => none
  | some (.val v H') => some [(a.put o.dst v, H')]
  | some (.skip H') => some [(a.put o.dst undef, H')]
  | some (.call f args) => (R.call f args H).bind fun x => some [(a.put o.dst x.1, x.2)]
  | some (.yield l args) => (roundA R l args H).bind fun x => some [(a.put o.dst x.1, x.2)]
  | some (.defer d) => if ro.isSome then none else some [({ a with defers := d :: a.defers }.put o.dst undef, H)]
  | some (.any l) => some (l.map fun x => (a.put o.dst x.1, x.2))

def opA (C : Cfg) (R : Rec) (ro : Option Nat) (ops : Array Oper) (i : Nat) (a : AAct) (H : Heap) : Res (AAct × Heap) :=
  match ops[i]? with
  | none => some [(a, H)]
  | some o => if Region.wanted o (yieldedA ops a.tmps) then stepA C R ro o a H else some [(a.put o.dst undef, H)]

def runOps (C : Cfg) (R : Rec) (ro : Option Nat) (ops : Array Oper) : List Nat → AAct → Heap → Res (AAct × Heap)
  | [], a, H => some [(a, H)]
  | i :: r, a, H => (opA C R ro ops i a H).bind fun x => runOps C R ro ops r x.1 x.2

end Go.Abs

/-! What relates the abstract machine's heap to the model's memory; no condition. -/
namespace Go.Abs

/-- What has become of an abstract block: it lies in block c, from cell sh on, with k places to spare; or nobody may look at it any more. -/
inductive Born where
  | live (c k sh : Nat)
  | dead

abbrev Phi := Nat → Option Born

/-- the capacity that stands for 'cap' where k places are to spare -/
def conc (cap k : Nat) : Nat := if cap < OPEN then cap else cap - OPEN + k

mutual
inductive VR (φ : Phi) : Value → Value → Prop where
  | scalar {v : Value} : scalar v = true → VR φ v v
  | ptr {a : Addr} {c k sh : Nat} : φ a.block = some (.live c k sh) → a.spot = none → VR φ (.pointer (some a)) (.pointer (some ⟨c, a.off + sh, none⟩))
  | ptrDead {a b : Addr} : φ a.block = some .dead → VR φ (.pointer (some a)) (.pointer (some b))
  | slice {a : Addr} {n cap c k sh : Nat} : φ a.block = some (.live c k sh) → a.spot = none →
      VR φ (.slice (some a) n cap) (.slice (some ⟨c, a.off + sh, none⟩) n (conc cap k))
  | sliceDead {a b : Addr} {n cap k : Nat} : φ a.block = some .dead → VR φ (.slice (some a) n cap) (.slice (some b) n (conc cap k))
  | sliceEnd {a b : Addr} {cap : Nat} {x : Born} : φ a.block = some x → cap = 0 ∨ cap = OPEN → VR φ (.slice (some a) 0 cap) (.slice (some b) 0 0)
  | map {r c k sh : Nat} : φ r = some (.live c k sh) → VR φ (.map (some r)) (.map (some c))
  | mapDead {r c : Nat} : φ r = some .dead → VR φ (.map (some r)) (.map (some c))
  | func {f : FuncId} {x x' y y' : Array Value} : VRs φ x.toList x'.toList → VRs φ y.toList y'.toList → VR φ (.func (.func f) x y) (.func (.func f) x' y')
  | yield {l c k sh : Nat} : φ l = some (.live c k sh) → VR φ (.func (.yield l) #[] #[]) (.func (.yield c) #[] #[])
  | yieldDead {l c : Nat} : φ l = some .dead → VR φ (.func (.yield l) #[] #[]) (.func (.yield c) #[] #[])
  | iface {t : TypeId} {v v' : Value} : VR φ v v' → VR φ (.iface t v) (.iface t v')
  | agg {x x' : Array Value} : VRs φ x.toList x'.toList → VR φ (.agg x) (.agg x')
  | tuple {x x' : Array Value} : VRs φ x.toList x'.toList → VR φ (.tuple x) (.tuple x')
inductive VRs (φ : Phi) : List Value → List Value → Prop where
  | nil : VRs φ [] []
  | cons {v v' : Value} {l l' : List Value} : VR φ v v' → VRs φ l l' → VRs φ (v :: l) (v' :: l')
end

/-- what was known is known still, but that blocks may have died -/
def Phi.le (φ φ' : Phi) : Prop := ∀ b x, φ b = some x → φ' b = some x ∨ φ' b = some .dead

theorem Phi.le_refl (φ : Phi) : φ.le φ := fun _ _ h => .inl h
theorem Phi.le_trans {φ φ' φ'' : Phi} (h : φ.le φ') (h' : φ'.le φ'') : φ.le φ'' := fun b x hx => by
  rcases h b x hx with h1 | h1
  · exact h' b x h1
  · rcases h' b _ h1 with h2 | h2
    · exact .inr h2
    · exact .inr h2

mutual
theorem VR.mono {φ φ' : Phi} (h : φ.le φ') : ∀ {v v' : Value}, VR φ v v' → VR φ' v v'
  | _, _, .scalar h1 => .scalar h1
  | _, _, .ptr h1 h2 => by exact (h _ _ h1).elim (fun h3 => .ptr h3 h2) (fun h3 => .ptrDead h3)
  | _, _, .ptrDead h1 => by rcases h _ _ h1 with h3 | h3 <;> exact .ptrDead h3
  | _, _, .slice h1 h2 => by exact (h _ _ h1).elim (fun h3 => .slice h3 h2) (fun h3 => .sliceDead h3)
  | _, _, .sliceDead h1 => by rcases h _ _ h1 with h3 | h3 <;> exact .sliceDead h3
  | _, _, .sliceEnd h0 h1 => by rcases h _ _ h0 with h3 | h3 <;> exact .sliceEnd h3 h1
  | _, _, .map h1 => by exact (h _ _ h1).elim (fun h3 => .map h3) (fun h3 => .mapDead h3)
  | _, _, .mapDead h1 => by rcases h _ _ h1 with h3 | h3 <;> exact .mapDead h3
  | _, _, .func h1 h2 => .func (VRs.mono h h1) (VRs.mono h h2)
  | _, _, .yield h1 => by exact (h _ _ h1).elim (fun h3 => .yield h3) (fun h3 => .yieldDead h3)
  | _, _, .yieldDead h1 => by rcases h _ _ h1 with h3 | h3 <;> exact .yieldDead h3
  | _, _, .iface h1 => .iface (VR.mono h h1)
  | _, _, .agg h1 => .agg (VRs.mono h h1)
  | _, _, .tuple h1 => .tuple (VRs.mono h h1)
theorem VRs.mono {φ φ' : Phi} (h : φ.le φ') : ∀ {l l' : List Value}, VRs φ l l' → VRs φ' l l'
  | _, _, .nil => .nil
  | _, _, .cons h1 h2 => .cons (VR.mono h h1) (VRs.mono h h2)
end

theorem VRs.length {φ : Phi} : ∀ {l l' : List Value}, VRs φ l l' → l.length = l'.length
  | _, _, .nil => rfl
  | _, _, .cons _ h => by simp [VRs.length h]

theorem VRs.append {φ : Phi} : ∀ {l l' m m' : List Value}, VRs φ l l' → VRs φ m m' → VRs φ (l ++ m) (l' ++ m')
  | _, _, _, _, .nil, h => h
  | _, _, _, _, .cons h1 h2, h => .cons h1 (VRs.append h2 h)

theorem VRs.take {φ : Phi} : ∀ (n : Nat) {l l' : List Value}, VRs φ l l' → VRs φ (l.take n) (l'.take n)
  | 0, _, _, _ => by simp [VRs.nil]
  | _ + 1, _, _, .nil => by simp [VRs.nil]
  | n + 1, _, _, .cons h1 h2 => by simp; exact .cons h1 (VRs.take n h2)

theorem VRs.drop {φ : Phi} : ∀ (n : Nat) {l l' : List Value}, VRs φ l l' → VRs φ (l.drop n) (l'.drop n)
  | 0, _, _, h => by simpa using h
  | _ + 1, _, _, .nil => by simp [VRs.nil]
  | n + 1, _, _, .cons h1 h2 => by simp; exact VRs.drop n h2

theorem VRs.get {φ : Phi} : ∀ {l l' : List Value} (i : Nat) {v : Value}, VRs φ l l' → l[i]? = some v → ∃ v', l'[i]? = some v' ∧ VR φ v v'
  | _, _, _, _, .nil, h => by simp at h
  | _, _, 0, _, .cons h1 h2, h => by simp at h; subst h; exact ⟨_, rfl, h1⟩
  | _, _, i + 1, _, .cons h1 h2, h => by simp at h; simpa using VRs.get i h2 h

theorem VRs.get_none {φ : Phi} {l l' : List Value} (i : Nat) (h : VRs φ l l') (hn : l[i]? = none) : l'[i]? = none := by
  have := h.length
  simp at hn ⊢
  omega

theorem VRs.set {φ : Phi} : ∀ {l l' : List Value} (i : Nat) {v v' : Value}, VRs φ l l' → VR φ v v' → VRs φ (l.set i v) (l'.set i v')
  | _, _, _, _, _, .nil, _ => by simp [VRs.nil]
  | _, _, 0, _, _, .cons _ h2, h => .cons h h2
  | _, _, i + 1, _, _, .cons h1 h2, h => .cons h1 (VRs.set i h2 h)

theorem VRs.replicate {φ : Phi} {v v' : Value} (h : VR φ v v') : ∀ n : Nat, VRs φ (List.replicate n v) (List.replicate n v')
  | 0 => .nil
  | n + 1 => .cons h (VRs.replicate h n)

theorem VRs.scalars {φ : Phi} : ∀ {l : List Value}, l.all scalar = true → VRs φ l l
  | [], _ => .nil
  | v :: l, h => by simp at h; exact .cons (.scalar h.1) (VRs.scalars (by simpa using h.2))

theorem VR.const {φ : Phi} {v : Value} (h : constOk v = true) : VR φ v v := by
  cases v with
  | agg cs => exact .agg (VRs.scalars h)
  | tuple cs => exact .tuple (VRs.scalars h)
  | _ => exact .scalar h

theorem VR.isCell {φ : Phi} {v v' : Value} (h : VR φ v v') : isCell v' = isCell v := by
  cases h <;> first | rfl | (rename_i h; cases v <;> first | rfl | simp [Abs.scalar] at h)

theorem VR.cells {φ : Phi} {v v' : Value} (h : VR φ v v') : VRs φ v.cells.toList v'.cells.toList := by
  cases h with
  | agg h => exact h
  | scalar h => cases v <;> first | (exact .cons (.scalar h) .nil) | (simp [Abs.scalar] at h)
  | ptr h1 h2 => exact .cons (.ptr h1 h2) .nil
  | ptrDead h1 => exact .cons (.ptrDead h1) .nil
  | slice h1 h2 => exact .cons (.slice h1 h2) .nil
  | sliceDead h1 => exact .cons (.sliceDead h1) .nil
  | sliceEnd h0 h1 => exact .cons (.sliceEnd h0 h1) .nil
  | map h1 => exact .cons (.map h1) .nil
  | mapDead h1 => exact .cons (.mapDead h1) .nil
  | func h1 h2 => exact .cons (.func h1 h2) .nil
  | yield h1 => exact .cons (.yield h1) .nil
  | yieldDead h1 => exact .cons (.yieldDead h1) .nil
  | iface h1 => exact .cons (.iface h1) .nil
  | tuple h1 => exact .cons (.tuple h1) .nil

theorem oneCell_eq (v : Value) : v.oneCell' = isCell v := by cases v <;> rfl

/-! ### Objects, memory -/
inductive ES (φ : Phi) : List MapEntry → List MapEntry → Prop where
  | nil : ES φ [] []
  | cons {e e' : MapEntry} {l l' : List MapEntry} : VR φ e.key e'.key → VR φ e.val e'.val → e.born = e'.born → ES φ l l' → ES φ (e :: l) (e' :: l')

theorem ES.mono {φ φ' : Phi} (h : φ.le φ') : ∀ {l l' : List MapEntry}, ES φ l l' → ES φ' l l'
  | _, _, .nil => .nil
  | _, _, .cons h1 h2 h3 h4 => .cons (h1.mono h) (h2.mono h) h3 (ES.mono h h4)

theorem ES.length {φ : Phi} : ∀ {l l' : List MapEntry}, ES φ l l' → l.length = l'.length
  | _, _, .nil => rfl
  | _, _, .cons _ _ _ h => by simp [ES.length h]

structure LR (φ : Phi) (l l' : Loop) : Prop where
  state : l'.state = l.state
  pending : l'.pending = l.pending
  params : l'.params = l.params
  assign : l'.assign = l.assign
  body : l'.body = l.body
  tmps : VRs φ l.tmps.toList l'.tmps.toList
  defers : VR φ (.map (some l.defers)) (.map (some l'.defers))

/-- An object, and what lies in memory for it. -/
def OR (P : Program) (φ : Phi) (k sh : Nat) : AObj → Obj → Prop
  | .cells vs e s, o => ∃ (arr : Array Value) (fr : Nat × Nat) (pre vs' post : List Value), o = .cells arr e fr ∧ arr.toList = pre ++ vs' ++ post ∧ pre.length = sh ∧ VRs φ vs vs' ∧
      post.length = k * P.cellsOf e ∧ (if s then arr.size ≤ fr.1 else fr = (0, 0))
  | .map es clock, o => ∃ es' : Array MapEntry, o = .map es' clock ∧ ES φ es es'.toList
  | .iter m since seen last, o => ∃ m' : Option Nat, o = .mapIter m' since seen.toArray last ∧ VR φ (.map m) (.map m') ∧ sh = 0
  | .loop l, o => ∃ l', o = .loop l' ∧ LR φ l l'
  | .defd b, o => o = .deferred (if b then some [] else none)

/-- may a block die? (not those of the variables, nor the model's own) -/
def G0 (P : Program) : Nat := P.globals.size + 8

structure Rel (C : Cfg) (φ : Phi) (H : Heap) (w : World) : Prop where
  live : ∀ b c k sh o, φ b = some (.live c k sh) → H.get b = some o → ∃ o', w.heap[c]? = some o' ∧ OR C.P φ k sh o o'
  dead : ∀ b, φ b = some .dead → H.get b = none
  inj : ∀ b b' c k sh k' sh', φ b = some (.live c k sh) → φ b' = some (.live c k' sh') → b = b'
  low : ∀ b c k sh, φ b = some (.live c k sh) → c < w.heap.size
  wf : ∀ b, H.next ≤ b → H.get b = none
  fresh : ∀ b, H.next ≤ b → φ b = none
  glob : ∀ g, g ∈ C.K → φ g = some (.live g 0 0)
  first : G0 C.P ≤ H.next

/-- What a part of a run keeps. -/
structure Ext (C : Cfg) (φ : Phi) (H : Heap) (w : World) (φ' : Phi) (H' : Heap) (w' : World) : Prop where
  mono : ∀ b x, φ b = some x → φ' b = some x ∨ (φ' b = some .dead ∧ G0 C.P ≤ b ∧ H.get b ≠ none)
  old : ∀ b, b < H.next → φ b = none → φ' b = none
  abs : ∀ b, b < H.next → H.get b = none → H'.get b = none
  le : H.next ≤ H'.next
  size : w.heap.size ≤ w'.heap.size
  frame : ∀ c, c < w.heap.size → (∀ b k sh, H.get b ≠ none → φ b ≠ some (.live c k sh)) → w'.heap[c]? = w.heap[c]?
  orig : ∀ b c k sh, H'.get b ≠ none → φ' b = some (.live c k sh) → w.heap.size ≤ c ∨ ∃ b0 k0 sh0, H.get b0 ≠ none ∧ φ b0 = some (.live c k0 sh0)
  os : w'.os = w.os
  output : w'.output = w.output
  tape : w'.tape = w.tape

theorem Ext.phi {C : Cfg} {φ φ' : Phi} {H H' : Heap} {w w' : World} (h : Ext C φ H w φ' H' w') : φ.le φ' := fun b x hx => (h.mono b x hx).imp id (·.1)

theorem Ext.refl {C : Cfg} {φ : Phi} {H : Heap} {w : World} : Ext C φ H w φ H w where
  mono := fun _ _ h => .inl h
  old := fun _ _ h => h
  abs := fun _ _ h => h
  le := Nat.le_refl _
  size := Nat.le_refl _
  frame := fun _ _ _ => rfl
  orig := fun b c k sh hb h => .inr ⟨b, k, sh, hb, h⟩
  os := rfl
  output := rfl
  tape := rfl

theorem Ext.trans {C : Cfg} {φ φ' φ'' : Phi} {H H' H'' : Heap} {w w' w'' : World} (hf : ∀ b, H.next ≤ b → φ b = none) (h : Ext C φ H w φ' H' w') (h' : Ext C φ' H' w' φ'' H'' w'') : Ext C φ H w φ'' H'' w'' where
  mono := fun b x hx => by
    have hlt : b < H.next := by
      rcases Nat.lt_or_ge b H.next with h1 | h1
      · exact h1
      · rw [hf b h1] at hx; cases hx
    rcases h.mono b x hx with h1 | ⟨h1, h2, h3⟩
    · rcases h'.mono b x h1 with h4 | ⟨h4, h5, h6⟩
      · exact .inl h4
      · exact .inr ⟨h4, h5, fun e => h6 (h.abs b hlt e)⟩
    · rcases h'.mono b _ h1 with h4 | ⟨h4, _, _⟩ <;> exact .inr ⟨h4, h2, h3⟩
  old := fun b hb h1 => h'.old b (Nat.lt_of_lt_of_le hb h.le) (h.old b hb h1)
  abs := fun b hb h1 => h'.abs b (Nat.lt_of_lt_of_le hb h.le) (h.abs b hb h1)
  le := Nat.le_trans h.le h'.le
  size := Nat.le_trans h.size h'.size
  frame := fun c hc hn => by
    rw [h'.frame c (Nat.lt_of_lt_of_le hc h.size) ?_, h.frame c hc hn]
    intro b k sh hb hf
    rcases h.orig b c k sh hb hf with h1 | ⟨b0, k0, sh0, h1, h2⟩
    · omega
    · exact hn b0 k0 sh0 h1 h2
  orig := fun b c k sh hb hf => by
    rcases h'.orig b c k sh hb hf with h1 | ⟨b0, k0, sh0, h1, h2⟩
    · exact .inl (Nat.le_trans h.size h1)
    · exact h.orig b0 c k0 sh0 h1 h2
  os := h'.os.trans h.os
  output := h'.output.trans h.output
  tape := h'.tape.trans h.tape

end Go.Abs

/-! The abstract machine's loads, stores and new blocks stand for the model's; no condition. -/
namespace Go.Abs
variable {C : Cfg} {φ : Phi} {H : Heap} {w : World}

theorem OR.mono {P : Program} {φ φ' : Phi} (h : φ.le φ') {k sh : Nat} {o : AObj} {o' : Obj} (ho : OR P φ k sh o o') : OR P φ' k sh o o' := by
  cases o with
  | cells vs e s => obtain ⟨arr, fr, pre, vs', post, h1, h2, h3, h4, h5⟩ := ho; exact ⟨arr, fr, pre, vs', post, h1, h2, h3, h4.mono h, h5⟩
  | map es clock => obtain ⟨es', h1, h2⟩ := ho; exact ⟨es', h1, h2.mono h⟩
  | iter m s x l => obtain ⟨m', h1, h2, h3⟩ := ho; exact ⟨m', h1, h2.mono h, h3⟩
  | loop l => obtain ⟨l', h1, h2⟩ := ho; exact ⟨l', h1, { h2 with tmps := h2.tmps.mono h, defers := h2.defers.mono h }⟩
  | defd b => exact ho

/-- addresses -/
inductive AR (φ : Phi) : Addr → Addr → Prop where
  | live {a : Addr} {c k sh : Nat} : φ a.block = some (.live c k sh) → a.spot = none → AR φ a ⟨c, a.off + sh, none⟩
  | dead {a b : Addr} : φ a.block = some .dead → AR φ a b

theorem VR.ptr_inv {v' : Value} {a : Addr} (h : VR φ (.pointer (some a)) v') : ∃ a', v' = .pointer (some a') ∧ AR φ a a' := by
  cases h with
  | scalar h => simp [Abs.scalar] at h
  | ptr h1 h2 => exact ⟨_, rfl, .live h1 h2⟩
  | ptrDead h1 => exact ⟨_, rfl, .dead h1⟩

theorem AR.ptr {a a' : Addr} (h : AR φ a a') : VR φ (.pointer (some a)) (.pointer (some a')) := by
  cases h with
  | live h1 h2 => exact .ptr h1 h2
  | dead h1 => exact .ptrDead h1

theorem add_mk (c o n : Nat) : (⟨c, o, none⟩ : Addr).add n = ⟨c, o + n, none⟩ := by unfold Addr.add; split <;> simp_all
theorem add_eq (a : Addr) (h : a.spot = none) (n : Nat) : a.add n = ⟨a.block, a.off + n, none⟩ := by
  obtain ⟨b, o, s⟩ := a; simp only at h; subst h; exact add_mk b o n
theorem add_block (a : Addr) (n : Nat) : (a.add n).block = a.block := by unfold Addr.add; split <;> rfl

theorem AR.add {a a' : Addr} (h : AR φ a a') (n : Nat) : AR φ (a.add n) (a'.add n) := by
  cases h with
  | live h1 h2 =>
    rename_i c k sh
    rw [add_eq a h2, add_mk]
    have := AR.live (a := ⟨a.block, a.off + n, none⟩) h1 rfl
    simpa [Nat.add_right_comm] using this
  | dead h1 => exact .dead (by rw [add_block]; exact h1)

theorem Rel.lt (R : Rel C φ H w) {b : Nat} {o : AObj} (h : H.get b = some o) : b < H.next := by
  rcases Nat.lt_or_ge b H.next with h1 | h1
  · exact h1
  · rw [R.wf b h1] at h; cases h

/-- A block of cells that is looked at. -/
theorem Rel.cells (R : Rel C φ H w) {a a' : Addr} (ha : AR φ a a') {vs : List Value} {e : TypeId} {s : Bool} (hg : H.get a.block = some (.cells vs e s)) :
    ∃ (c k sh : Nat) (arr : Array Value) (fr : Nat × Nat) (pre vs' post : List Value), φ a.block = some (.live c k sh) ∧ a.spot = none ∧ a' = ⟨c, a.off + sh, none⟩ ∧ a.block < H.next ∧
      w.heap[c]? = some (.cells arr e fr) ∧ arr.toList = pre ++ vs' ++ post ∧ pre.length = sh ∧ VRs φ vs vs' ∧ post.length = k * C.P.cellsOf e ∧ (if s then arr.size ≤ fr.1 else fr = (0, 0)) := by
  have hlt := R.lt hg
  cases ha with
  | live h1 h2 =>
    obtain ⟨o', h4, h5⟩ := R.live _ _ _ _ _ h1 hg
    obtain ⟨arr, fr, pre, vs', post, rfl, h6, h7, h8, h9, h10⟩ := h5
    exact ⟨_, _, _, arr, fr, pre, vs', post, h1, h2, rfl, hlt, h4, h6, h7, h8, h9, h10⟩
  | dead h1 => rw [R.dead _ h1] at hg; cases hg

theorem cell_of_list {w : World} {c : Nat} {arr : Array Value} {e : TypeId} {fr : Nat × Nat} (h : w.heap[c]? = some (.cells arr e fr)) (i : Nat) :
    w.cell? ⟨c, i, none⟩ = arr.toList[i]? := by simp [World.cell?, h]

theorem mid_get {pre mid post : List Value} (i : Nat) : (pre ++ mid ++ post)[pre.length + i]? = if i < mid.length then mid[i]? else post[i - mid.length]? := by
  rw [List.append_assoc, List.getElem?_append_right (Nat.le_add_right _ _), Nat.add_sub_cancel_left]
  split
  · rename_i h; rw [List.getElem?_append_left h]
  · rename_i h; rw [List.getElem?_append_right (by omega)]

theorem load_sound (R : Rel C φ H w) {a a' : Addr} {n : Nat} {vs : List Value} (ha : n = 0 ∨ AR φ a a') (h : loadN H a n = some vs) :
    ∃ vs', VRs φ vs vs' ∧ (loadCells a' n).run C.P w = .ok vs'.toArray w := by
  unfold loadN at h
  by_cases h0 : n = 0
  · subst h0
    simp at h; subst h
    exact ⟨[], .nil, rfl⟩
  · replace ha := ha.resolve_left h0
    simp only [h0, if_false] at h
    split at h
    · cases h
    · split at h
      · rename_i vs0 e s hg
        split at h
        · rename_i hlen
          simp only [Option.some.injEq] at h
          subst h
          obtain ⟨c, k, sh, arr, fr, pre, vs', post, h1, h2, rfl, hlt, h4, h6, h7, h8, h9, h10⟩ := R.cells ha hg
          have hl := h8.length
          refine ⟨(vs'.drop a.off).take n, (h8.drop _).take _, ?_⟩
          have hn : ((vs'.drop a.off).take n).length = n := by simp; omega
          have := run_loadCells_list (P := C.P) w ⟨c, a.off + sh, none⟩ ((vs'.drop a.off).take n) (fun j v hj => by
            have hjn : j < n := by
              have := (List.getElem?_eq_some_iff.1 hj).1
              omega
            rw [add_mk, cell_of_list h4, h6, show a.off + sh + j = pre.length + (a.off + j) by omega, mid_get, if_pos (by omega)]
            rw [List.getElem?_take_of_lt hjn, List.getElem?_drop] at hj
            exact hj)
          rw [hn] at this
          exact this
        · cases h
      · cases h

theorem isCell_all {xs xs' : List Value} (h : VRs φ xs xs') (ha : xs.all isCell = true) : ∀ v ∈ xs', v.oneCell' = true := by
  induction xs generalizing xs' with
  | nil => cases h; simp
  | cons x xs ih =>
    cases h with
    | cons h1 h2 =>
      simp only [List.all_cons, Bool.and_eq_true] at ha
      intro v hv
      rcases List.mem_cons.1 hv with rfl | hv
      · rw [oneCell_eq, h1.isCell]; exact ha.1
      · exact ih h2 ha.2 v hv

/-- Whatever one live block's object is turned into. -/
theorem Rel.setObj (R : Rel C φ H w) {b c k sh : Nat} {o : AObj} {o' : Obj} {heap : Array Obj} (hb : H.get b ≠ none) (hφ : φ b = some (.live c k sh)) (ho : OR C.P φ k sh o o')
    (hsz : heap.size = w.heap.size) (hc : heap[c]? = some o') (hoth : ∀ j, j ≠ c → heap[j]? = w.heap[j]?) :
    Rel C φ (H.put b o) { w with heap := heap } ∧ Ext C φ H w φ (H.put b o) { w with heap := heap } := by
  have hblt : b < H.next := by
    rcases Nat.lt_or_ge b H.next with h1 | h1
    · exact h1
    · exact absurd (R.wf b h1) hb
  refine ⟨⟨fun b1 c1 k1 sh1 o1 hf1 hg1 => ?_, fun b1 hd => ?_, R.inj, fun b1 c1 k1 sh1 hf1 => by have := R.low b1 c1 k1 sh1 hf1; simp only; omega, fun b1 hb1 => ?_, R.fresh, R.glob, R.first⟩,
    ⟨fun _ _ h => .inl h, fun _ _ h => h, fun b1 hb1 h1 => ?_, Nat.le_refl _, by simp only; omega, fun c1 hc1 hn => ?_, fun b1 c1 k1 sh1 hb1 h1 => .inr ⟨b1, k1, sh1, ?_, h1⟩, rfl, rfl, rfl⟩⟩
  · by_cases hbb : b1 = b
    · subst hbb
      rw [hφ] at hf1; cases hf1
      simp at hg1; subst hg1
      exact ⟨o', hc, ho⟩
    · simp [hbb] at hg1
      obtain ⟨p', h2, h3⟩ := R.live b1 c1 k1 sh1 o1 hf1 hg1
      refine ⟨p', ?_, h3⟩
      simp only
      rw [hoth c1 (fun hcc => hbb (R.inj b1 b c1 k1 sh1 k sh hf1 (hcc ▸ hφ)))]
      exact h2
  · have : b1 ≠ b := fun h => by subst h; rw [hφ] at hd; cases hd
    simp [this, R.dead b1 hd]
  · have : b1 ≠ b := fun h => by subst h; simp at hb1; omega
    simp at hb1
    simp [this, R.wf b1 hb1]
  · have : b1 ≠ b := fun h => by subst h; exact hb h1
    simp [this, h1]
  · simp only
    rw [hoth c1 (fun hcc => hn b k sh hb (hcc ▸ hφ))]
  · by_cases e : b1 = b
    · subst e; exact hb
    · simp [e] at hb1; exact hb1

theorem setRow_size (w : World) (g : Nat) (cs : Array Value) : (w.setRow g cs).heap.size = w.heap.size := by simp [World.setRow]

theorem setRow_eta (w : World) (g : Nat) (cs : Array Value) : { w with heap := (w.setRow g cs).heap } = w.setRow g cs := rfl

theorem run_storeCells_un (P : Program) (g o : Nat) (t : TypeId) (fz : Nat × Nat) : ∀ (vs : List Value) (i : Nat) (cur : Array Value) (w : World), w.heap[g]? = some (.cells cur t fz) →
    (∀ j, o + i ≤ j → j < cur.size → ¬ (fz.1 ≤ j ∧ j < fz.2)) → o + i + vs.length ≤ cur.size → (∀ v ∈ vs, v.oneCell' = true) →
    (storeCells ⟨g, o, none⟩ vs i).run P w = .ok () (w.setRow g (cur.toList.take (o + i) ++ vs ++ cur.toList.drop (o + i + vs.length)).toArray)
  | [], i, cur, w, hg, _, _, _ => by
    simp only [storeCells, List.append_nil, List.length_nil, Nat.add_zero, List.take_append_drop, Array.toArray_toList]
    rw [setRow_self w g cur t fz hg]
    rfl
  | v :: rest, i, cur, w, hg, hfz, hl, h1 => by
    have hi : o + i < cur.size := by simp at hl; omega
    have hcell : w.cell? ⟨g, o + i, none⟩ = some cur[o + i] := by simp [World.cell?, hg, hi]
    have hfro : w.frozen? ⟨g, o + i, none⟩ = false := by
      obtain ⟨lo, hi'⟩ := fz
      have := hfz (o + i) (Nat.le_refl _) hi
      simp only [World.frozen?, hg]
      simp only at this
      simp only [Bool.and_eq_false_iff, decide_eq_false_iff_not]
      omega
    have hst : (store ((⟨g, o, none⟩ : Addr).add i) v).run P w = .ok () (w.setRow g (cur.setIfInBounds (o + i) v)) := by
      rw [add_mk, run_store P w _ v _ (h1 v (by simp)), hcell]
      simp [hfro, setCell_eq_setRow w g (o + i) cur t fz v hg]
    have ih := run_storeCells_un P g o t fz rest (i + 1) (cur.setIfInBounds (o + i) v) (w.setRow g (cur.setIfInBounds (o + i) v)) (setRow_heap w g cur _ t _ hg)
      (fun j h1 h2 => hfz j (by omega) (by simpa using h2)) (by simp at hl ⊢; omega) (fun x hx => h1 x (by simp [hx]))
    simp only [storeCells, Sem.run_bind, hst, Result.andThen_ok, ih, setRow_setRow]
    congr 3
    apply List.ext_getElem?
    intro j
    simp only [Array.toList_setIfInBounds, List.length_cons]
    rw [show o + (i + 1) = o + i + 1 by omega, show o + i + 1 + rest.length = o + i + (rest.length + 1) by omega]
    have hlen : (List.take (o + i) cur.toList).length = o + i := by simp; omega
    have hlen2 : (List.take (o + i + 1) (cur.toList.set (o + i) v)).length = o + i + 1 := by simp; omega
    have hsplit : List.take (o + i + 1) (cur.toList.set (o + i) v) = List.take (o + i) cur.toList ++ [v] := by
      rw [List.take_succ_eq_append_getElem (by simpa using hi)]
      simp [List.take_set_of_le]
    have hdrop : List.drop (o + i + (rest.length + 1)) (cur.toList.set (o + i) v) = List.drop (o + i + (rest.length + 1)) cur.toList := by
      rw [List.drop_set_of_lt (by omega)]
    rw [hsplit, hdrop]
    simp

theorem store_sound (R : Rel C φ H w) {a a' : Addr} {xs xs' : List Value} {H' : Heap} (ha : xs = [] ∨ AR φ a a') (hx : VRs φ xs xs') (h : storeN H a xs = some H') :
    ∃ w', (storeCells a' xs').run C.P w = .ok () w' ∧ Rel C φ H' w' ∧ Ext C φ H w φ H' w' := by
  unfold storeN at h
  by_cases h0 : xs = []
  · subst h0
    cases hx
    simp at h; subst h
    exact ⟨w, rfl, R, .refl⟩
  · replace ha := ha.resolve_left h0
    have he : xs.isEmpty = false := by cases xs <;> simp_all
    simp only [he, Bool.false_eq_true, if_false] at h
    split at h
    · cases h
    · rename_i hc
      simp only [Bool.or_eq_true, Bool.not_eq_true', not_or, Bool.not_eq_false] at hc
      split at h
      · rename_i vs e s hg
        split at h
        · rename_i hlen
          simp only [Option.some.injEq] at h
          subst h
          obtain ⟨c, k, sh, arr, fr, pre, vs', post, h1, h2, rfl, hlt, h4, h6, h7, h8, h9, h10⟩ := R.cells ha hg
          have hl := h8.length
          have hxl := hx.length
          have hsz : arr.size = pre.length + vs'.length + post.length := by rw [← Array.length_toList, h6]; simp; omega
          have key : arr.toList.take (a.off + sh + 0) ++ xs' ++ arr.toList.drop (a.off + sh + 0 + xs'.length) = pre ++ (vs'.take a.off ++ xs' ++ vs'.drop (a.off + xs'.length)) ++ post := by
            rw [h6, List.append_assoc pre vs' post, Nat.add_zero, ← h7, show a.off + pre.length = pre.length + a.off by omega, List.take_append, List.take_of_length_le (by omega),
              show pre.length + a.off - pre.length = a.off by omega, show pre.length + a.off + xs'.length = pre.length + (a.off + xs'.length) by omega, List.drop_append, List.drop_of_length_le (by omega),
              show pre.length + (a.off + xs'.length) - pre.length = a.off + xs'.length by omega, List.take_append_of_le_length (by omega), List.drop_append_of_le_length (by omega)]
            simp
          have hrun : (storeCells ⟨c, a.off + sh, none⟩ xs').run C.P w = .ok () (w.setRow c (pre ++ (vs'.take a.off ++ xs' ++ vs'.drop (a.off + xs'.length)) ++ post).toArray) := by
            rw [← key]
            refine run_storeCells_un C.P c (a.off + sh) e fr xs' 0 arr w h4 (fun j _ h2 h3 => ?_) (by omega) (isCell_all hx hc.2)
            cases s
            · simp at h10; subst h10; simp at h3
            · simp only [if_true] at h10; omega
          refine ⟨_, hrun, ?_⟩
          have hset := setRow_heap w c arr (pre ++ (vs'.take a.off ++ xs' ++ vs'.drop (a.off + xs'.length)) ++ post).toArray e fr h4
          have := R.setObj (o := .cells (vs.take a.off ++ xs ++ vs.drop (a.off + xs.length)) e s) (heap := (w.setRow c (pre ++ (vs'.take a.off ++ xs' ++ vs'.drop (a.off + xs'.length)) ++ post).toArray).heap) (by rw [hg]; simp) h1
            ⟨_, fr, pre, vs'.take a.off ++ xs' ++ vs'.drop (a.off + xs'.length), post, rfl, by rw [List.toList_toArray], h7, by rw [hxl]; exact ((h8.take _).append hx).append (h8.drop _), h9, by
              cases s
              · exact h10
              · simp only [if_true] at h10 ⊢
                simp
                omega⟩
            (setRow_size _ _ _) hset (fun j hj => setRow_other w c j _ hj)
          exact this
        · cases h
      · cases h

/-- a world that differs in nothing but the count of draws -/
structure Alike (w w' : World) : Prop where
  heap : w'.heap = w.heap
  os : w'.os = w.os
  output : w'.output = w.output
  tape : w'.tape = w.tape

theorem Alike.refl (w : World) : Alike w w := ⟨rfl, rfl, rfl, rfl⟩
theorem Alike.draw (w : World) : Alike w { w with drawn := w.drawn + 1 } := ⟨rfl, rfl, rfl, rfl⟩

theorem Rel.alike (R : Rel C φ H w) {w' : World} (h : Alike w w') : Rel C φ H w' where
  live := fun b c k sh o hf hg => by rw [h.heap]; exact R.live b c k sh o hf hg
  dead := R.dead
  inj := R.inj
  low := fun b c k sh hf => by rw [h.heap]; exact R.low b c k sh hf
  wf := R.wf
  fresh := R.fresh
  glob := R.glob
  first := R.first

theorem Ext.alike {w' : World} (h : Alike w w') : Ext C φ H w φ H w' where
  mono := fun _ _ h => .inl h
  old := fun _ _ h => h
  abs := fun _ _ h => h
  le := Nat.le_refl _
  size := by rw [h.heap]; exact Nat.le_refl _
  frame := fun _ _ _ => by rw [h.heap]
  orig := fun b c k sh hb h => .inr ⟨b, k, sh, hb, h⟩
  os := h.os
  output := h.output
  tape := h.tape

def Phi.put (φ : Phi) (b : Nat) (x : Born) : Phi := fun b' => if b' = b then some x else φ b'

theorem Phi.put_same (φ : Phi) (b : Nat) (x : Born) : φ.put b x b = some x := by simp [Phi.put]
theorem Phi.put_other (φ : Phi) {b b' : Nat} (x : Born) (h : b' ≠ b) : φ.put b x b' = φ b' := by simp [Phi.put, h]
theorem Phi.le_put (φ : Phi) {b : Nat} (x : Born) (h : φ b = none) : φ.le (φ.put b x) := fun b' y hy => by
  have : b' ≠ b := fun e => by subst e; rw [h] at hy; cases hy
  exact .inl (by rw [Phi.put_other _ _ this]; exact hy)

theorem Rel.new (R : Rel C φ H w) {k sh : Nat} {o : AObj} {o' : Obj} {w' : World} (hh : w'.heap = w.heap.push o') (hos : w'.os = w.os) (hout : w'.output = w.output)
    (htape : w'.tape = w.tape) (ho : OR C.P (φ.put H.next (.live w.heap.size k sh)) k sh o o') :
    Rel C (φ.put H.next (.live w.heap.size k sh)) (H.new o) w' ∧ Ext C φ H w (φ.put H.next (.live w.heap.size k sh)) (H.new o) w' := by
  have hf := R.fresh H.next (Nat.le_refl _)
  have hle := φ.le_put (.live w.heap.size k sh) hf
  have hsz : w'.heap.size = w.heap.size + 1 := by rw [hh]; simp
  have hget : ∀ c, c < w.heap.size → w'.heap[c]? = w.heap[c]? := fun c hc => by
    rw [hh]; simp [Array.getElem?_push]; omega
  refine ⟨⟨fun b c k1 sh1 o1 h1 hg1 => ?_, fun b h1 => ?_, fun b b' c k1 sh1 k2 sh2 h1 h2 => ?_, fun b c k1 sh1 h1 => ?_, fun b hb => ?_, fun b hb => ?_, fun g hg => ?_, Nat.le_succ_of_le R.first⟩,
    ⟨fun b x hx => ?_, fun b h1 h2 => ?_, fun b hb h1 => ?_, Nat.le_succ _, by omega, fun c hc _ => hget c hc, fun b c k1 sh1 hb h1 => ?_, hos, hout, htape⟩⟩
  · by_cases hbn : b = H.next
    · subst hbn
      rw [Phi.put_same] at h1; cases h1
      simp at hg1; subst hg1
      exact ⟨o', by rw [hh]; simp, ho⟩
    · rw [Phi.put_other _ _ hbn] at h1
      simp [hbn] at hg1
      obtain ⟨p', h3, h4⟩ := R.live b c k1 sh1 o1 h1 hg1
      exact ⟨p', by rw [hget c (R.low _ _ _ _ h1)]; exact h3, h4.mono hle⟩
  · have hbn : b ≠ H.next := fun e => by subst e; rw [Phi.put_same] at h1; cases h1
    rw [Phi.put_other _ _ hbn] at h1
    simp [hbn, R.dead b h1]
  · by_cases hb : b = H.next <;> by_cases hb' : b' = H.next
    · rw [hb, hb']
    · subst hb; rw [Phi.put_same] at h1; cases h1
      rw [Phi.put_other _ _ hb'] at h2
      have := R.low _ _ _ _ h2; omega
    · subst hb'; rw [Phi.put_same] at h2; cases h2
      rw [Phi.put_other _ _ hb] at h1
      have := R.low _ _ _ _ h1; omega
    · rw [Phi.put_other _ _ hb] at h1; rw [Phi.put_other _ _ hb'] at h2
      exact R.inj _ _ _ _ _ _ _ h1 h2
  · by_cases hb : b = H.next
    · subst hb; rw [Phi.put_same] at h1; cases h1; omega
    · rw [Phi.put_other _ _ hb] at h1; have := R.low _ _ _ _ h1; omega
  · simp at hb
    have : b ≠ H.next := by omega
    simp [this, R.wf b (by omega)]
  · simp at hb
    rw [Phi.put_other _ _ (by omega)]; exact R.fresh b (by omega)
  · have := R.glob g hg
    have hn : g ≠ H.next := fun e => by subst e; rw [hf] at this; cases this
    rw [Phi.put_other _ _ hn]; exact this
  · have hn : b ≠ H.next := fun e => by subst e; rw [hf] at hx; cases hx
    exact .inl (by rw [Phi.put_other _ _ hn]; exact hx)
  · rw [Phi.put_other _ _ (by omega)]; exact h2
  · have : b ≠ H.next := by omega
    simp [this, h1]
  · by_cases hb' : b = H.next
    · subst hb'; rw [Phi.put_same] at h1; cases h1; exact .inl (Nat.le_refl _)
    · rw [Phi.put_other _ _ hb'] at h1
      exact .inr ⟨b, k1, sh1, by simpa [hb'] using hb, h1⟩

/-- A block is looked at no more. -/
theorem Rel.kill (R : Rel C φ H w) {b : Nat} (hb : H.get b ≠ none) (hg : G0 C.P ≤ b) (hK : ∀ g ∈ C.K, g < G0 C.P) (hs : (φ b).isSome) :
    Rel C (φ.put b .dead) (H.kill b) w ∧ φ.le (φ.put b .dead) ∧ Ext C φ H w (φ.put b .dead) (H.kill b) w := by
  have hblt : b < H.next := by
    rcases Nat.lt_or_ge b H.next with h1 | h1
    · exact h1
    · exact absurd (R.wf b h1) hb
  have hother : ∀ {b' c k sh}, φ.put b .dead b' = some (.live c k sh) → b' ≠ b ∧ φ b' = some (.live c k sh) := fun {b' c k sh} h => by
    by_cases e : b' = b
    · subst e; rw [Phi.put_same] at h; cases h
    · rw [Phi.put_other _ _ e] at h; exact ⟨e, h⟩
  have hle : φ.le (φ.put b .dead) := fun b' y hy => by
    by_cases e : b' = b
    · subst e; exact .inr (Phi.put_same _ _ _)
    · exact .inl (by rw [Phi.put_other _ _ e]; exact hy)
  obtain ⟨x, hx⟩ := Option.isSome_iff_exists.1 hs
  refine ⟨⟨fun b1 c k sh o1 h1 hg1 => ?_, fun b1 h1 => ?_, fun b1 b2 c k1 sh1 k2 sh2 h1 h2 => R.inj _ _ _ _ _ _ _ (hother h1).2 (hother h2).2, fun b1 c k sh h1 => R.low _ _ _ _ (hother h1).2, fun b1 hb1 => ?_, fun b1 hb1 => ?_, fun g hg' => ?_, R.first⟩, hle,
    ⟨fun b1 y hy => ?_, fun b1 h1 h2 => ?_, fun b1 _ h1 => ?_, Nat.le_refl _, Nat.le_refl _, fun _ _ _ => rfl, fun b1 c k sh hb1 h1 => .inr ⟨b1, k, sh, ?_, (hother h1).2⟩, rfl, rfl, rfl⟩⟩
  · obtain ⟨h2, h3⟩ := hother h1
    simp [h2] at hg1
    obtain ⟨p', h5, h6⟩ := R.live b1 c k sh o1 h3 hg1
    exact ⟨p', h5, h6.mono hle⟩
  · by_cases e : b1 = b
    · subst e; simp
    · rw [Phi.put_other _ _ e] at h1
      simp [e, R.dead b1 h1]
  · simp at hb1
    simp [R.wf b1 hb1]
  · simp at hb1
    rw [Phi.put_other _ _ (by omega)]; exact R.fresh b1 hb1
  · have : g ≠ b := by have := hK g hg'; omega
    rw [Phi.put_other _ _ this]; exact R.glob g hg'
  · by_cases e : b1 = b
    · subst e; exact .inr ⟨Phi.put_same _ _ _, hg, hb⟩
    · exact .inl (by rw [Phi.put_other _ _ e]; exact hy)
  · have : b1 ≠ b := fun e => by subst e; rw [h2] at hx; cases hx
    rw [Phi.put_other _ _ this]; exact h2
  · simp [h1]
  · by_cases e : b1 = b
    · subst e; exact hb
    · simpa [e] using hb1

end Go.Abs

/-! The abstract machine's operations that make no block stand for the model's; no condition. -/
namespace Go.Abs
variable {C : Cfg} {φ : Phi} {H : Heap} {w : World} {P : Program}

theorem run_und {t : TypeId} {d : TypeDesc} (h : P.underlying t = some d) : (underlying t).run P w = .ok d w := by simp [underlying, h]
theorem run_info {t : TypeId} {i : TypeInfo} (h : P.info? t = some i) : (typeInfo t).run P w = .ok i w := by simp [typeInfo, h]
theorem run_sizeOf {t : TypeId} {n : Nat} (h : tsize P t = some n) : (sizeOf t).run P w = .ok n w := by
  unfold tsize at h
  obtain ⟨i, hi, rfl⟩ := Option.map_eq_some_iff.1 h
  simp [sizeOf, run_info hi]
theorem run_isAgg {t : TypeId} {b : Bool} (h : tagg P t = some b) : (isAgg t).run P w = .ok b w := by
  unfold tagg at h
  unfold isAgg
  cases hu : P.underlying t with
  | none => rw [hu] at h; cases h
  | some d =>
    rw [hu] at h
    cases d <;> simp at h <;> subst h <;> simp [run_und hu]
theorem run_zero {t : TypeId} {z : Value} (h : tzero P t = some z) : (zeroValue t).run P w = .ok z w ∧ constOk z = true := by
  unfold tzero at h
  cases hz : (P.info? t).bind (·.zero) with
  | none => rw [hz] at h; cases h
  | some y =>
    rw [hz] at h
    simp only at h
    split at h
    · rename_i hc
      cases h
      obtain ⟨i, hi, hy⟩ := Option.bind_eq_some_iff.1 hz
      exact ⟨by simp [zeroValue, run_info hi, hy], hc⟩
    · cases h

theorem part_ok {t : TypeId} {cs cs' : Array Value} {off : Nat} {v : Value} (hc : VRs φ cs.toList cs'.toList) (h : partA P t cs.toList off = some v) :
    ∃ v', (part t cs' off).run P w = .ok v' w ∧ VR φ v v' := by
  unfold partA at h
  unfold part
  split at h
  · rename_i n h1 h2
    cases h
    refine ⟨_, by simp [run_isAgg h1, run_sizeOf h2]; rfl, ?_⟩
    refine .agg ?_
    rw [Array.toList_extract]
    have e : List.extract cs'.toList off (off + n) = (cs'.toList.drop off).take n := by
      have : off + n - off = n := by omega
      simp [List.extract, this]
    rw [e]
    simpa using (hc.drop off).take n
  · rename_i h1
    obtain ⟨v', h2, h3⟩ := hc.get _ h
    refine ⟨v', ?_, h3⟩
    have : cs'[off]? = some v' := by simpa using h2
    simp [run_isAgg h1, this]
  · cases h

theorem loadVar_ok (R : Rel C φ H w) {t : TypeId} {a a' : Addr} {v : Value} (ha : AR φ a a') (h : loadA C.P H t a = some v) :
    ∃ v', (loadVar t a').run C.P w = .ok v' w ∧ VR φ v v' := by
  unfold loadA at h
  unfold loadVar
  split at h
  · rename_i n h1 h2
    obtain ⟨vs, h3, rfl⟩ := Option.map_eq_some_iff.1 h
    obtain ⟨vs', h4, h5⟩ := load_sound R (.inr ha) h3
    exact ⟨.agg vs'.toArray, by simp [run_isAgg h1, run_sizeOf h2, h5], .agg (by simpa using h4)⟩
  · rename_i h1
    split at h
    · rename_i u hl
      cases h
      obtain ⟨vs', h4, h5⟩ := load_sound R (.inr ha) hl
      cases h4 with
      | cons h6 h7 =>
        cases h7
        rename_i v'
        refine ⟨v', ?_, h6⟩
        simp only [loadCells, loadCellsFrom, Sem.run_bind] at h5
        simp only [Sem.run_bind, run_isAgg h1, Result.andThen_ok, Bool.false_eq_true, if_false]
        have ha0 : a'.add 0 = a' := rfl
        rw [ha0] at h5
        cases hr : (load a').run C.P w with
        | halt x y => rw [hr] at h5; cases h5
        | ok x y =>
          rw [hr] at h5
          simp at h5
          obtain ⟨h8, h9⟩ := h5
          simp [hr, h8, h9]
    · cases h
  · cases h

theorem storeVar_ok (R : Rel C φ H w) {t : TypeId} {a a' : Addr} {v v' : Value} {H' : Heap} (ha : AR φ a a') (hv : VR φ v v') (h : storeA C.P H t a v = some H') :
    ∃ w', (storeVar t a' v').run C.P w = .ok () w' ∧ Rel C φ H' w' ∧ Ext C φ H w φ H' w' := by
  unfold storeA at h
  split at h
  · rename_i hs
    have hc := hv.cells
    obtain ⟨w', h1, h2, h3⟩ := store_sound R (.inr ha) hc h
    refine ⟨w', ?_, h2, h3⟩
    have hlen : v'.cells.size = v.cells.size := by have := hc.length; simp at this; exact this.symm
    simp [storeVar, run_sizeOf hs, hlen, h1]
  · cases h

/-! ### Arithmetic -/
theorem intBin_ok {op : BinOp} {k : IntKind} {a b : Int} {v : Value} {t : TypeId} (hop : op ≠ .shl ∧ op ≠ .shr) (h : intBin op k a b = some v) :
    (binOp op t (.int k a) (.int k b)).run P w = .ok v w ∧ scalar v = true := by
  cases op <;> simp [intBin] at h hop
  all_goals first
    | (subst h; exact ⟨by simp [binOp, Op.intArith, Op.intBits, Op.intCmp], rfl⟩)
    | (obtain ⟨h0, rfl⟩ := h; exact ⟨by simp [binOp, Op.intDiv, h0], rfl⟩)

theorem shiftA_ok {op : BinOp} {k k' : IntKind} {a b : Int} {v : Value} {t : TypeId} (h : shiftA op k a b = some v) :
    (binOp op t (.int k a) (.int k' b)).run P w = .ok v w ∧ scalar v = true := by
  unfold shiftA at h
  split at h
  · cases h
  · rename_i hb
    cases op <;> simp at h <;> subst h <;> exact ⟨by simp [binOp, Op.shift, hb], rfl⟩

theorem strBin_ok {op : BinOp} {x y : ByteArray} {v : Value} {t : TypeId} (h : strBin op x y = some v) :
    (binOp op t (.string x) (.string y)).run P w = .ok v w ∧ scalar v = true := by
  cases op <;> simp [strBin] at h
  all_goals first
    | (subst h; exact ⟨by simp [binOp, Op.stringOp], rfl⟩)
    | (obtain ⟨h0, rfl⟩ := h
       refine ⟨?_, rfl⟩
       have hm : IntKind.i64.max = 9223372036854775807 := by decide
       simp [binOp, Op.stringOp, hm]; omega)

end Go.Abs

/-! The abstract '==' stands for the model's; no condition. -/
namespace Go.Abs
variable {C : Cfg} {φ : Phi} {H : Heap} {w : World} {P : Program}

theorem run_forIn_all {α : Type} (body : α → (Option Bool × Unit) → Sem (ForInStep (Option Bool × Unit))) (g : α → Option Bool → Option Bool)
    : ∀ (l : List α) (b : Bool), (∀ x ∈ l, ∀ s acc r, g x acc = some r →
        ((body x s).run P w = .ok (.yield (none, ())) w ∧ acc = some r) ∨ ((body x s).run P w = .ok (.done (some false, ())) w ∧ r = false)) →
      l.foldr g (some true) = some b → ∀ s : Option Bool × Unit, s = (none, ()) → (forIn l s body).run P w = .ok (if b then (none, ()) else (some false, ())) w
  | [], b, _, h, s, hs => by simp at h; subst h; subst hs; simp
  | x :: l, b, hg, h, s, hs => by
    simp only [List.foldr_cons] at h
    simp only [List.forIn_cons, Sem.run_bind]
    rcases hg x (by simp) s _ _ h with ⟨h1, h2⟩ | ⟨h1, h2⟩
    · rw [h1]
      simp only [Result.andThen_ok]
      exact run_forIn_all body g l b (fun y hy => hg y (by simp [hy])) h2 _ rfl
    · rw [h1]; subst h2
      simp

theorem VR.bool_inv {b : Bool} {v : Value} (h : VR φ (.bool b) v) : v = .bool b := by cases h; rfl
theorem VR.int_inv {k : IntKind} {n : Int} {v : Value} (h : VR φ (.int k n) v) : v = .int k n := by cases h; rfl
theorem VR.str_inv {s : ByteArray} {v : Value} (h : VR φ (.string s) v) : v = .string s := by cases h; rfl
theorem VR.nilPtr_inv {v : Value} (h : VR φ (.pointer none) v) : v = .pointer none := by cases h; rfl
theorem VR.nilIface_inv {v : Value} (h : VR φ .nilIface v) : v = .nilIface := by cases h; rfl
theorem VR.nilFunc_inv {v : Value} (h : VR φ .nilFunc v) : v = .nilFunc := by cases h; rfl
theorem VR.nilSlice_inv {n c : Nat} {v : Value} (h : VR φ (.slice none n c) v) : v = .slice none n c := by cases h; rfl
theorem VR.nilMap_inv {v : Value} (h : VR φ (.map none) v) : v = .map none := by cases h; rfl
theorem VR.agg_inv {x : Array Value} {v : Value} (h : VR φ (.agg x) v) : ∃ y, v = .agg y ∧ VRs φ x.toList y.toList := by
  cases h with
  | scalar h => simp [Abs.scalar] at h
  | agg h => exact ⟨_, rfl, h⟩
theorem VR.tuple_inv {x : Array Value} {v : Value} (h : VR φ (.tuple x) v) : ∃ y, v = .tuple y ∧ VRs φ x.toList y.toList := by
  cases h with
  | scalar h => simp [Abs.scalar] at h
  | tuple h => exact ⟨_, rfl, h⟩
theorem VR.iface_inv {t : TypeId} {x v : Value} (h : VR φ (.iface t x) v) : ∃ y, v = .iface t y ∧ VR φ x y := by
  cases h with
  | scalar h => simp [Abs.scalar] at h
  | iface h => exact ⟨_, rfl, h⟩
theorem VR.slice_inv {a : Addr} {n c : Nat} {v : Value} (h : VR φ (.slice (some a) n c) v) : ∃ a' c', v = .slice (some a') n c' := by
  cases h with
  | scalar h => simp [Abs.scalar] at h
  | slice h1 h2 => exact ⟨_, _, rfl⟩
  | sliceDead h1 => exact ⟨_, _, rfl⟩
  | sliceEnd _ _ => exact ⟨_, _, rfl⟩
theorem VR.map_inv {r : Nat} {v : Value} (h : VR φ (.map (some r)) v) : ∃ c, v = .map (some c) := by
  cases h with
  | scalar h => simp [Abs.scalar] at h
  | map h => exact ⟨_, rfl⟩
  | mapDead h => exact ⟨_, rfl⟩
theorem VR.func_inv {f : Fn} {x y : Array Value} {v : Value} (h : VR φ (.func f x y) v) : ∃ f' x' y', v = .func f' x' y' := by
  cases h with
  | scalar h => simp [Abs.scalar] at h
  | func h1 h2 => exact ⟨_, _, _, rfl⟩
  | yield h => exact ⟨_, _, _, rfl⟩
  | yieldDead h => exact ⟨_, _, _, rfl⟩

/-- an ordinary block, in the model -/
theorem Rel.ordinary (R : Rel C φ H w) {a a' : Addr} (ha : AR φ a a') (h : ordinary H a.block = true) :
    ∃ c k sh, φ a.block = some (.live c k sh) ∧ a' = ⟨c, a.off + sh, none⟩ ∧ ∃ arr e, w.heap[c]? = some (.cells arr e (0, 0)) := by
  unfold Abs.ordinary at h
  split at h
  · rename_i vs e hg
    obtain ⟨c, k, sh, arr, fr, pre, vs', post, h1, h2, rfl, hlt, h4, h6, h7, h8, h9, h10⟩ := R.cells ha hg
    simp at h10; subst h10
    exact ⟨c, k, sh, h1, rfl, arr, e, h4⟩
  · cases h

theorem sameAddr_ok (R : Rel C φ H w) {a b a' b' : Addr} (ha : AR φ a a') (hb : AR φ b b') (h1 : ordinary H a.block = true) (h2 : ordinary H b.block = true) :
    (sameAddr a' b').run C.P w = .ok (a.block == b.block && a.off == b.off) w := by
  obtain ⟨c, k, sh, hc, rfl, arr, e, hw⟩ := R.ordinary ha h1
  obtain ⟨c2, k2, sh2, hc2, rfl, arr2, e2, hw2⟩ := R.ordinary hb h2
  unfold sameAddr
  by_cases hcc : c = c2
  · subst hcc
    have hbb := R.inj _ _ _ _ _ _ _ hc hc2
    rw [hbb] at hc
    rw [hc] at hc2
    cases hc2
    simp only [beq_self_eq_true, if_true, hbb, Bool.true_and]
    have : (({ block := c, off := a.off + sh, spot := none } : Addr) == { block := c, off := b.off + sh, spot := none }) = (a.off == b.off) := by
      rw [Bool.eq_iff_iff]; simp
    rw [this]; rfl
  · have hne : (c == c2) = false := by simpa using hcc
    have hbn : a.block ≠ b.block := fun e => hcc (by rw [e, hc2] at hc; cases hc; rfl)
    have hbf : (a.block == b.block) = false := by simpa using hbn
    simp only [hne, Bool.false_eq_true, if_false, hbf, Bool.false_and]
    have f1 : ∀ o, w.frozen? ⟨c, o, none⟩ = false := fun o => by simp [World.frozen?, hw]
    have f2 : ∀ o, w.frozen? ⟨c2, o, none⟩ = false := fun o => by simp [World.frozen?, hw2]
    have s1 : w.shape? c = some (e, arr.size) := by simp [World.shape?, hw]
    have s2 : w.shape? c2 = some (e2, arr2.size) := by simp [World.shape?, hw2]
    simp [noView, viewAt, mayBeOne, stringish, f1, f2, s1, s2]

set_option maxHeartbeats 2000000 in
theorem eq_ok (R : Rel C φ H w) : ∀ (d : Nat) (t : TypeId) (x y x' y' : Value) (b : Bool), eqA C.P H d t x y = some b → VR φ x x' → VR φ y y' →
    (Op.equalIn d t x' y').run C.P w = .ok b w
  | 0, _, _, _, _, _, _, h, _, _ => by simp [eqA] at h
  | d + 1, t, x, y, x', y', b, h, hx, hy => by
    unfold eqA at h
    split at h
    · rename_i hu
      rw [hx.bool_inv, hy.bool_inv]
      simp at h; simp [Op.equalIn, run_und hu, h]
    · rename_i hu
      rw [hx.int_inv, hy.int_inv]
      split at h
      · rename_i hk; simp at h; simp [Op.equalIn, run_und hu, h, hk]
      · cases h
    · rename_i hu
      rw [hx.str_inv, hy.str_inv]
      simp at h; simp [Op.equalIn, run_und hu, h]
    · rename_i hu
      rw [hx.nilPtr_inv]
      rename_i bo
      cases bo with
      | none => rw [hy.nilPtr_inv]; simp at h; subst h; simp [Op.equalIn, run_und hu]
      | some q => obtain ⟨q', rfl, _⟩ := hy.ptr_inv; simp at h; subst h; simp [Op.equalIn, run_und hu]
    · rename_i hu
      obtain ⟨q', rfl, _⟩ := hx.ptr_inv
      rw [hy.nilPtr_inv]
      simp at h; subst h; simp [Op.equalIn, run_und hu]
    · rename_i hu
      obtain ⟨p', rfl, hp⟩ := hx.ptr_inv
      obtain ⟨q', rfl, hq⟩ := hy.ptr_inv
      split at h
      · rename_i n hn
        split at h
        · cases h
        · rename_i hc
          simp only [Bool.or_eq_true, Bool.not_eq_true', not_or, Bool.not_eq_false] at hc
          simp only [Option.some.injEq] at h
          subst h
          have := sameAddr_ok R hp hq hc.1.2 hc.2
          simp [Op.equalIn, run_und hu, run_sizeOf hn, this]
      · cases h
    · rename_i hu
      rw [hx.nilIface_inv, hy.nilIface_inv]; simp at h; subst h; simp [Op.equalIn, run_und hu]
    · rename_i hu
      obtain ⟨_, rfl, _⟩ := hy.iface_inv
      rw [hx.nilIface_inv]; simp at h; subst h; simp [Op.equalIn, run_und hu]
    · rename_i hu
      obtain ⟨_, rfl, _⟩ := hx.iface_inv
      rw [hy.nilIface_inv]; simp at h; subst h; simp [Op.equalIn, run_und hu]
    · rename_i fields xs ys hu
      obtain ⟨xs', rfl, hxs⟩ := hx.agg_inv
      obtain ⟨ys', rfl, hys⟩ := hy.agg_inv
      split at h
      · cases h
      · rename_i hs
        simp only [Op.equalIn, Sem.run_bind, run_und hu, Result.andThen_ok, run_program, hs, if_false, Bool.false_eq_true]
        rw [← Array.forIn_toList]
        rw [run_forIn_all _ _ fields.toList b ?_ h (none, ()) rfl]
        · cases b <;> rfl
        · intro f hf s acc r hr
          by_cases hn : f.name = "_"
          · rw [if_pos hn] at hr
            exact .inl ⟨by simp [hn], hr⟩
          · rw [if_neg hn] at hr
            split at hr
            · rename_i u v h1 h2
              obtain ⟨u', h3, h4⟩ := part_ok (P := C.P) (w := w) hxs h1
              obtain ⟨v', h5, h6⟩ := part_ok (P := C.P) (w := w) hys h2
              have ih : ∀ b1, eqA C.P H d f.type u v = some b1 → (Op.equalIn d f.type u' v').run C.P w = .ok b1 w := fun b1 h1 => eq_ok R d f.type u v u' v' b1 h1 h4 h6
              split at hr
              · rename_i h7
                have := ih _ h7
                exact .inl ⟨by simp [hn, h3, h5, this], hr⟩
              · rename_i h7
                cases r with
                | true => exact absurd hr (by simpa using h7)
                | false =>
                  have := ih _ hr
                  exact .inr ⟨by simp [hn, h3, h5, this], rfl⟩
            · cases hr
    · rename_i len elem xs ys hu
      obtain ⟨xs', rfl, hxs⟩ := hx.agg_inv
      obtain ⟨ys', rfl, hys⟩ := hy.agg_inv
      split at h
      · rename_i n hn
        simp only [Op.equalIn, Sem.run_bind, run_und hu, Result.andThen_ok, run_sizeOf hn]
        rw [Std.Legacy.Range.forIn_eq_forIn_range']
        rw [run_forIn_all _ _ _ b ?_ (by simpa [List.range_eq_range'] using h) (none, ()) rfl]
        · cases b <;> rfl
        · intro i hi s acc r hr
          split at hr
          · rename_i u v h1 h2
            obtain ⟨u', h3, h4⟩ := part_ok (P := C.P) (w := w) hxs h1
            obtain ⟨v', h5, h6⟩ := part_ok (P := C.P) (w := w) hys h2
            have ih : ∀ b1, eqA C.P H d elem u v = some b1 → (Op.equalIn d elem u' v').run C.P w = .ok b1 w := fun b1 h1 => eq_ok R d elem u v u' v' b1 h1 h4 h6
            split at hr
            · rename_i h7
              have := ih _ h7
              exact .inl ⟨by simp [h3, h5, this], hr⟩
            · rename_i h7
              cases r with
              | true => exact absurd hr (by simpa using h7)
              | false =>
                have := ih _ hr
                exact .inr ⟨by simp [h3, h5, this], rfl⟩
          · cases hr
      · cases h
    · rename_i hu
      rw [hx.nilSlice_inv]
      rename_i bo _ _
      cases bo with
      | none => rw [hy.nilSlice_inv]; simp at h; subst h; simp [Op.equalIn, run_und hu]
      | some q => obtain ⟨q', _, rfl⟩ := hy.slice_inv; simp at h; subst h; simp [Op.equalIn, run_und hu]
    · rename_i hu
      obtain ⟨q', _, rfl⟩ := hx.slice_inv
      rw [hy.nilSlice_inv]; simp at h; subst h; simp [Op.equalIn, run_und hu]
    · rename_i hu
      rw [hx.nilMap_inv]
      rename_i bo
      cases bo with
      | none => rw [hy.nilMap_inv]; simp at h; subst h; simp [Op.equalIn, run_und hu]
      | some q => obtain ⟨q', rfl⟩ := hy.map_inv; simp at h; subst h; simp [Op.equalIn, run_und hu]
    · rename_i hu
      obtain ⟨q', rfl⟩ := hx.map_inv
      rw [hy.nilMap_inv]; simp at h; subst h; simp [Op.equalIn, run_und hu]
    · rename_i hu
      rw [hx.nilFunc_inv, hy.nilFunc_inv]; simp at h; subst h; simp [Op.equalIn, run_und hu]
    · rename_i hu
      obtain ⟨_, _, _, rfl⟩ := hy.func_inv
      rw [hx.nilFunc_inv]; simp at h; subst h; simp [Op.equalIn, run_und hu]
    · rename_i hu
      obtain ⟨_, _, _, rfl⟩ := hx.func_inv
      rw [hy.nilFunc_inv]; simp at h; subst h; simp [Op.equalIn, run_und hu]
    · cases h

end Go.Abs

/-! The abstract machine's unary and binary operators, slices, fields, indexes stand for the model's; no condition. -/
namespace Go.Abs
variable {C : Cfg} {φ : Phi} {H : Heap} {w : World} {P : Program}

def head : Value → Nat
  | .bool _ => 0 | .int _ _ => 1 | .float _ _ => 2 | .complex _ _ _ => 3 | .string _ => 4 | .pointer _ => 5 | .slice _ _ _ => 6 | .map _ => 7 | .chan _ => 8
  | .func _ _ _ => 9 | .nilFunc => 10 | .iface _ _ => 11 | .nilIface => 12 | .agg _ => 13 | .tuple _ => 14

theorem VR.head {v v' : Value} (h : VR φ v v') : Abs.head v' = Abs.head v := by cases h <;> rfl

def numeric2 (x y : Value) : Bool := head x == head y && 1 ≤ head x && head x ≤ 4

theorem VR.numeric2 {x y x' y' : Value} (hx : VR φ x x') (hy : VR φ y y') : Abs.numeric2 x' y' = Abs.numeric2 x y := by
  unfold Abs.numeric2; rw [hx.head, hy.head]

theorem binOp_eql {t : TypeId} {x y : Value} (h : numeric2 x y = false) : binOp .eql t x y = (do pure (.bool (← Op.equal t x y))) := by
  unfold binOp
  split <;> simp_all [numeric2, head]

theorem binOp_neq {t : TypeId} {x y : Value} (h : numeric2 x y = false) : binOp .neq t x y = (do pure (.bool (!(← Op.equal t x y)))) := by
  unfold binOp
  split <;> simp_all [numeric2, head]

theorem head_nilIface {v : Value} (h : head v = 12) : v = .nilIface := by cases v <;> simp [head] at h; rfl
theorem head_agg {v : Value} (h : head v = 13) : ∃ q, v = .agg q := by cases v <;> simp [head] at h; exact ⟨_, rfl⟩

theorem eqGuard_ok {op : BinOp} {t : TypeId} {x y : Operand} {a b a' b' : Value} (ha : VR φ a a') (hb : VR φ b b') (h : eqGuardA P t x y a b = true) :
    (eqGuard op t x y a' b').run P w = .ok () w := by
  have h1 := ha.head
  have h2 := hb.head
  clear ha hb
  unfold eqGuard
  cases op
  all_goals first
    | rfl
    | (simp only [Bool.not_true, Bool.false_eq_true, if_false]
       split
       · have e3 := head_nilIface h1.symm
         have e4 := head_nilIface h2.symm
         subst e3 e4
         simp only [eqGuardA] at h
         cases x <;> cases y <;> first | rfl | exact absurd h Bool.false_ne_true
       · obtain ⟨q, rfl⟩ := head_agg h1.symm
         obtain ⟨r, rfl⟩ := head_agg h2.symm
         simp only [eqGuardA] at h
         simp only [pure_bind, Sem.run_bind, run_program, Result.andThen_ok]
         rw [if_pos h]; rfl
       · rfl)

theorem eqGuard_int {op : BinOp} {t : TypeId} {x y : Operand} {k k' : IntKind} {a b : Int} : (eqGuard op t x y (.int k a) (.int k' b)).run P w = .ok () w := by
  unfold eqGuard; split <;> simp

theorem eqGuard_str {op : BinOp} {t : TypeId} {x y : Operand} {a b : ByteArray} : (eqGuard op t x y (.string a) (.string b)).run P w = .ok () w := by
  unfold eqGuard; split <;> simp

theorem eqA_head {d : Nat} {t : TypeId} {x y : Value} {b : Bool} (h : eqA P H d t x y = some b) (hx : head x = head y) : head x ≠ 2 ∧ head x ≠ 3 := by
  cases d with
  | zero => simp [eqA] at h
  | succ d =>
    constructor <;> intro h2 <;> rw [h2] at hx
    · have e3 : ∃ k q, x = .float k q := by cases x <;> simp [head] at h2; exact ⟨_, _, rfl⟩
      have e4 : ∃ k q, y = .float k q := by cases y <;> simp [head] at hx; exact ⟨_, _, rfl⟩
      obtain ⟨_, _, rfl⟩ := e3
      obtain ⟨_, _, rfl⟩ := e4
      simp [eqA] at h
    · have e3 : ∃ k q r, x = .complex k q r := by cases x <;> simp [head] at h2; exact ⟨_, _, _, rfl⟩
      have e4 : ∃ k q r, y = .complex k q r := by cases y <;> simp [head] at hx; exact ⟨_, _, _, rfl⟩
      obtain ⟨_, _, _, rfl⟩ := e3
      obtain ⟨_, _, _, rfl⟩ := e4
      simp [eqA] at h

theorem bin_ok (R : Rel C φ H w) {op : BinOp} {t : TypeId} {x y : Operand} {a b a' b' v : Value} (ha : VR φ a a') (hb : VR φ b b') (h : binA C.P H op t x y a b = some v) :
    (do eqGuard op t x y a' b'; binOp op t a' b' : Sem Value).run C.P w = .ok v w ∧ scalar v = true := by
  unfold binA at h
  split at h
  · rename_i k m k' n
    rw [ha.int_inv, hb.int_inv]
    simp only [Sem.run_bind, eqGuard_int, Result.andThen_ok]
    split at h
    · exact shiftA_ok h
    · exact shiftA_ok h
    · rename_i h1 h2
      split at h
      · rename_i hk; subst hk
        exact intBin_ok ⟨fun e => h1 (by rw [e]), fun e => h2 (by rw [e])⟩ h
      · cases h
  · rw [ha.str_inv, hb.str_inv]
    simp only [Sem.run_bind, eqGuard_str, Result.andThen_ok]
    exact strBin_ok h
  · rename_i n1 n2
    split at h
    · split at h
      · rename_i hg
        obtain ⟨r, hr, rfl⟩ := Option.map_eq_some_iff.1 h
        have hn : numeric2 a' b' = false := by
          rw [ha.numeric2 hb]
          by_cases hh : head a = head b
          · have := eqA_head hr hh
            have : head a ≠ 1 ∧ head a ≠ 4 := by
              constructor <;> intro h3
              · cases a <;> simp [head] at h3
                cases b <;> simp [head] at hh
                exact n1 _ _ _ _ rfl rfl
              · cases a <;> simp [head] at h3
                cases b <;> simp [head] at hh
                exact n2 _ _ rfl rfl
            simp [numeric2]; omega
          · simp [numeric2, hh]
        simp only [Sem.run_bind, eqGuard_ok ha hb hg, Result.andThen_ok, binOp_eql hn, Op.equal, eq_ok R _ _ _ _ _ _ _ hr ha hb]
        exact ⟨rfl, rfl⟩
      · cases h
    · split at h
      · rename_i hg
        obtain ⟨r, hr, rfl⟩ := Option.map_eq_some_iff.1 h
        have hn : numeric2 a' b' = false := by
          rw [ha.numeric2 hb]
          by_cases hh : head a = head b
          · have := eqA_head hr hh
            have : head a ≠ 1 ∧ head a ≠ 4 := by
              constructor <;> intro h3
              · cases a <;> simp [head] at h3
                cases b <;> simp [head] at hh
                exact n1 _ _ _ _ rfl rfl
              · cases a <;> simp [head] at h3
                cases b <;> simp [head] at hh
                exact n2 _ _ rfl rfl
            simp [numeric2]; omega
          · simp [numeric2, hh]
        simp only [Sem.run_bind, eqGuard_ok ha hb hg, Result.andThen_ok, binOp_neq hn, Op.equal, eq_ok R _ _ _ _ _ _ _ hr ha hb]
        exact ⟨rfl, rfl⟩
      · cases h
    · cases h

theorem un_ok {op : UnOp} {x x' v : Value} (hx : VR φ x x') (h : unA op x = some v) : (Op.unary op x').run P w = .ok v w ∧ scalar v = true := by
  unfold unA at h
  split at h
  · rw [hx.int_inv]; cases h; exact ⟨by simp [Op.unary, Op.intArith], rfl⟩
  · rw [hx.int_inv]
    simp only [intBin, Option.some.injEq] at h
    subst h; exact ⟨by simp [Op.unary, Op.intBits], rfl⟩
  · rw [hx.bool_inv]; cases h; exact ⟨by simp [Op.unary], rfl⟩
  · cases h

/-! ### Slices, indexes, fields -/
theorem field_ok {s : TypeId} {x x' v : Value} {i : Nat} (hx : VR φ x x') (h : fieldA P s x i = some v) : ∃ v', (Instr.field s x' i).run P w = .ok v' w ∧ VR φ v v' := by
  unfold fieldA at h
  split at h
  · rename_i fields cs hu
    obtain ⟨cs', rfl, hc⟩ := hx.agg_inv
    split at h
    · rename_i f hf
      obtain ⟨v', h1, h2⟩ := part_ok (P := P) (w := w) hc h
      exact ⟨v', by simp [Instr.field, run_und hu, hf, asAgg, h1], h2⟩
    · cases h
  · cases h

theorem fieldAddr_ok {s : TypeId} {x x' v : Value} {i : Nat} (hx : VR φ x x') (h : fieldAddrA P s x i = some v) : ∃ v', (Instr.fieldAt s x' i).run P w = .ok v' w ∧ VR φ v v' := by
  unfold fieldAddrA at h
  split at h
  · rename_i fields a hu
    obtain ⟨a', rfl, ha⟩ := hx.ptr_inv
    split at h
    · rename_i f hf
      split at h
      · rename_i n hn
        cases h
        exact ⟨.pointer (some (a'.add f.offset)), by simp [Instr.fieldAt, run_und hu, hf, Instr.sureAddr, fieldPlace, run_sizeOf hn], (ha.add _).ptr⟩
      · cases h
    · cases h
  · cases h

theorem index_ok {t : TypeId} {x x' ix ix' v : Value} (hx : VR φ x x') (hi : VR φ ix ix') (h : indexA P t x ix = some v) : ∃ v', (Instr.index t x' ix').run P w = .ok v' w ∧ VR φ v v' := by
  unfold indexA at h
  split at h
  · rename_i k i
    rw [hi.int_inv]
    split at h
    · rename_i len elem cs hu
      obtain ⟨cs', rfl, hc⟩ := hx.agg_inv
      split at h
      · rename_i n hn
        split at h
        · rename_i hb
          obtain ⟨v', h1, h2⟩ := part_ok (P := P) (w := w) hc h
          exact ⟨v', by simp [Instr.index, asIntOf, run_und hu, hb, run_sizeOf hn, h1], h2⟩
        · cases h
      · cases h
    · rename_i s hu
      rw [hx.str_inv]
      split at h
      · rename_i hb
        obtain ⟨c, hc, rfl⟩ := Option.map_eq_some_iff.1 h
        exact ⟨_, by simp [Instr.index, asIntOf, run_und hu, hb, hc], .scalar rfl⟩
      · cases h
    · cases h
  · cases h

/-- a slice's address, its capacity -/
theorem VR.slice_add {a : Addr} {n cap : Nat} {a' : Addr} {c' : Nat} (h : VR φ (.slice (some a) n cap) (.slice (some a') n c')) (hn : 0 < n) : AR φ a a' := by
  cases h with
  | scalar h => simp [Abs.scalar] at h
  | slice h1 h2 => exact .live h1 h2
  | sliceDead h1 => exact .dead h1
  | sliceEnd _ _ => exact absurd hn (Nat.lt_irrefl _)

theorem indexAddr_ok {t : TypeId} {x x' ix ix' v : Value} (hx : VR φ x x') (hi : VR φ ix ix') (h : indexAddrA P t x ix = some v) : ∃ v', (Instr.indexAt t x' ix').run P w = .ok v' w ∧ VR φ v v' := by
  unfold indexAddrA at h
  split at h
  · rename_i k i
    rw [hi.int_inv]
    split at h
    · rename_i len elem a hu
      obtain ⟨a', rfl, ha⟩ := hx.ptr_inv
      split at h
      · rename_i n hn
        split at h
        · rename_i hb
          cases h
          exact ⟨_, by simp [Instr.indexAt, asIntOf, run_und hu, hb, run_sizeOf hn, Instr.sureAddr], (ha.add _).ptr⟩
        · cases h
      · cases h
    · rename_i elem a len cap hu
      obtain ⟨a', c', rfl⟩ := hx.slice_inv
      split at h
      · rename_i n hn
        split at h
        · rename_i hb
          cases h
          exact ⟨_, by simp [Instr.indexAt, asIntOf, run_und hu, hb, run_sizeOf hn], ((hx.slice_add (by omega)).add _).ptr⟩
        · cases h
      · cases h
    · cases h
  · cases h

end Go.Abs

/-! The abstract machine's slice expressions, builds, conversions stand for the model's; no condition. -/
namespace Go.Abs
variable {C : Cfg} {φ : Phi} {H : Heap} {w : World} {P : Program}

inductive OVR (φ : Phi) : Option Value → Option Value → Prop where
  | none : OVR φ none none
  | some {v v' : Value} : VR φ v v' → OVR φ (some v) (some v')

theorem sure_le (cap k : Nat) : sureCap cap ≤ conc cap k := by unfold sureCap conc; split <;> omega

theorem bound_ok {x x' : Value} {y y' m : Nat} (c : BoundsCode) (hx : VR φ x x') (hy : y ≤ y') (h : boundA x y = some m) : (Instr.sliceBound x' y' c).run P w = .ok m w ∧ m ≤ y := by
  unfold boundA at h
  split at h
  · rename_i k i
    rw [hx.int_inv]
    split at h
    · rename_i hb
      cases h
      have h2 : 0 ≤ i ∧ i ≤ (y' : Int) := ⟨hb.1, by omega⟩
      exact ⟨by simp [Instr.sliceBound, asIntOf, h2], by omega⟩
    · cases h
  · cases h

theorem bounds_ok {len cap k : Nat} {low high max low' high' max' : Option Value} {l h c : Nat} (isSlice : Bool) (hl : OVR φ low low') (hh : OVR φ high high') (hm : OVR φ max max')
    (hb : boundsA len cap low high max = some (l, h, c)) :
    ∃ m, (Instr.sliceBounds isSlice len (conc cap k) low' high' max').run P w = .ok (l, h, m) w ∧
      ((max = none ∧ m = conc cap k ∧ c = cap - l ∧ (h ≤ sureCap cap ∨ h = len)) ∨ (m ≤ sureCap cap ∧ m < OPEN ∧ c = m - l ∧ h ≤ m)) ∧ l ≤ h := by
  unfold boundsA at hb
  cases hm with
  | some hmx =>
    rename_i mx mx'
    simp only at hb
    split at hb
    · rename_i m hv h1
      cases hh with
      | some hhv =>
        split at hb
        · cases hb
        · rename_i hop
          obtain ⟨r1, q1⟩ := bound_ok (P := P) (w := w) (if isSlice then BoundsCode.slice3Acap else BoundsCode.slice3Alen) hmx (sure_le cap k) h1
          split at hb
          · rename_i h' h3
            obtain ⟨r2, q2⟩ := bound_ok (P := P) (w := w) .slice3B hhv (Nat.le_refl _) h3
            cases hl with
            | none =>
              simp at hb
              obtain ⟨rfl, rfl, rfl⟩ := hb
              exact ⟨m, by simp [Instr.sliceBounds, r1, r2], .inr ⟨q1, by omega, rfl, q2⟩, Nat.zero_le _⟩
            | some hlv =>
              obtain ⟨l', h4, h5⟩ := Option.map_eq_some_iff.1 hb
              cases h5
              obtain ⟨r3, q3⟩ := bound_ok (P := P) (w := w) .slice3C hlv (Nat.le_refl _) h4
              exact ⟨m, by simp [Instr.sliceBounds, r1, r2, r3], .inr ⟨q1, by omega, rfl, q2⟩, q3⟩
          · cases hb
    · cases hb
  | none =>
    simp only at hb
    cases hh with
    | none =>
      simp only at hb
      cases hl with
      | none =>
        simp at hb
        obtain ⟨rfl, rfl, rfl⟩ := hb
        exact ⟨_, by simp [Instr.sliceBounds], .inl ⟨rfl, rfl, rfl, .inr rfl⟩, Nat.zero_le _⟩
      | some hlv =>
        obtain ⟨l', h4, h5⟩ := Option.map_eq_some_iff.1 hb
        cases h5
        obtain ⟨r3, q3⟩ := bound_ok (P := P) (w := w) .sliceB hlv (Nat.le_refl _) h4
        exact ⟨_, by simp [Instr.sliceBounds, r3], .inl ⟨rfl, rfl, rfl, .inr rfl⟩, q3⟩
    | some hhv =>
      simp only at hb
      split at hb
      · rename_i h' h3
        obtain ⟨r2, q2⟩ := bound_ok (P := P) (w := w) (if isSlice then BoundsCode.sliceAcap else BoundsCode.sliceAlen) hhv (sure_le cap k) h3
        cases hl with
        | none =>
          simp at hb
          obtain ⟨rfl, rfl, rfl⟩ := hb
          exact ⟨_, by simp [Instr.sliceBounds, r2], .inl ⟨rfl, rfl, rfl, .inl q2⟩, Nat.zero_le _⟩
        | some hlv =>
          obtain ⟨l', h4, h5⟩ := Option.map_eq_some_iff.1 hb
          cases h5
          obtain ⟨r3, q3⟩ := bound_ok (P := P) (w := w) .sliceB hlv (Nat.le_refl _) h4
          exact ⟨_, by simp [Instr.sliceBounds, r2, r3], .inl ⟨rfl, rfl, rfl, .inl q2⟩, q3⟩
      · cases hb

theorem conc_exact {cap k : Nat} (h : cap < OPEN) : conc cap k = cap := by simp [conc, h]

/-- every slice's capacity -/
theorem VR.slice_cap {a : Addr} {n cap : Nat} {v : Value} (h : VR φ (.slice (some a) n cap) v) : ∃ a' k, v = .slice (some a') n (conc cap k) := by
  cases h with
  | scalar h => simp [Abs.scalar] at h
  | slice h1 h2 => exact ⟨_, _, rfl⟩
  | sliceDead h1 => exact ⟨_, _, rfl⟩
  | sliceEnd _ h1 =>
    have : conc cap 0 = 0 := by rcases h1 with rfl | rfl <;> simp [conc, OPEN]
    exact ⟨_, 0, by rw [this]⟩

/-- the part of a slice from l to h, of capacity c -/
theorem VR.reslice {a a' : Addr} {n cap c' l h c m : Nat} (size : Nat) (hx : VR φ (.slice (some a) n cap) (.slice (some a') n c')) (hlh : l ≤ h)
    (hc : (m = c' ∧ c = cap - l ∧ h ≤ sureCap cap) ∨ (m ≤ sureCap cap ∧ m < OPEN ∧ c = m - l ∧ h ≤ m)) :
    VR φ (.slice (some (if c = 0 then a else a.add (l * size))) (h - l) c) (.slice (some (if m = l then a' else a'.add (l * size))) (h - l) (m - l)) := by
  have hO : OPEN = 18446744073709551616 := rfl
  have key : ∀ k, c' = conc cap k → (m - l = conc c k) ∧ ((c = 0 ↔ m = l) ∨ (c = OPEN ∧ m = l ∧ h = l)) := fun k hk => by
    subst hk
    unfold sureCap conc at *
    rcases hc with ⟨rfl, rfl, h3⟩ | ⟨h1, h2, rfl, h3⟩
    · by_cases hcap : cap < OPEN
      · simp only [hcap, if_true] at h3 ⊢
        refine ⟨?_, .inl ?_⟩
        · rw [if_pos (by omega)]
        · omega
      · simp only [hcap, if_false] at h3 ⊢
        refine ⟨?_, ?_⟩
        · rw [if_neg (by omega)]; omega
        · by_cases hm : cap - OPEN + k = l
          · exact .inr ⟨by omega, hm, by omega⟩
          · exact .inl ⟨fun h0 => by omega, fun h0 => absurd h0 hm⟩
    · refine ⟨?_, .inl ?_⟩
      · rw [if_pos (by omega)]
      · omega
  cases hx with
  | scalar h => simp [Abs.scalar] at h
  | slice h1 h2 =>
    rename_i cc k sh
    obtain ⟨h3, h4⟩ := key k rfl
    rcases h4 with h4 | ⟨h4, h5, h6⟩
    · by_cases h0 : c = 0
      · rw [if_pos h0, if_pos (h4.1 h0), h3]
        exact .slice h1 h2
      · rw [if_neg h0, if_neg (fun e => h0 (h4.2 e)), h3, add_eq a h2, add_mk]
        have := VR.slice (φ := φ) (a := ⟨a.block, a.off + l * size, none⟩) (n := h - l) (cap := c) h1 rfl
        simpa [Nat.add_right_comm] using this
    · rw [show m - l = 0 by omega, show h - l = 0 by omega]
      exact .sliceEnd (by split <;> simp [h1, add_block] <;> rfl) (.inr h4)
  | sliceDead h1 =>
    rename_i k
    rw [(key k rfl).1]
    refine .sliceDead ?_
    split
    · exact h1
    · rw [add_block]; exact h1
  | sliceEnd h0 h1 =>
    have hz : h ≤ 0 := by
      rcases h1 with rfl | rfl
      · rcases hc with ⟨_, _, h3⟩ | ⟨h1, _, _, h3⟩ <;> simp [sureCap, OPEN] at * <;> omega
      · rcases hc with ⟨_, _, h3⟩ | ⟨h1, _, _, h3⟩ <;> simp [sureCap, OPEN] at * <;> omega
    have hl0 : l = 0 := by omega
    have hh0 : h = 0 := by omega
    subst hl0 hh0
    have hm : m = 0 := by
      rcases hc with ⟨h3, _, _⟩ | ⟨h3, _, _, _⟩
      · exact h3
      · rcases h1 with rfl | rfl <;> simp [sureCap, OPEN] at h3 <;> exact h3
    have hcc : c = 0 ∨ c = OPEN := by
      rcases hc with ⟨_, h3, _⟩ | ⟨_, _, h3, _⟩
      · rcases h1 with rfl | rfl
        · exact .inl (by omega)
        · exact .inr (by omega)
      · exact .inl (by omega)
    subst hm
    exact .sliceEnd (by split <;> simp [h0, add_block] <;> rfl) hcc

theorem slice_ok {t : TypeId} {x x' v : Value} {lo hi mx lo' hi' mx' : Option Value} (hx : VR φ x x') (hl : OVR φ lo lo') (hh : OVR φ hi hi') (hm : OVR φ mx mx')
    (h : sliceA P t x lo hi mx = some v) : ∃ v', (Instr.sliceAt t x' lo' hi' mx').run P w = .ok v' w ∧ VR φ v v' := by
  unfold sliceA at h
  split at h
  · rename_i s hu
    rw [hx.str_inv]
    split at h
    · cases h
    · rename_i hms
      simp only [Bool.or_eq_true, decide_eq_true_eq, not_or] at hms
      cases hm with
      | some _ => simp at hms
      | none =>
        split at h
        · rename_i l hh' c hb
          cases h
          obtain ⟨m, h1, h2, h3⟩ := bounds_ok (P := P) (w := w) (k := 0) false hl hh .none hb
          rw [conc_exact (by omega)] at h1
          exact ⟨_, by simp [Instr.sliceAt, run_und hu, Instr.slice, h1], .scalar rfl⟩
        · cases h
  · rename_i elem a len cap hu
    split at h
    · rename_i l hh' c size hb hs
      split at h
      · rename_i hlen
        simp only [Bool.and_eq_true, Bool.or_eq_true, decide_eq_true_eq] at hlen
        cases h
        cases a with
        | none =>
          rw [hx.nilSlice_inv]
          obtain ⟨m, h1, h2, h3⟩ := bounds_ok (P := P) (w := w) (k := 0) true hl hh hm hb
          have hcap : cap < OPEN := by simpa using hlen.2
          rw [conc_exact hcap] at h1 h2
          have hcm : m - l = c := by rcases h2 with ⟨_, h4, h5, _⟩ | ⟨_, _, h6, _⟩ <;> omega
          have he : ∀ (c : Prop) [Decidable c] (f : Addr → Addr), (if c then (none : Option Addr) else Option.map f none) = none := fun c _ f => by split <;> rfl
          refine ⟨.slice none (hh' - l) c, by simp [Instr.sliceAt, run_und hu, Instr.slice, h1, run_sizeOf hs, hcm], ?_⟩
          rw [he]
          exact .scalar rfl
        | some a =>
          obtain ⟨a', k, rfl⟩ := hx.slice_cap
          obtain ⟨m, h1, h2, h3⟩ := bounds_ok (P := P) (w := w) (k := k) true hl hh hm hb
          have := hx.reslice size h3 (m := m) (c := c) (by
            rcases h2 with ⟨_, h4, h5, h6⟩ | ⟨h4, h5, h6, h7⟩
            · exact .inl ⟨h4, h5, by rcases h6 with h6 | h6 <;> omega⟩
            · exact .inr ⟨h4, h5, h6, h7⟩)
          have e1 : (if c = 0 then some a else Option.map (fun x => x.add (l * size)) (some a)) = some (if c = 0 then a else a.add (l * size)) := by split <;> rfl
          have e2 : (if m = l then some a' else Option.map (fun x => x.add (l * size)) (some a')) = some (if m = l then a' else a'.add (l * size)) := by split <;> rfl
          rw [e1]
          refine ⟨_, ?_, this⟩
          rw [← e2]
          simp [Instr.sliceAt, run_und hu, Instr.slice, h1, run_sizeOf hs]
      · cases h
    · cases h
  · rename_i n elem a hu
    obtain ⟨a', rfl, ha⟩ := hx.ptr_inv
    split at h
    · rename_i l hh' c size hb hs
      split at h
      · cases h
      · rename_i hn
        cases h
        obtain ⟨m, h1, h2, h3⟩ := bounds_ok (P := P) (w := w) (k := 0) false hl hh hm hb
        rw [conc_exact (by omega)] at h1 h2
        have hsure : sureCap n = n := by unfold sureCap; rw [if_pos (by omega)]
        rw [hsure] at h2
        have hml : l ≤ m ∧ m < OPEN ∧ c = m - l := by
          rcases h2 with ⟨_, h4, h5, h6⟩ | ⟨h4, h5, h6, h7⟩
          · rcases h6 with h6 | h6 <;> omega
          · omega
        have hcm : m - l = c := by omega
        have he : (if m = l then a' else a'.add (l * size)) = (if c = 0 then a' else a'.add (l * size)) := by
          by_cases h0 : c = 0
          · rw [if_pos h0, if_pos (by omega)]
          · rw [if_neg h0, if_neg (by omega)]
        refine ⟨.slice (some (if c = 0 then a' else a'.add (l * size))) (hh' - l) c, ?_, ?_⟩
        · simp [Instr.sliceAt, run_und hu, Instr.sureAddr, h1, run_sizeOf hs, he, hcm]
        · have hc' : c < OPEN := by omega
          cases ha with
          | live q1 q2 =>
            rename_i cc k sh
            have := VR.slice (φ := φ) (a := if c = 0 then a else a.add (l * size)) (n := hh' - l) (cap := c) (c := cc) (k := k) (sh := sh) (by split <;> simp [q1, add_block]) (by split; exact q2; rw [add_eq a q2])
            rw [conc_exact hc'] at this
            by_cases h0 : c = 0
            · simpa [h0] using this
            · simp only [h0, if_false] at this ⊢
              rw [add_eq a q2] at this ⊢
              rw [add_mk]
              simpa [Nat.add_right_comm] using this
          | dead q1 =>
            have := VR.sliceDead (φ := φ) (a := if c = 0 then a else a.add (l * size)) (b := if c = 0 then a' else a'.add (l * size)) (n := hh' - l) (cap := c) (k := 0) (by split <;> simp [q1, add_block])
            rw [conc_exact hc'] at this
            exact this
    · cases h
  · cases h

end Go.Abs

/-! The abstract machine's builds, conversions, new blocks stand for the model's; no condition. -/
namespace Go.Abs
variable {C : Cfg} {φ : Phi} {H : Heap} {w : World} {P : Program}

theorem foldSet (off : Nat) : ∀ (vs : List Value) (j : Nat) (cs : Array Value), off + j + vs.length ≤ cs.size →
    ((vs.zipIdx j).foldl (fun cs (x : Value × Nat) => cs.setIfInBounds (off + x.2) x.1) cs).toList = cs.toList.take (off + j) ++ vs ++ cs.toList.drop (off + j + vs.length)
  | [], j, cs, _ => by simp
  | v :: vs, j, cs, h => by
    simp only [List.length_cons] at h
    simp only [List.zipIdx_cons, List.foldl_cons]
    rw [foldSet off vs (j + 1) _ (by simp; omega)]
    have e := list_seg_step cs.toList (off + j) v vs (by simp; omega)
    simpa [Array.toList_setIfInBounds, Nat.add_assoc] using e

inductive PRs (φ : Phi) : List (Nat × Value) → List (Nat × Value) → Prop where
  | nil : PRs φ [] []
  | cons {i : Nat} {v v' : Value} {l l' : List (Nat × Value)} : VR φ v v' → PRs φ l l' → PRs φ ((i, v) :: l) ((i, v') :: l')

theorem VR.csize {v v' : Value} (h : VR φ v v') : v'.cells.size = v.cells.size := by have := h.cells.length; simp at this; exact this.symm

theorem fill_ok (place : Nat → Option (Nat × Nat)) : ∀ (parts parts' : List (Nat × Value)) (cells : List Value) (cells' : Array Value) (l : List Value),
    PRs φ parts parts' → VRs φ cells cells'.toList → fillL place cells parts = some l → ∃ l', Instr.fill place cells' parts' = some l' ∧ VRs φ l l'.toList
  | [], _, cells, cells', l, hp, hc, h => by
    cases hp
    simp [fillL] at h; subst h
    exact ⟨cells', rfl, hc⟩
  | (i, v) :: rest, _, cells, cells', l, hp, hc, h => by
    cases hp with
    | cons h1 h2 =>
      rename_i v' rest'
      simp only [fillL] at h
      simp only [Instr.fill]
      cases hpl : place i with
      | none => rw [hpl] at h; cases h
      | some os =>
        obtain ⟨off, size⟩ := os
        rw [hpl] at h
        simp only at h ⊢
        have hlen := hc.length
        simp at hlen
        rw [h1.csize, ← hlen]
        split at h
        · cases h
        · rename_i hb
          rw [if_neg hb]
          simp at hb
          refine fill_ok place rest rest' _ _ l h2 ?_ h
          rw [← Array.foldl_toList, Array.toList_zipIdx]
          have := foldSet off v'.cells.toList 0 cells' (by have := h1.csize; simp; omega)
          simp only [Nat.add_zero, Array.length_toList] at this
          rw [show (List.foldl (fun cs x => cs.setIfInBounds (off + x.2) x.1) cells' (v'.cells.toList.zipIdx)).toList = _ from this, h1.csize]
          exact ((hc.take _).append h1.cells).append (hc.drop _)

theorem run_mapM_array {α β : Type} (f : α → Sem β) (g : α → β) : ∀ (l : List α) , (∀ x ∈ l, (f x).run P w = .ok (g x) w) → (l.mapM f).run P w = .ok (l.map g) w
  | [], _ => by simp
  | x :: l, h => by
    simp only [List.mapM_cons, Sem.run_bind, h x (by simp), Result.andThen_ok, run_mapM_array f g l (fun y hy => h y (by simp [hy])), Sem.run_pure, List.map_cons]

theorem build_ok {t : TypeId} {parts parts' : List (Nat × Value)} {v : Value} (hp : PRs φ parts parts') (h : buildA P t parts = some v) :
    ∃ v', (Instr.build t parts'.toArray).run P w = .ok v' w ∧ VR φ v v' := by
  unfold buildA at h
  split at h
  · cases h
  · rename_i z hz
    obtain ⟨h1, h2⟩ := run_zero (w := w) hz
    have hzc : VRs φ z.cells.toList z.cells.toList := (VR.const h2).cells
    split at h
    · rename_i fields hu
      split at h
      · rename_i hall
        obtain ⟨l, h3, rfl⟩ := Option.map_eq_some_iff.1 h
        obtain ⟨l', h4, h5⟩ := fill_ok _ _ _ _ _ _ hp hzc h3
        have hm : (fields.mapM fun f => (do pure (f.offset, ← sizeOf f.type) : Sem (Nat × Nat))).run P w = .ok (fields.map fun f => (f.offset, (tsize P f.type).getD 0)) w := by
          rw [← Array.toArray_toList (xs := fields), List.mapM_toArray]
          simp only [Sem.run_map]
          rw [run_mapM_array _ (fun f => (f.offset, (tsize P f.type).getD 0)) fields.toList]
          · simp only [Result.andThen_ok]
            congr 1
            apply Array.ext'
            simp
          · intro f hf
            rw [List.all_eq_true] at hall
            obtain ⟨n, hn⟩ := Option.isSome_iff_exists.1 (hall f hf)
            simp [run_sizeOf hn, hn]
        have hpl : (fun (i : Nat) => (fields.map fun (f : Field) => (f.offset, (tsize P f.type).getD 0))[i]?) = fun (i : Nat) => (fields[i]?).bind fun (f : Field) => (tsize P f.type).map fun n => (f.offset, n) := by
          funext i
          cases hf : fields[i]? with
          | none => simp [hf]
          | some f =>
            rw [List.all_eq_true] at hall
            obtain ⟨n, hn⟩ := Option.isSome_iff_exists.1 (hall f (by
              obtain ⟨h6, h7⟩ := Array.getElem?_eq_some_iff.1 hf
              rw [← h7]; simp))
            simp [hf, hn]
        refine ⟨.agg l', ?_, .agg (by simpa using h5)⟩
        simp only [Instr.build, Sem.run_bind, h1, Result.andThen_ok, run_und hu, hm, hpl, h4]
        rfl
      · cases h
    · rename_i n elem hu
      split at h
      · rename_i size hs
        obtain ⟨l, h3, rfl⟩ := Option.map_eq_some_iff.1 h
        obtain ⟨l', h4, h5⟩ := fill_ok _ _ _ _ _ _ hp hzc h3
        refine ⟨.agg l', ?_, .agg (by simpa using h5)⟩
        simp only [Instr.build, Sem.run_bind, h1, Result.andThen_ok, run_und hu, run_sizeOf hs, h4]
        rfl
      · cases h
    · cases h

end Go.Abs

/-! The abstract machine's new blocks, conversions, lengths stand for the model's; no condition. -/
namespace Go.Abs
variable {C : Cfg} {φ : Phi} {H : Heap} {w : World} {P : Program}

def OpOk (C : Cfg) (φ : Phi) (H : Heap) (w : World) (s : Sem Value) (v : Value) (H' : Heap) : Prop :=
  ∃ φ' w' v', s.run C.P w = .ok v' w' ∧ VR φ' v v' ∧ Rel C φ' H' w' ∧ Ext C φ H w φ' H' w'

theorem OpOk.pure (R : Rel C φ H w) {s : Sem Value} {v : Value} (h : ∃ v', s.run C.P w = .ok v' w ∧ VR φ v v') : OpOk C φ H w s v H :=
  let ⟨v', h1, h2⟩ := h; ⟨φ, w, v', h1, h2, R, .refl⟩

theorem Rel.free (R : Rel C φ H w) : φ H.next = none := R.fresh H.next (Nat.le_refl _)

/-- a new block of cells -/
theorem new_cells (R : Rel C φ H w) {vs : List Value} {e : TypeId} {s : Bool} {k : Nat} {arr : Array Value} {fr : Nat × Nat} {vs' post : List Value} {w' : World}
    (hh : w'.heap = w.heap.push (.cells arr e fr)) (hos : w'.os = w.os) (hout : w'.output = w.output) (htape : w'.tape = w.tape)
    (harr : arr.toList = vs' ++ post) (hv : VRs φ vs vs') (hp : post.length = k * C.P.cellsOf e) (hs : if s then arr.size ≤ fr.1 else fr = (0, 0)) :
    Rel C (φ.put H.next (.live w.heap.size k 0)) (H.new (.cells vs e s)) w' ∧ Ext C φ H w (φ.put H.next (.live w.heap.size k 0)) (H.new (.cells vs e s)) w' :=
  R.new hh hos hout htape ⟨arr, fr, [], vs', post, rfl, by simpa using harr, rfl, hv.mono (φ.le_put _ R.free), hp, hs⟩

theorem AR.new (φ : Phi) (b c k : Nat) : AR (φ.put b (.live c k 0)) ⟨b, 0, none⟩ ⟨c, 0, none⟩ := .live (a := ⟨b, 0, none⟩) (Phi.put_same _ _ _) rfl

theorem box_ok (R : Rel C φ H w) {e : TypeId} {x x' : Value} (hx : VR φ x x') : OpOk C φ H w (Instr.box e x') (.pointer (some ⟨H.next, 0, none⟩)) (H.new (.cells x.cells.toList e false)) := by
  obtain ⟨h1, h2⟩ := new_cells (w' := { w with heap := w.heap.push (.cells x'.cells e) }) (k := 0) (post := []) R (s := false) rfl rfl rfl rfl (List.append_nil _).symm hx.cells (by simp) rfl
  exact ⟨_, _, .pointer (some ⟨w.heap.size, 0, none⟩), by simp [Instr.box, newVar, newRow], (AR.new _ _ _ _).ptr, h1, h2⟩

theorem alloc_ok (R : Rel C φ H w) {e : TypeId} {z : Value} (hz : tzero C.P e = some z) : OpOk C φ H w (Instr.alloc e true (.tuple #[])) (.pointer (some ⟨H.next, 0, none⟩)) (H.new (.cells z.cells.toList e false)) := by
  obtain ⟨h1, h2⟩ := run_zero (w := w) hz
  obtain ⟨h3, h4⟩ := new_cells (w' := { w with heap := w.heap.push (.cells z.cells e) }) (k := 0) (post := []) R (s := false) rfl rfl rfl rfl (List.append_nil _).symm (VR.const h2).cells (by simp) rfl
  exact ⟨_, _, .pointer (some ⟨w.heap.size, 0, none⟩), by simp [Instr.alloc, newVar, newRow, h1], (AR.new _ _ _ _).ptr, h3, h4⟩

theorem makeMap_ok (R : Rel C φ H w) {t : TypeId} : OpOk C φ H w (Instr.makeMap t none) (.map (some H.next)) (H.new (.map [] 0)) := by
  obtain ⟨h1, h2⟩ := R.new (w' := { w with heap := w.heap.push (.map #[] 0) }) (k := 0) (sh := 0) (o := .map [] 0) rfl rfl rfl rfl ⟨#[], rfl, .nil⟩
  exact ⟨_, _, .map (some w.heap.size), by simp [Instr.makeMap], .map (Phi.put_same _ _ _), h1, h2⟩

theorem zeros_length (z : Value) : ∀ n, (zeros z n).length = n * z.cells.size
  | 0 => by simp [zeros]
  | n + 1 => by simp [zeros, zeros_length z n, Nat.add_mul, Nat.add_comm]

theorem zeros_get (z : Value) : ∀ (n i : Nat), i < n * z.cells.size → (zeros z n)[i]? = z.cells.toList[i % z.cells.size]?
  | 0, i, h => by simp at h
  | n + 1, i, h => by
    simp only [zeros]
    by_cases hi : i < z.cells.size
    · rw [List.getElem?_append_left (by simpa using hi), Nat.mod_eq_of_lt hi]
    · rw [List.getElem?_append_right (by simp; omega)]
      have : i - z.cells.toList.length < n * z.cells.size := by
        simp [Nat.add_mul] at h ⊢; omega
      rw [zeros_get z n _ this]
      simp only [Array.length_toList]
      congr 1
      have h0 : z.cells.size ≤ i := by omega
      conv => rhs; rw [← Nat.sub_add_cancel h0]
      simp

theorem zeroRow (z : Value) (n m : Nat) (h : n = m * z.cells.size) : ((Array.range n).map (z.cells[· % z.cells.size]!)).toList = zeros z m := by
  apply List.ext_getElem?
  intro i
  subst h
  by_cases hi : i < m * z.cells.size
  · rw [zeros_get z m i hi]
    have hs : 0 < z.cells.size := by
      rcases Nat.eq_zero_or_pos z.cells.size with h0 | h0
      · rw [h0] at hi; simp at hi
      · exact h0
    have hm : i % z.cells.size < z.cells.size := Nat.mod_lt _ hs
    simp [hi, hm]
  · rw [List.getElem?_eq_none (by simp; omega), List.getElem?_eq_none (by rw [zeros_length]; omega)]

theorem zeros_rel {z : Value} (h : constOk z = true) : ∀ n, VRs φ (zeros z n) (zeros z n)
  | 0 => .nil
  | n + 1 => (VR.const h).cells.append (zeros_rel h n)

theorem zeroCells_eq (z : Value) (n : Nat) : (Builtin.zeroCells z.cells n).toList = zeros z n := zeroRow z _ n rfl

theorem zeroRow0 {z : Value} {n size : Nat} (hs : z.cells.size = size) (h0 : n * size = 0) : ((Array.range (n * size)).map ((#[] : Array Value)[· % (#[] : Array Value).size]!)).toList = zeros z n := by
  have := zeros_length z n
  rw [hs, h0] at this
  rw [h0]
  simp [List.eq_nil_of_length_eq_zero this]

theorem buildSlice_ok (R : Rel C φ H w) {t e : TypeId} {len size : Nat} {z : Value} {parts parts' : List (Nat × Value)} {cells : List Value} (hu : C.P.underlying t = some (.slice e)) (hs : tsize C.P e = some size)
    (hz : tzero C.P e = some z) (hb : ¬ (len * size > 16777216 ∨ z.cells.size ≠ size ∨ OPEN ≤ len)) (hp : PRs φ parts parts')
    (hfl : fillL (fun i => some (i * size, size)) (zeros z len) parts = some cells) :
    OpOk C φ H w (Instr.buildSlice t len parts'.toArray) (.slice (some ⟨H.next, 0, none⟩) len len) (H.new (.cells cells e false)) := by
  simp only [not_or, Nat.not_lt, Decidable.not_not] at hb
  have hb1 : ¬ (len * size > 2 ^ 24) := by have : (2 : Nat) ^ 24 = 16777216 := rfl; omega
  have key : ∀ (zs : Array Value), ((Array.range (len * size)).map (zs[· % zs.size]!)).toList = zeros z len →
      ((if len * size = 0 then pure #[] else do pure (← zeroValue e).cells : Sem (Array Value)) = pure #[] ∧ zs = #[] ∧ len * size = 0 ∨ zs = z.cells ∧ len * size ≠ 0) →
      ∃ φ' w' v', (Instr.buildSlice t len parts'.toArray).run C.P w = .ok v' w' ∧ VR φ' (.slice (some ⟨H.next, 0, none⟩) len len) v' ∧ Rel C φ' (H.new (.cells cells e false)) w' ∧ Ext C φ H w φ' (H.new (.cells cells e false)) w' := fun zs h2 hzs => by
    obtain ⟨l', h3, h4⟩ := fill_ok _ _ _ _ ((Array.range (len * size)).map (zs[· % zs.size]!)) _ hp (by rw [h2]; exact zeros_rel (run_zero (w := w) hz).2 _) hfl
    obtain ⟨h5, h6⟩ := new_cells (w' := { w with heap := w.heap.push (.cells l' e) }) (k := 0) (post := []) R (s := false) rfl rfl rfl rfl (List.append_nil _).symm h4 (by simp) rfl
    have hv := VR.slice (φ := φ.put H.next (.live w.heap.size 0 0)) (a := ⟨H.next, 0, none⟩) (n := len) (cap := len) (Phi.put_same _ _ _) rfl
    rw [conc_exact (by omega)] at hv
    refine ⟨_, _, _, ?_, hv, h5, h6⟩
    rcases hzs with ⟨_, rfl, h0⟩ | ⟨rfl, h0⟩
    · have hz0 : ¬ ((0 : Nat) > 2 ^ 24) := by decide
      simp only [Instr.buildSlice, Sem.run_bind, run_und hu, Result.andThen_ok, run_sizeOf hs, hz0, if_false, h0, if_true, pure_bind] at h3 ⊢
      simp only [h3, newRow, Sem.run_bind, run_newObj, Result.andThen_ok, Sem.run_pure]
    · simp only [Instr.buildSlice, Sem.run_bind, run_und hu, Result.andThen_ok, run_sizeOf hs, hb1, if_false, h0, (run_zero (w := w) hz).1, pure_bind, bind_assoc]
      simp only [h3, newRow, Sem.run_bind, run_newObj, Result.andThen_ok, Sem.run_pure]
  by_cases h0 : len * size = 0
  · exact key #[] (zeroRow0 hb.2.1 h0) (.inl ⟨by simp [h0], rfl, h0⟩)
  · exact key z.cells (zeroRow z _ _ (by rw [hb.2.1])) (.inr ⟨rfl, h0⟩)

theorem makeSlice_ok (R : Rel C φ H w) {t e : TypeId} {size bytes : Nat} {z : Value} {k k' : IntKind} {n m : Int} (hu : C.P.underlying t = some (.slice e)) (hs : tsize C.P e = some size)
    (hby : tbytes C.P e = some bytes) (hz : tzero C.P e = some z)
    (hb : 0 ≤ n ∧ n ≤ m ∧ m * bytes ≤ 140737488355328 ∧ m ≤ 140737488355328 ∧ z.cells.size = size) :
    OpOk C φ H w (Instr.makeSlice t (.int k n) (.int k' m)) (.slice (some ⟨H.next, 0, none⟩) n.toNat m.toNat) (H.new (.cells (zeros z m.toNat) e false)) := by
  have hO : OPEN = 18446744073709551616 := rfl
  unfold tbytes at hby
  obtain ⟨i, hi, hib⟩ := Option.map_eq_some_iff.1 hby
  have w1 : IntKind.i64.wrap n = n := IntWalk.i64_in _ (by omega)
  have w2 : IntKind.i64.wrap m = m := IntWalk.i64_in _ (by omega)
  have hm : ¬ (m < 0) := by omega
  have hm2 : ¬ ((bytes : Int) * m > 2 ^ 48) := by
    have : (2 : Int) ^ 48 = 281474976710656 := rfl
    rw [Int.mul_comm]; omega
  have hm3 : ¬ (n < 0) := by omega
  have hm4 : ¬ (n > m) := by omega
  have hcond : (((decide (m < 0) || decide ((bytes : Int) * m > 2 ^ 48)) || decide (n < 0)) || decide (n > m)) = false := by simp [hm3, hm4]; omega
  have key : ∀ (zs : Array Value), ((Array.range (m.toNat * size)).map (zs[· % zs.size]!)).toList = zeros z m.toNat →
      (zs = #[] ∧ m.toNat * size = 0 ∨ zs = z.cells ∧ m.toNat * size ≠ 0) →
      ∃ φ' w' v', (Instr.makeSlice t (.int k n) (.int k' m)).run C.P w = .ok v' w' ∧ VR φ' (.slice (some ⟨H.next, 0, none⟩) n.toNat m.toNat) v' ∧ Rel C φ' (H.new (.cells (zeros z m.toNat) e false)) w' ∧
        Ext C φ H w φ' (H.new (.cells (zeros z m.toNat) e false)) w' := fun zs h2 hzs => by
    obtain ⟨h5, h6⟩ := new_cells (w' := { w with heap := w.heap.push (.cells ((Array.range (m.toNat * size)).map (zs[· % zs.size]!)) e) }) (k := 0) (post := []) R (s := false) rfl rfl rfl rfl (List.append_nil _).symm
      (vs := zeros z m.toNat) (by rw [h2]; exact zeros_rel (run_zero (w := w) hz).2 _) (by simp) rfl
    have hv := VR.slice (φ := φ.put H.next (.live w.heap.size 0 0)) (a := ⟨H.next, 0, none⟩) (n := n.toNat) (cap := m.toNat) (Phi.put_same _ _ _) rfl
    rw [conc_exact (by omega)] at hv
    refine ⟨_, _, _, ?_, hv, h5, h6⟩
    rcases hzs with ⟨rfl, h0⟩ | ⟨rfl, h0⟩
    · simp only [Instr.makeSlice, Sem.run_bind, run_und hu, Result.andThen_ok, asInt, asIntOf, Sem.run_pure, run_info hi, hib, w1, w2, hcond, Bool.false_eq_true, if_false, run_askRoom, run_sizeOf hs, h0, if_true, pure_bind, newRow, run_newObj]
    · simp only [Instr.makeSlice, Sem.run_bind, run_und hu, Result.andThen_ok, asInt, asIntOf, Sem.run_pure, run_info hi, hib, w1, w2, hcond, Bool.false_eq_true, if_false, run_askRoom, run_sizeOf hs, h0, pure_bind, newRow, run_newObj, (run_zero (w := w) hz).1, bind_assoc]
  by_cases h0 : m.toNat * size = 0
  · exact key #[] (zeroRow0 hb.2.2.2.2 h0) (.inl ⟨rfl, h0⟩)
  · exact key z.cells (zeroRow z _ _ (by rw [hb.2.2.2.2])) (.inr ⟨rfl, h0⟩)

end Go.Abs

/-! The abstract machine's conversions and lengths stand for the model's; no condition. -/
namespace Go.Abs
variable {C : Cfg} {φ : Phi} {H : Heap} {w : World} {P : Program}

theorem cellsOf_eq {e : TypeId} {n : Nat} (h : tsize P e = some n) : P.cellsOf e = n := by
  unfold tsize at h; simp [Program.cellsOf, h]

theorem scalars_ints {α : Type} (l : List α) (f : α → Value) (hf : ∀ x, scalar (f x) = true) : (l.map f).all scalar = true := by
  rw [List.all_eq_true]; intro v hv
  obtain ⟨x, _, rfl⟩ := List.mem_map.1 hv
  exact hf x

theorem bytesVal_rel (s : ByteArray) : VRs φ (bytesVal s) (bytesVal s) := VRs.scalars (scalars_ints _ _ fun _ => rfl)

theorem bytesVal_length (s : ByteArray) : (bytesVal s).length = s.size := by rw [bytesVal, List.length_map, Array.length_toList]; rfl

theorem modify_push (h : Array Obj) (o : Obj) (f : Obj → Obj) : (h.push o).modify h.size f = h.push (f o) := by
  apply Array.ext
  · simp
  · intro i h1 h2
    simp at h1 h2
    rw [Array.getElem_modify]
    by_cases hi : i = h.size
    · subst hi; simp
    · have : ¬ h.size = i := fun e => hi e.symm
      simp only [this, if_false]
      rw [Array.getElem_push_lt (by omega), Array.getElem_push_lt (by omega)]

theorem toStr_ok : ∀ (l l' : List Value) (acc s : ByteArray), VRs φ l l' → toStr l acc = some s →
    (forIn l' acc (fun c (r : ByteArray) => (match c with
      | .int .u8 n => pure (ForInStep.yield (r.push (UInt8.ofNat n.toNat)))
      | _ => do
        stuck "bytesToString: byte expected"
        pure (ForInStep.yield r) : Sem (ForInStep ByteArray)))).run P w = .ok s w
  | [], _, acc, s, h, hs => by
    cases h; simp [toStr] at hs; subst hs; simp
  | v :: l, _, acc, s, h, hs => by
    cases h with
    | cons h1 h2 =>
      unfold toStr at hs
      split at hs
      · rename_i heq; cases heq
      · rename_i n r acc' heq
        cases heq
        rw [h1.int_inv]
        simp only [List.forIn_cons, Sem.run_bind, Sem.run_pure, Result.andThen_ok]
        exact toStr_ok l _ _ s h2 hs
      · cases hs

theorem conv_ok (R : Rel C φ H w) {src dst : TypeId} {x x' v : Value} {H' : Heap} (hx : VR φ x x') (h : convA C.P src dst x H = some (v, H')) : OpOk C φ H w (convert src dst x') v H' := by
  unfold convA at h
  split at h
  · rename_i d k k' n hs hd
    cases h
    rw [hx.int_inv]
    exact .pure R ⟨_, by simp [convert, run_und hs, run_und hd, Conv.intToInt], .scalar rfl⟩
  · rename_i s hs hd
    cases h
    rw [hx.str_inv]
    exact .pure R ⟨_, by simp [convert, run_und hs, run_und hd], .scalar rfl⟩
  · rename_i e s hs hd
    rw [hx.str_inv]
    split at h
    · rename_i hu hsz
      cases h
      have hcells := cellsOf_eq hsz
      obtain ⟨cap, hcap, hle⟩ : ∃ cap, Question.cut (.appendCap s.size 0 e) (w.tape w.drawn (.appendCap s.size 0 e)) = cap ∧ s.size ≤ cap := ⟨_, rfl, by simp [Question.cut]⟩
      obtain ⟨arr, harr⟩ : ∃ arr : Array Value, (s.data.map fun b => Value.int .u8 b.toNat) ++ Array.replicate (cap - s.size) (.int .u8 0) = arr := ⟨_, rfl⟩
      have hlist : arr.toList = bytesVal s ++ List.replicate (cap - s.size) (.int .u8 0) := by rw [← harr]; simp [bytesVal]
      have hasz : arr.size = cap := by rw [← Array.length_toList, hlist]; simp [bytesVal_length]; omega
      obtain ⟨h5, h6⟩ := new_cells (w' := { w with drawn := w.drawn + 1, heap := w.heap.push (.cells arr e (arr.size, arr.size + 1)) }) (k := cap - s.size) R (s := true) rfl rfl rfl rfl hlist (bytesVal_rel s)
        (by simp [hcells]) (by simp)
      have hv := VR.slice (φ := φ.put H.next (.live w.heap.size (cap - s.size) 0)) (a := ⟨H.next, 0, none⟩) (n := s.size) (cap := OPEN + s.size) (Phi.put_same _ _ _) rfl
      have hc : conc (OPEN + s.size) (cap - s.size) = cap := by unfold conc; rw [if_neg (by omega)]; omega
      rw [hc] at hv
      refine ⟨_, _, _, ?_, hv, h5, h6⟩
      simp only [convert, Sem.run_bind, run_und hs, run_und hd, Result.andThen_ok, run_und hu, Conv.stringToBytes, run_choose, Question.forced, Bool.false_eq_true, if_false, hcap, harr, newRow, run_newObj, Sem.run_pure, markStringish, run_shape,
        World.shape?, Array.getElem?_push_size, run_freeze, World.freeze]
      simp only [(by decide : ¬ ((1 : Nat) = 0)), if_false, modify_push]
      rfl
    · cases h
  · rename_i e a n c hs hd
    split at h
    · rename_i hu
      split at h
      · cases h
        rw [hx.nilSlice_inv]
        exact .pure R ⟨_, by simp [convert, run_und hs, run_und hd, run_und hu, Conv.bytesToString], .scalar rfl⟩
      · rename_i a
        split at h
        · rename_i l hl
          obtain ⟨s, h1, h2⟩ := Option.map_eq_some_iff.1 h
          cases h2
          obtain ⟨a', k, rfl⟩ := hx.slice_cap
          obtain ⟨vs', h3, h4⟩ := load_sound R (a' := a') (by
            rcases Nat.eq_zero_or_pos n with h0 | h0
            · exact .inl h0
            · exact .inr (hx.slice_add h0)) hl
          refine .pure R ⟨.string s, ?_, .scalar rfl⟩
          simp only [convert, Sem.run_bind, run_und hs, run_und hd, Result.andThen_ok, run_und hu, Conv.bytesToString, h4]
          have := toStr_ok (P := C.P) (w := w) l vs' .empty s h3 h1
          rw [← Array.forIn_toList]
          exact congrArg (fun r : Result ByteArray => r.andThen fun a w' => Result.ok (Value.string a) w') this
        · cases h
    · cases h
  · cases h

theorem mapOf_ok (R : Rel C φ H w) {x x' : Value} {es : List MapEntry} (hx : VR φ x x') (h : mapOf H x = some es) :
    (x' = .map none ∧ es = []) ∨ ∃ r c es' clock, x = .map (some r) ∧ x' = .map (some c) ∧ H.get r = some (.map es clock) ∧ w.heap[c]? = some (.map es' clock) ∧ ES φ es es'.toList ∧ (∃ k sh, φ r = some (.live c k sh)) := by
  unfold mapOf at h
  split at h
  · cases h
    exact .inl ⟨hx.nilMap_inv, rfl⟩
  · rename_i r
    split at h
    · rename_i clock hg
      cases h
      cases hx with
      | scalar h => simp [Abs.scalar] at h
      | map h1 =>
        obtain ⟨o', h4, h5⟩ := R.live _ _ _ _ _ h1 hg
        obtain ⟨es', rfl, h6⟩ := h5
        exact .inr ⟨_, _, es', clock, rfl, rfl, hg, h4, h6, _, _, h1⟩
      | mapDead h1 => rw [R.dead _ h1] at hg; cases hg
    · cases h
  · cases h

theorem len_ok (R : Rel C φ H w) {t ty : TypeId} {x x' v : Value} (hx : VR φ x x') (h : lenOfA C.P t x H = some v) :
    (Builtin.len_ #[t] ty #[x']).run C.P w = .ok v w ∧ scalar v = true := by
  unfold lenOfA at h
  split at h
  · rename_i hu
    rw [hx.str_inv]; cases h
    exact ⟨by simp [Builtin.len_, run_und hu, goInt], rfl⟩
  · rename_i hu
    rename_i a n c
    cases h
    cases a with
    | none => rw [hx.nilSlice_inv]; exact ⟨by simp [Builtin.len_, run_und hu, goInt], rfl⟩
    | some a => obtain ⟨a', k, rfl⟩ := hx.slice_cap; exact ⟨by simp [Builtin.len_, run_und hu, goInt], rfl⟩
  · rename_i hu
    obtain ⟨es, h1, rfl⟩ := Option.map_eq_some_iff.1 h
    rcases mapOf_ok R hx h1 with ⟨rfl, rfl⟩ | ⟨r, c, es', clock, rfl, rfl, h2, h3, h4, _⟩
    · exact ⟨by simp [Builtin.len_, run_und hu, goInt], rfl⟩
    · refine ⟨?_, rfl⟩
      have := h4.length
      simp at this
      have hg : (getObj c).run C.P w = .ok (.map es' clock) w := by simp [getObj, Sem.run, h3]
      simp [Builtin.len_, run_und hu, goInt, hg, this]
  · rename_i hu
    cases h
    exact ⟨by simp [Builtin.len_, run_und hu, goInt], rfl⟩
  · cases h

end Go.Abs

/-! The abstract machine's append and copy stand for the model's; no condition. -/
namespace Go.Abs
variable {C : Cfg} {φ : Phi} {H : Heap} {w : World} {P : Program}

/-- A block's object is seen under a new name, whatever it has become; the old name is nobody's. -/
theorem Rel.move (R : Rel C φ H w) {b c k sh k' sh' : Nat} {o : AObj} {o' : Obj} {heap : Array Obj} (hb : H.get b ≠ none) (hG : G0 C.P ≤ b) (hK : ∀ g ∈ C.K, g < G0 C.P) (hφ : φ b = some (.live c k sh))
    (hsz : heap.size = w.heap.size) (hc : heap[c]? = some o') (hoth : ∀ j, j ≠ c → heap[j]? = w.heap[j]?)
    (ho : OR C.P ((φ.put b .dead).put H.next (.live c k' sh')) k' sh' o o') :
    Rel C ((φ.put b .dead).put H.next (.live c k' sh')) ((H.kill b).new o) { w with heap := heap } ∧
    Ext C φ H w ((φ.put b .dead).put H.next (.live c k' sh')) ((H.kill b).new o) { w with heap := heap } := by
  have hf := R.free
  have hblt : b < H.next := by
    rcases Nat.lt_or_ge b H.next with h1 | h1
    · exact h1
    · exact absurd (R.wf b h1) hb
  have hbn : b ≠ H.next := by omega
  have hle1 : φ.le (φ.put b .dead) := fun b' y hy => by
    by_cases e : b' = b
    · subst e; exact .inr (Phi.put_same _ _ _)
    · exact .inl (by rw [Phi.put_other _ _ e]; exact hy)
  have hle : φ.le ((φ.put b .dead).put H.next (.live c k' sh')) := Phi.le_trans hle1 (Phi.le_put _ _ (by rw [Phi.put_other _ _ (fun e => hbn e.symm)]; exact hf))
  have inv : ∀ {b1 x}, ((φ.put b .dead).put H.next (.live c k' sh')) b1 = some x → (b1 = H.next ∧ x = .live c k' sh') ∨ (b1 = b ∧ x = .dead) ∨ (b1 ≠ H.next ∧ b1 ≠ b ∧ φ b1 = some x) := fun {b1 x} h => by
    by_cases e1 : b1 = H.next
    · subst e1; rw [Phi.put_same] at h; cases h; exact .inl ⟨rfl, rfl⟩
    · rw [Phi.put_other _ _ e1] at h
      by_cases e2 : b1 = b
      · subst e2; rw [Phi.put_same] at h; cases h; exact .inr (.inl ⟨rfl, rfl⟩)
      · rw [Phi.put_other _ _ e2] at h; exact .inr (.inr ⟨e1, e2, h⟩)
  have hnc : ∀ {b1 c1 k1 sh1}, b1 ≠ b → φ b1 = some (.live c1 k1 sh1) → c1 ≠ c := fun {b1 c1 k1 sh1} hne h1 e => hne (R.inj _ _ _ _ _ _ _ (e ▸ h1) hφ)
  refine ⟨⟨fun b1 c1 k1 sh1 o1 h1 hg1 => ?_, fun b1 h1 => ?_, fun b1 b2 c1 k1 sh1 k2 sh2 h1 h2 => ?_, fun b1 c1 k1 sh1 h1 => ?_, fun b1 hb1 => ?_, fun b1 hb1 => ?_, fun g hg => ?_, Nat.le_succ_of_le R.first⟩,
    ⟨fun b1 x hx => ?_, fun b1 h1 h2 => ?_, fun b1 hb1 h1 => ?_, Nat.le_succ _, by simp only; omega, fun c1 hc1 hn => ?_, fun b1 c1 k1 sh1 hb1 h1 => ?_, rfl, rfl, rfl⟩⟩
  · rcases inv h1 with ⟨rfl, h2⟩ | ⟨_, h2⟩ | ⟨h2, h3, h4⟩
    · cases h2
      simp at hg1; subst hg1
      exact ⟨o', hc, ho⟩
    · cases h2
    · simp [h2, h3] at hg1
      obtain ⟨p', h6, h7⟩ := R.live b1 c1 k1 sh1 o1 h4 hg1
      exact ⟨p', by simp only; rw [hoth c1 (hnc h3 h4)]; exact h6, h7.mono hle⟩
  · rcases inv h1 with ⟨_, h2⟩ | ⟨rfl, _⟩ | ⟨h2, h3, h4⟩
    · cases h2
    · simp [hbn]
    · simp [h2, h3, R.dead b1 h4]
  · rcases inv h1 with ⟨rfl, h3⟩ | ⟨_, h3⟩ | ⟨h3, h4, h5⟩
    · cases h3
      rcases inv h2 with ⟨rfl, h6⟩ | ⟨_, h6⟩ | ⟨h6, h7, h8⟩
      · rfl
      · cases h6
      · exact absurd rfl (hnc h7 h8)
    · cases h3
    · rcases inv h2 with ⟨rfl, h6⟩ | ⟨_, h6⟩ | ⟨h6, h7, h8⟩
      · cases h6; exact absurd rfl (hnc h4 h5)
      · cases h6
      · exact R.inj _ _ _ _ _ _ _ h5 h8
  · rcases inv h1 with ⟨rfl, h3⟩ | ⟨_, h3⟩ | ⟨h3, h4, h5⟩
    · cases h3; have := R.low _ _ _ _ hφ; simp only; omega
    · cases h3
    · have := R.low _ _ _ _ h5; simp only; omega
  · simp at hb1
    have h2 : b1 ≠ H.next := by omega
    have h3 : b1 ≠ b := by omega
    simp [h2, h3, R.wf b1 (by omega)]
  · simp at hb1
    rw [Phi.put_other _ _ (by omega), Phi.put_other _ _ (by omega)]; exact R.fresh b1 (by omega)
  · have h1 := R.glob g hg
    have h2 : g ≠ b := by have := hK g hg; omega
    have h3 : g ≠ H.next := fun e => by subst e; rw [hf] at h1; cases h1
    rw [Phi.put_other _ _ h3, Phi.put_other _ _ h2]; exact h1
  · have h3 : b1 ≠ H.next := fun e => by subst e; rw [hf] at hx; cases hx
    rw [Phi.put_other _ _ h3]
    by_cases e : b1 = b
    · subst e; exact .inr ⟨Phi.put_same _ _ _, hG, hb⟩
    · exact .inl (by rw [Phi.put_other _ _ e]; exact hx)
  · have h3 : b1 ≠ H.next := by omega
    have h1 := h2
    have h4 : b1 ≠ b := fun e => by subst e; rw [h1] at hφ; cases hφ
    rw [Phi.put_other _ _ h3, Phi.put_other _ _ h4]; exact h1
  · have h2 : b1 ≠ H.next := by omega
    simp [h2, h1]
  · simp only
    exact hoth c1 (fun e => hn b k sh hb (e ▸ hφ))
  · rcases inv h1 with ⟨rfl, h3⟩ | ⟨_, h3⟩ | ⟨h3, h4, h5⟩
    · cases h3; exact .inr ⟨b, k, sh, hb, hφ⟩
    · cases h3
    · exact .inr ⟨b1, k1, sh1, by simpa [h3, h4] using hb1, h5⟩

theorem grow_le (newLen : Nat) : ∀ (r c : Nat), c ≤ 2 * newLen + 1024 → Builtin.growBy newLen r c ≤ 2 * newLen + 1024
  | 0, c, h => by simpa [Builtin.growBy] using h
  | r + 1, c, h => by
    unfold Builtin.growBy
    split
    · exact h
    · exact grow_le newLen r _ (by omega)

theorem nextcap_le (need old : Nat) (h : old < need) : Builtin.nextslicecap need old ≤ 2 * need + 1024 := by
  unfold Builtin.nextslicecap
  split
  · omega
  · split
    · omega
    · exact grow_le _ _ _ (by omega)

/-- The second half of append: what is to be added is known. -/
def tailM (elem size sLen sCap n : Nat) (base : Option Addr) (zs : Bool) (x s : Value) (appended : Sem (Array Value)) : Sem Value :=
  if sLen + n ≤ sCap then do
    let new ← appended
    if let some a := base then Go.storeCells (a.add (sLen * size)) new.toList
    pure (.slice base (sLen + n) sCap)
  else do
    if ((sLen + n : Nat) : Int) > IntKind.i64.max ∧ (zs ∨ (← typeInfo elem).bytes = 0) then runtimePanic (.error "growslice: len out of range")
    if Builtin.nextslicecap (sLen + n) sCap * (← typeInfo elem).bytes > 2 ^ 48 then (if zs then runtimePanic (.error "growslice: len out of range") else do
      if !(← Builtin.mayShare size sLen n base x) then mark .noRoom
      unsupported (.resourceLimit "append: a slice or a string whose bytes no memory bears"))
    let newCap ← choose (.appendCap (sLen + n) sCap elem)
    askRoom (newCap * (← typeInfo elem).bytes)
    let old ← Builtin.firstCells size sLen s
    let new ← appended
    let rest := Builtin.zeroCells (← zeroValue elem).cells (newCap - (sLen + n))
    pure (.slice (some (← newRow elem (old ++ new ++ rest))) (sLen + n) newCap)

theorem tail_run {elem size sLen sCap n bytes : Nat} {base : Option Addr} {zs : Bool} {x s z : Value} {appended : Sem (Array Value)} {old new : Array Value} (hn : ¬ sLen + n ≤ sCap)
    (hby : tbytes P elem = some bytes) (hz : tzero P elem = some z) (h1 : (2 * (sLen + n) + 1024) * bytes ≤ 281474976710656) (h2 : sLen + n ≤ 4611686018427387904)
    (hold : ∀ w1 : World, w1.heap = w.heap → (Builtin.firstCells size sLen s).run P w1 = .ok old w1) (hnew : ∀ w1 : World, w1.heap = w.heap → appended.run P w1 = .ok new w1) :
    ∃ cap, sLen + n ≤ cap ∧ (tailM elem size sLen sCap n base zs x s appended).run P w =
      .ok (.slice (some ⟨w.heap.size, 0, none⟩) (sLen + n) cap) { w with drawn := w.drawn + 1, heap := w.heap.push (.cells (old ++ new ++ Builtin.zeroCells z.cells (cap - (sLen + n))) elem) } := by
  unfold tbytes at hby
  obtain ⟨i, hi, hib⟩ := Option.map_eq_some_iff.1 hby
  have q1 : ¬ (((sLen + n : Nat) : Int) > IntKind.i64.max) := by
    have : IntKind.i64.max = 9223372036854775807 := by decide
    omega
  have q2 : ¬ (Builtin.nextslicecap (sLen + n) sCap * bytes > 2 ^ 48) := by
    have a1 := nextcap_le (sLen + n) sCap (by omega)
    have a2 := Nat.mul_le_mul_right bytes a1
    have : (2 : Nat) ^ 48 = 281474976710656 := rfl
    omega
  refine ⟨Question.cut (.appendCap (sLen + n) sCap elem) (w.tape w.drawn (.appendCap (sLen + n) sCap elem)), by simp [Question.cut], ?_⟩
  unfold tailM
  rw [if_neg hn]
  simp only [Sem.run_bind, run_info hi, Result.andThen_ok, hib, q1, false_and, if_false, q2, run_choose, Question.forced, Bool.false_eq_true, run_askRoom, hold { w with drawn := w.drawn + 1 } rfl, hnew { w with drawn := w.drawn + 1 } rfl,
    (run_zero (w := { w with drawn := w.drawn + 1 }) hz).1, newRow, run_newObj, Sem.run_pure]

theorem first_ok (R : Rel C φ H w) {size n m : Nat} {x x' : Value} {new : List Value} (hx : VR φ x x') (hm : lenA x = some m) (hn : n ≤ m) (h : firstA size n H x = some new) :
    ∃ new', VRs φ new new' ∧ ∀ w1 : World, w1.heap = w.heap → (Builtin.firstCells size n x').run C.P w1 = .ok new'.toArray w1 := by
  unfold firstA at h
  split at h
  · rename_i a len cap
    cases hm
    obtain ⟨a', k, rfl⟩ := hx.slice_cap
    have ha : n * size = 0 ∨ AR φ a a' := by
      rcases Nat.eq_zero_or_pos n with h0 | h0
      · exact .inl (by rw [h0]; simp)
      · exact .inr (hx.slice_add (by omega))
    have key : ∀ w1 : World, w1.heap = w.heap → ∃ vs', VRs φ new vs' ∧ (loadCells a' (n * size)).run C.P w1 = .ok vs'.toArray w1 := fun w1 h1 =>
      load_sound (w := w1) ⟨fun b c k sh o hb hf => by rw [h1]; exact R.live b c k sh o hb hf, R.dead, R.inj, fun b c k sh hf => by rw [h1]; exact R.low b c k sh hf, R.wf, R.fresh, R.glob, R.first⟩ ha h
    obtain ⟨vs', h2, h3⟩ := key w rfl
    refine ⟨vs', h2, fun w1 h1 => ?_⟩
    have hcell : ∀ ad, w1.cell? ad = w.cell? ad := fun ad => by simp [World.cell?, h1]
    obtain ⟨vs2, _, h4⟩ := key w1 h1
    have hsame : (loadCells a' (n * size)).run C.P w1 = .ok vs'.toArray w1 := by
      unfold loadN at h
      by_cases h0 : n * size = 0
      · rw [h0] at h3 ⊢
        have : vs'.toArray = #[] := by
          simp only [loadCells, loadCellsFrom, Sem.run_pure, Result.ok.injEq] at h3
          exact h3.1.symm
        rw [this]; rfl
      · simp only [h0, if_false] at h
        split at h
        · cases h
        · split at h
          · rename_i vs0 e s hg
            split at h
            · rename_i hlen
              obtain ⟨c, k2, sh, arr, fr, pre, vs3, post, q1, q2, rfl, q4, q5, q6, q7, q8, q9, q10⟩ := R.cells (ha.resolve_left h0) hg
              have hl := q8.length
              have q5' : w1.heap[c]? = some (.cells arr e fr) := by rw [h1]; exact q5
              have go : ∀ ww : World, ww.heap[c]? = some (.cells arr e fr) → (loadCells ⟨c, a.off + sh, none⟩ (n * size)).run C.P ww = .ok ((vs3.drop a.off).take (n * size)).toArray ww := fun ww hww => by
                have hn2 : ((vs3.drop a.off).take (n * size)).length = n * size := by simp; omega
                have := run_loadCells_list (P := C.P) ww ⟨c, a.off + sh, none⟩ ((vs3.drop a.off).take (n * size)) (fun j v hj => by
                  have hjn : j < n * size := by have := (List.getElem?_eq_some_iff.1 hj).1; omega
                  rw [add_mk, cell_of_list hww, q6, show a.off + sh + j = pre.length + (a.off + j) by omega, mid_get, if_pos (by omega)]
                  rw [List.getElem?_take_of_lt hjn, List.getElem?_drop] at hj
                  exact hj)
                rw [hn2] at this
                exact this
              have g1 := go w q5
              rw [g1] at h3
              simp only [Result.ok.injEq, and_true] at h3
              rw [go w1 q5', h3]
            · cases h
          · cases h
    simp only [Builtin.firstCells]
    exact hsame
  · cases h
    rw [hx.nilSlice_inv]
    exact ⟨[], .nil, fun _ _ => rfl⟩
  · rename_i s
    cases h
    rw [hx.str_inv]
    refine ⟨_, VRs.scalars (scalars_ints _ _ fun _ => rfl), fun _ _ => ?_⟩
    simp only [Builtin.firstCells, Sem.run_pure]
    congr 1
    apply Array.ext'
    simp
  · cases h

theorem lenA_eq {x x' : Value} (hx : VR φ x x') {m : Nat} (h : lenA x = some m) : (Builtin.lenOf x').run P w = .ok m w := by
  unfold lenA at h
  split at h
  · rename_i a n c
    cases h
    cases a with
    | none => rw [hx.nilSlice_inv]; rfl
    | some a => obtain ⟨a', k, rfl⟩ := hx.slice_cap; rfl
  · cases h; rw [hx.str_inv]; rfl
  · cases h

theorem newSlice (φ : Phi) (b c need k sh : Nat) : VR (φ.put b (.live c k sh)) (.slice (some ⟨b, 0, none⟩) need (OPEN + need)) (.slice (some ⟨c, sh, none⟩) need (need + k)) := by
  have hv := VR.slice (φ := φ.put b (.live c k sh)) (a := ⟨b, 0, none⟩) (n := need) (cap := OPEN + need) (Phi.put_same _ _ _) rfl
  have hc : conc (OPEN + need) k = need + k := by unfold conc; rw [if_neg (by omega)]; omega
  rw [hc] at hv
  simpa using hv

theorem VR.relen {a : Addr} {n m cap : Nat} {v : Value} (hx : VR φ (.slice (some a) n cap) v) (hm : m ≤ sureCap cap) : ∃ a' k, v = .slice (some a') n (conc cap k) ∧ VR φ (.slice (some a) m cap) (.slice (some a') m (conc cap k)) ∧ (m = 0 ∨ AR φ a a') := by
  cases hx with
  | scalar h => simp [Abs.scalar] at h
  | slice h1 h2 => exact ⟨_, _, rfl, .slice h1 h2, .inr (.live h1 h2)⟩
  | sliceDead h1 => exact ⟨_, _, rfl, .sliceDead h1, .inr (.dead h1)⟩
  | sliceEnd h0 h1 =>
    have hm0 : m = 0 := by rcases h1 with rfl | rfl <;> simp [sureCap, OPEN] at hm <;> exact hm
    have hc : conc cap 0 = 0 := by rcases h1 with rfl | rfl <;> simp [conc, OPEN]
    refine ⟨_, 0, by rw [hc], ?_, .inl hm0⟩
    rw [hc, hm0]
    exact .sliceEnd h0 h1

theorem tail_ok (R : Rel C φ H w) (hK : ∀ g ∈ C.K, g < G0 C.P) {elem size n sLen sCap : Nat} {base : Option Addr} {zs : Bool} {x' z v s' : Value} {new new' : List Value} {H' : Heap} {appended : Sem (Array Value)}
    (hs : VR φ (.slice base sLen sCap) s') (hz : tzero C.P elem = some z) (hsz : tsize C.P elem = some size) (hnew : VRs φ new new') (happ : ∀ w1 : World, w1.heap = w.heap → appended.run C.P w1 = .ok new'.toArray w1)
    (h : growA C.P elem z (.slice base sLen sCap) new n H = some (v, H')) :
    ∃ base' sCap', s' = .slice base' sLen sCap' ∧ OpOk C φ H w (tailM elem size sLen sCap' n base' zs x' (.slice base' sLen sCap') appended) v H' := by
  simp only [growA, hsz] at h
  cases hby : tbytes C.P elem with
  | none => rw [hby] at h; cases h
  | some bytes =>
    rw [hby] at h
    simp only at h
    by_cases hb : (2 * (sLen + n) + 1024) * bytes > 281474976710656 ∨ new.length ≠ n * size ∨ z.cells.size ≠ size ∨ sLen + n > 4611686018427387904
    · rw [if_pos hb] at h; cases h
    · rw [if_neg hb] at h
      simp only [not_or, Nat.not_lt, Decidable.not_not] at hb
      obtain ⟨hb1, hb2, hb3, hb4⟩ := hb
      have hcell := cellsOf_eq hsz
      have hnl := hnew.length
      by_cases hin : sLen + n ≤ sureCap sCap
      · rw [if_pos hin] at h
        cases base with
        | none =>
          simp only at h
          have e := hs.nilSlice_inv
          subst e
          refine ⟨none, sCap, rfl, ?_⟩
          split at h
          · rename_i hn0
            cases h
            subst hn0
            have hn0 : new = [] := List.eq_nil_of_length_eq_zero (by rw [hb2]; simp)
            subst hn0
            cases hnew
            refine ⟨φ, w, .slice none (sLen + 0) sCap, ?_, .scalar rfl, R, .refl⟩
            have hin' : sLen + 0 ≤ sCap := by unfold sureCap at hin; split at hin <;> omega
            unfold tailM
            rw [if_pos hin']
            simp [happ w rfl]
          · cases h
        | some a =>
          simp only at h
          obtain ⟨H1, h1, h2⟩ := Option.map_eq_some_iff.1 h
          cases h2
          obtain ⟨a', k, rfl, hv, ha⟩ := hs.relen hin
          refine ⟨_, _, rfl, ?_⟩
          have ha2 : new = [] ∨ AR φ (a.add (sLen * size)) (a'.add (sLen * size)) := by
            rcases ha with h0 | h0
            · refine .inl (List.eq_nil_of_length_eq_zero ?_)
              have : n = 0 := by omega
              rw [hb2, this]; simp
            · exact .inr (h0.add _)
          obtain ⟨w', h3, h4, h5⟩ := store_sound R ha2 hnew h1
          refine ⟨φ, w', .slice (some a') (sLen + n) (conc sCap k), ?_, hv, h4, h5⟩
          unfold tailM
          rw [if_pos (Nat.le_trans hin (sure_le _ _))]
          simp only [Sem.run_bind, happ w rfl, Result.andThen_ok]
          have h3' : (Go.storeCells (a'.add (sLen * size)) new' 0).run C.P w = .ok () w' := h3
          simp [h3']
      · rw [if_neg hin] at h
        have fin : ∀ {base' : Option Addr} {sCap' : Nat} {old' : Array Value} {old : List Value} {φ1 : Phi} {H1 : Heap}, ¬ sLen + n ≤ sCap' → (∀ w1 : World, w1.heap = w.heap → (Builtin.firstCells size sLen (.slice base' sLen sCap')).run C.P w1 = .ok old' w1) →
            VRs φ1 old old'.toList → φ.le φ1 → Rel C φ1 H1 w → Ext C φ H w φ1 H1 w →
            ∃ φ' w' v', (tailM elem size sLen sCap' n base' zs x' (.slice base' sLen sCap') appended).run C.P w = .ok v' w' ∧ VR φ' (.slice (some ⟨H1.next, 0, none⟩) (sLen + n) (OPEN + (sLen + n))) v' ∧
              Rel C φ' (H1.new (.cells (old ++ new) elem false)) w' ∧ Ext C φ H w φ' (H1.new (.cells (old ++ new) elem false)) w' := fun {base' sCap' old' old φ1 H1} hn' hold ho hle R1 E1 => by
          obtain ⟨cap, hcap, hrun⟩ := tail_run (P := C.P) (w := w) (base := base') (zs := zs) (x := x') hn' hby hz hb1 hb4 hold happ
          obtain ⟨h5, h6⟩ := new_cells (w' := { w with drawn := w.drawn + 1, heap := w.heap.push (.cells (old' ++ new'.toArray ++ Builtin.zeroCells z.cells (cap - (sLen + n))) elem) }) (k := cap - (sLen + n)) (fr := (0, 0)) (s := false)
            (e := elem) (vs := old ++ new) (vs' := old'.toList ++ new') (post := zeros z (cap - (sLen + n))) R1 rfl rfl rfl rfl (by simp [zeroCells_eq]) (ho.append (hnew.mono hle)) (by rw [zeros_length, hb3, hcell]) rfl
          have hv := newSlice φ1 H1.next w.heap.size (sLen + n) (cap - (sLen + n)) 0
          rw [show sLen + n + (cap - (sLen + n)) = cap by omega] at hv
          exact ⟨_, _, _, hrun, hv, h5, E1.trans R.fresh h6⟩
        by_cases hx : sCap < OPEN
        · rw [if_pos hx] at h
          have hsure : sureCap sCap = sCap := by unfold sureCap; rw [if_pos hx]
          rw [hsure] at hin
          cases base with
          | none =>
            simp only at h
            have e := hs.nilSlice_inv
            subst e
            refine ⟨none, sCap, rfl, ?_⟩
            by_cases hl0 : sLen = 0
            · rw [if_pos hl0] at h
              cases h
              exact fin (old := []) (old' := #[]) hin (fun w1 _ => rfl) .nil (Phi.le_refl _) R .refl
            · rw [if_neg hl0] at h; cases h
          | some a =>
            simp only at h
            split at h
            · rename_i old hl
              cases h
              obtain ⟨a', k, rfl⟩ := hs.slice_cap
              refine ⟨some a', _, rfl, ?_⟩
              rw [conc_exact hx]
              rw [conc_exact hx] at hs
              obtain ⟨old', ho, hrun⟩ := first_ok (size := size) (n := sLen) R hs rfl (Nat.le_refl _) hl
              exact fin hin hrun (by simpa using ho) (Phi.le_refl _) R .refl
            · cases h
        · rw [if_neg hx] at h
          cases base with
          | none => cases h
          | some a =>
            simp only at h
            split at h
            · rename_i vs e hg
              split at h
              · rename_i hc
                obtain ⟨hc1, hc2, rfl, hc4, hc5, hc6⟩ := hc
                cases h
                have hlt := R.lt hg
                have hload : loadN H a (sLen * size) = some (vs.drop a.off) := by
                  unfold loadN
                  by_cases h0 : sLen * size = 0
                  · rw [if_pos h0]
                    have : vs.drop a.off = [] := List.drop_of_length_le (by omega)
                    rw [this]
                  · rw [if_neg h0]
                    have : ¬ (a.spot.isSome = true) := by rw [hc4]; simp
                    rw [if_neg this, hg]
                    simp only
                    rw [if_pos (by omega), List.take_of_length_le (by simp; omega)]
                have realloc : ∀ (x : Born), φ a.block = some x → ∀ (a' : Addr) (c' : Nat), VR φ (.slice (some a) sLen sCap) (.slice (some a') sLen c') → ¬ sLen + n ≤ c' →
                    ∃ φ' w' v', (tailM e size sLen c' n (some a') zs x' (.slice (some a') sLen c') appended).run C.P w = .ok v' w' ∧ VR φ' (.slice (some ⟨H.next, 0, none⟩) (sLen + n) (OPEN + (sLen + n))) v' ∧
                      Rel C φ' ((H.kill a.block).new (.cells (vs.drop a.off ++ new) e false)) w' ∧ Ext C φ H w φ' ((H.kill a.block).new (.cells (vs.drop a.off ++ new) e false)) w' := fun x hx1 a' c' hs' hn' => by
                  obtain ⟨old', ho, hrun⟩ := first_ok (size := size) (n := sLen) R hs' rfl (Nat.le_refl _) hload
                  obtain ⟨q1, q2, q3⟩ := R.kill (by rw [hg]; simp) hc5 hK (by rw [hx1]; rfl)
                  have := fin (old := vs.drop a.off) (old' := old'.toArray) (H1 := H.kill a.block) hn' hrun (by simpa using ho.mono q2) q2 q1 q3
                  simpa using this
                cases hs with
                | scalar h => simp [Abs.scalar] at h
                | slice h1 h2 =>
                  rename_i c k sh
                  have hcc : conc sCap k = sLen + k := by unfold conc; rw [if_neg hx]; omega
                  refine ⟨_, _, rfl, ?_⟩
                  by_cases hnk : n ≤ k
                  · obtain ⟨c2, k2, sh2, arr, fr, pre, vs', post, q1, q2, q3, q4, q5, q6, q7, q8, q9, q10⟩ := R.cells (.live h1 h2) hg
                    rw [h1] at q1
                    cases q1
                    simp only [Bool.false_eq_true, if_false] at q10
                    subst q10
                    have hl := q8.length
                    rw [hcell] at q9
                    have hasz : arr.size = pre.length + vs'.length + post.length := by rw [← Array.length_toList, q6]; simp; omega
                    have hnn : n * size ≤ k * size := Nat.mul_le_mul_right _ hnk
                    have hrun := run_storeCells_un C.P c (a.off + sh + sLen * size) e (0, 0) new' 0 arr w q5 (fun j _ _ h => by simp at h) (by omega) (isCell_all hnew hc6)
                    have key : arr.toList.take (a.off + sh + sLen * size + 0) ++ new' ++ arr.toList.drop (a.off + sh + sLen * size + 0 + new'.length) =
                        (pre ++ vs'.take a.off) ++ (vs'.drop a.off ++ new') ++ post.drop (n * size) := by
                      have e1 : a.off + sh + sLen * size + 0 = (pre ++ vs').length := by simp; omega
                      rw [q6, e1, List.take_left, show (pre ++ vs').length + new'.length = (pre ++ vs').length + n * size by omega, List.drop_append, List.drop_of_length_le (by omega)]
                      rw [show (pre ++ vs').length + n * size - (pre ++ vs').length = n * size by omega]
                      rw [show (pre ++ vs'.take a.off) ++ (vs'.drop a.off ++ new') = pre ++ vs' ++ new' by rw [List.append_assoc, ← List.append_assoc (vs'.take a.off), List.take_append_drop, List.append_assoc]]
                      simp
                    rw [key] at hrun
                    have hset := setRow_heap w c arr ((pre ++ vs'.take a.off) ++ (vs'.drop a.off ++ new') ++ post.drop (n * size)).toArray e (0, 0) q5
                    have hle1 : φ.le ((φ.put a.block .dead).put H.next (.live c (k - n) (sh + a.off))) := by
                      refine Phi.le_trans (φ' := φ.put a.block .dead) (fun b' y hy => ?_) (Phi.le_put _ _ ?_)
                      · by_cases e : b' = a.block
                        · subst e; exact .inr (Phi.put_same _ _ _)
                        · exact .inl (by rw [Phi.put_other _ _ e]; exact hy)
                      · rw [Phi.put_other _ _ (by omega)]; exact R.free
                    obtain ⟨m1, m2⟩ := R.move (o := .cells (vs.drop a.off ++ new) e false) (heap := (w.setRow c ((pre ++ vs'.take a.off) ++ (vs'.drop a.off ++ new') ++ post.drop (n * size)).toArray).heap) (k' := k - n) (sh' := sh + a.off) (by rw [hg]; simp) hc5 hK h1
                      (setRow_size _ _ _) hset (fun j hj => setRow_other w c j _ hj)
                      ⟨_, (0, 0), pre ++ vs'.take a.off, vs'.drop a.off ++ new', post.drop (n * size), rfl, by rw [List.toList_toArray], by simp; omega, ((q8.drop _).append hnew).mono hle1, by rw [hcell, List.length_drop, q9, Nat.sub_mul], rfl⟩
                    have hv := newSlice (φ.put a.block .dead) H.next c (sLen + n) (k - n) (sh + a.off)
                    refine ⟨_, _, .slice (some ⟨c, a.off + sh, none⟩) (sLen + n) (conc sCap k), ?_, ?_, m1, m2⟩
                    · unfold tailM
                      rw [if_pos (by omega)]
                      simp only [Sem.run_bind, happ w rfl, Result.andThen_ok, add_mk]
                      have h3' : (Go.storeCells ⟨c, a.off + sh + sLen * size, none⟩ new' 0).run C.P w = .ok () _ := hrun
                      simp [h3']
                      rfl
                    · rw [hcc, show sLen + k = sLen + n + (k - n) by omega, show a.off + sh = sh + a.off by omega]
                      exact hv
                  · exact realloc _ h1 _ _ (.slice h1 h2) (by omega)
                | sliceDead h1 => rw [R.dead _ h1] at hg; cases hg
                | sliceEnd h0 h1 =>
                  refine ⟨_, _, rfl, ?_⟩
                  exact realloc _ h0 _ _ (.sliceEnd h0 h1) (by unfold sureCap at hin; rw [if_neg hx] at hin; omega)
              · cases h
            · cases h

end Go.Abs

/-! The abstract machine's append and copy, called, stand for the model's; no condition. -/
namespace Go.Abs
variable {C : Cfg} {φ : Phi} {H : Heap} {w : World} {P : Program}

theorem append_run {argTypes : Array TypeId} {ty sType xType elem size n sLen sCap : Nat} {base : Option Addr} {x : Value} {xd : TypeDesc} (h0 : argTypes[0]? = some sType) (h1 : argTypes[1]? = some xType)
    (hu : P.underlying sType = some (.slice elem)) (hx : P.underlying xType = some xd) (hi : ∀ k, xd ≠ .int k) (hs : tsize P elem = some size) (hl : (Builtin.lenOf x).run P w = .ok n w) :
    (Builtin.append_ argTypes ty #[.slice base sLen sCap, x]).run P w = (tailM elem size sLen sCap n base false x (.slice base sLen sCap) (Builtin.firstCells size n x)).run P w := by
  have hm : (match xd with | .int _ => true | _ => false) = false := by cases xd <;> first | rfl | exact absurd rfl (hi _)
  unfold Builtin.append_ tailM
  simp only [h0, h1, List.getElem?_toArray, List.getElem?_cons_zero, List.getElem?_cons_succ, Sem.run_bind, run_und hu, run_und hx, Result.andThen_ok, run_sizeOf hs, Sem.run_pure, hl]
  simp [hl, hm]
  first | rfl | (split <;> rfl)

theorem append_run_zeros {argTypes : Array TypeId} {ty sType xType elem size sLen sCap bytes : Nat} {base : Option Addr} {k k' : IntKind} {m : Int} (h0 : argTypes[0]? = some sType) (h1 : argTypes[1]? = some xType)
    (hu : P.underlying sType = some (.slice elem)) (hx : P.underlying xType = some (.int k)) (hs : tsize P elem = some size) (hby : tbytes P elem = some bytes)
    (hm : ¬ (IntKind.i64.wrap m < 0 ∨ IntKind.i64.wrap m * bytes > 140737488355328)) :
    (Builtin.append_ argTypes ty #[.slice base sLen sCap, .int k' m]).run P w = (tailM elem size sLen sCap (IntKind.i64.wrap m).toNat base true (.int k' m) (.slice base sLen sCap)
      (if (IntKind.i64.wrap m).toNat * size = 0 then pure #[] else do pure (Builtin.zeroCells (← zeroValue elem).cells (IntKind.i64.wrap m).toNat))).run P w := by
  unfold tbytes at hby
  obtain ⟨i, hi, hib⟩ := Option.map_eq_some_iff.1 hby
  simp only [not_or] at hm
  have q1 : ¬ (IntKind.i64.wrap m * (bytes : Int) > 2 ^ 48) := by
    have : (2 : Int) ^ 48 = 281474976710656 := rfl
    omega
  unfold Builtin.append_ tailM
  simp only [h0, h1, List.getElem?_toArray, List.getElem?_cons_zero, List.getElem?_cons_succ, Sem.run_bind, run_und hu, run_und hx, Result.andThen_ok, run_sizeOf hs, Sem.run_pure, asInt, asIntOf, run_info hi, hib, hm.1, q1, if_false, if_true]
  simp [run_info hi, hib]
  first | rfl | (split <;> rfl)

theorem growA_slice {elem n : Nat} {z s v : Value} {new : List Value} {H' : Heap} (h : growA P elem z s new n H = some (v, H')) : ∃ base sLen sCap, s = .slice base sLen sCap := by
  cases s with
  | slice a b c => exact ⟨a, b, c, rfl⟩
  | _ => simp [growA] at h

theorem zeros_run {z : Value} {elem n size : Nat} (hz : tzero P elem = some z) (hsz : z.cells.size = size) (w1 : World) :
    (if n * size = 0 then pure #[] else do pure (Builtin.zeroCells (← zeroValue elem).cells n) : Sem (Array Value)).run P w1 = .ok (zeros z n).toArray w1 := by
  by_cases h0 : n * size = 0
  · rw [if_pos h0]
    have := zeros_length z n
    rw [hsz, h0] at this
    rw [List.eq_nil_of_length_eq_zero this]; rfl
  · rw [if_neg h0]
    simp only [Sem.run_bind, (run_zero (w := w1) hz).1, Result.andThen_ok, Sem.run_pure]
    congr 1
    apply Array.ext'
    rw [zeroCells_eq]

theorem growA_size {elem n size : Nat} {z s v : Value} {new : List Value} {H' : Heap} (hs : tsize P elem = some size) (h : growA P elem z s new n H = some (v, H')) : z.cells.size = size := by
  obtain ⟨base, sLen, sCap, rfl⟩ := growA_slice h
  simp only [growA, hs] at h
  cases hby : tbytes P elem with
  | none => rw [hby] at h; cases h
  | some bytes =>
    rw [hby] at h
    simp only at h
    split at h
    · cases h
    · rename_i hb
      simp only [not_or, Decidable.not_not] at hb
      exact hb.2.2.1

theorem append_ok (R : Rel C φ H w) (hK : ∀ g ∈ C.K, g < G0 C.P) {argTypes : Array TypeId} {ty : TypeId} {args args' : List Value} {v : Value} {H' : Heap} (ha : VRs φ args args') (h : appendA C.P argTypes args H = some (v, H')) :
    OpOk C φ H w (Builtin.append_ argTypes ty args'.toArray) v H' := by
  unfold appendA at h
  split at h
  · rename_i sType xType s x h0 h1
    cases ha with
    | cons hs ha =>
      cases ha with
      | cons hx ha =>
        cases ha
        rename_i s' x'
        split at h
        · rename_i elem xd hu hxu
          split at h
          · rename_i size bytes z kk k' m hsz hby hz
            split at h
            · cases h
            · rename_i hm
              obtain ⟨base, sLen, sCap, rfl⟩ := growA_slice h
              rw [hx.int_inv]
              obtain ⟨base', sCap', rfl, ht⟩ := tail_ok (x' := .int k' m) (zs := true) R hK hs hz hsz (zeros_rel (run_zero (w := w) hz).2 _) (fun w1 _ => zeros_run hz (growA_size hsz h) w1) h
              obtain ⟨φ', w', v', q1, q2⟩ := ht
              exact ⟨φ', w', v', by rw [← q1]; exact append_run_zeros h0 h1 hu hxu hsz hby hm, q2⟩
          · cases h
          · rename_i size z hsz hz hni hnot
            split at h
            · rename_i n hl
              split at h
              · rename_i new hn
                obtain ⟨base, sLen, sCap, rfl⟩ := growA_slice h
                obtain ⟨new', h2, h3⟩ := first_ok R hx hl (Nat.le_refl _) hn
                obtain ⟨base', sCap', rfl, ht⟩ := tail_ok (x' := x') (zs := false) R hK hs hz hsz h2 h3 h
                obtain ⟨φ', w', v', q1, q2⟩ := ht
                refine ⟨φ', w', v', ?_, q2⟩
                rw [← q1]
                exact append_run h0 h1 hu hxu (fun k e => hni k e) hsz (lenA_eq hx hl)
              · cases h
            · cases h
          · cases h
        · cases h
  · cases h

theorem copy_ok (R : Rel C φ H w) {argTypes : Array TypeId} {ty : TypeId} {args args' : List Value} {v : Value} {H' : Heap} (ha : VRs φ args args') (h : copyA C.P argTypes args H = some (v, H')) :
    OpOk C φ H w (Builtin.copy_ argTypes ty args'.toArray) v H' := by
  unfold copyA at h
  split at h
  · rename_i dType base dLen dCap src h0
    cases ha with
    | cons hd ha =>
      cases ha with
      | cons hx ha =>
        cases ha
        rename_i d' x'
        split at h
        · rename_i elem hu
          split at h
          · rename_i m size hl hsz
            split at h
            · rename_i cells hc
              obtain ⟨cells', h2, h3⟩ := first_ok R hx hl (Nat.min_le_left _ _) hc
              have hlen := lenA_eq (P := C.P) (w := w) hx hl
              split at h
              · rename_i a
                obtain ⟨H1, h4, h5⟩ := Option.map_eq_some_iff.1 h
                cases h5
                obtain ⟨a', k, rfl⟩ := hd.slice_cap
                have ha2 : cells = [] ∨ AR φ a a' := by
                  rcases Nat.eq_zero_or_pos dLen with hz0 | hz0
                  · refine .inl ?_
                    rw [hz0] at hc
                    have hm0 : Nat.min m 0 = 0 := Nat.min_zero m
                    rw [hm0] at hc
                    unfold firstA at hc
                    split at hc
                    · simp [loadN] at hc; exact hc
                    · cases hc; rfl
                    · simp at hc; exact hc
                    · cases hc
                  · exact .inr (hd.slice_add hz0)
                obtain ⟨w', q1, q2, q3⟩ := store_sound R ha2 h2 h4
                refine ⟨φ, w', .int .i64 (Nat.min m dLen), ?_, .scalar rfl, q2, q3⟩
                have q1' : (Go.storeCells a' cells' 0).run C.P w = .ok () w' := q1
                simp only [Builtin.copy_, h0, List.getElem?_toArray, List.getElem?_cons_zero, List.getElem?_cons_succ, Sem.run_bind, run_und hu, Result.andThen_ok, hlen, run_sizeOf hsz, h3 w rfl]
                simp [q1']
                rfl
              · cases h
                rw [hd.nilSlice_inv]
                refine .pure R ⟨.int .i64 (Nat.min m dLen), ?_, .scalar rfl⟩
                simp only [Builtin.copy_, h0, List.getElem?_toArray, List.getElem?_cons_zero, List.getElem?_cons_succ, Sem.run_bind, run_und hu, Result.andThen_ok, hlen, run_sizeOf hsz, h3 w rfl]
                rfl
            · cases h
          · cases h
        · cases h
  · cases h

end Go.Abs

/-! The abstract machine's maps stand for the model's; no condition. -/
namespace Go.Abs
variable {C : Cfg} {φ : Phi} {H : Heap} {w : World} {P : Program}

theorem VR.scalar_eq {v v' : Value} (h : Abs.scalar v = true) (hv : VR φ v v') : v' = v := by
  cases hv <;> first | rfl | simp [Abs.scalar] at h

theorem VRs.scalars_eq : ∀ {l l' : List Value}, l.all scalar = true → VRs φ l l' → l' = l
  | [], _, _, h => by cases h; rfl
  | v :: l, _, hs, h => by
    cases h with
    | cons h1 h2 =>
      simp only [List.all_cons, Bool.and_eq_true] at hs
      rw [h1.scalar_eq hs.1, VRs.scalars_eq hs.2 h2]

theorem VR.const_eq {v v' : Value} (h : constOk v = true) (hv : VR φ v v') : v' = v := by
  cases v with
  | agg cs =>
    obtain ⟨y, rfl, hy⟩ := hv.agg_inv
    have := VRs.scalars_eq h hy
    rw [Array.ext' this]
  | tuple cs =>
    obtain ⟨y, rfl, hy⟩ := hv.tuple_inv
    have := VRs.scalars_eq h hy
    rw [Array.ext' this]
  | _ => exact hv.scalar_eq h

theorem run_forIn_unit {α : Type} (body : α → PUnit → Sem (ForInStep PUnit)) : ∀ (l : List α), (∀ x ∈ l, ∀ s, (body x s).run P w = .ok (.yield ⟨⟩) w) → ∀ s, (forIn l s body).run P w = .ok ⟨⟩ w
  | [], _, s => by simp
  | x :: l, h, s => by
    simp only [List.forIn_cons, Sem.run_bind, h x (by simp) s, Result.andThen_ok]
    exact run_forIn_unit body l (fun y hy => h y (by simp [hy])) _

theorem key_ok (e : Bool) : ∀ (d n : Nat) (t : TypeId) (v v' : Value), d ≤ n → keyOk P d t v = true → VR φ v v' → (Instr.checkKey e n t v').run P w = .ok () w
  | 0, _, _, _, _, _, h, _ => by simp [keyOk] at h
  | d + 1, 0, _, _, _, hn, _, _ => by omega
  | d + 1, n + 1, t, v, v', hn, h, hv => by
    unfold keyOk at h
    split at h
    · rename_i fields cs hu
      obtain ⟨cs', rfl, hc⟩ := hv.agg_inv
      rw [List.all_eq_true] at h
      simp only [Instr.checkKey, Sem.run_bind, run_und hu, Result.andThen_ok]
      rw [← Array.forIn_toList]
      rw [run_forIn_unit (P := P) (w := w)]; · rfl
      intro f hf s
      have := h f hf
      by_cases hn2 : f.name = "_"
      · simp [hn2]
      · simp only [Bool.or_eq_true, beq_iff_eq, hn2, false_or] at this
        split at this
        · rename_i u hu2
          obtain ⟨u', h1, h2⟩ := part_ok (P := P) (w := w) hc hu2
          simp [hn2, h1, key_ok e d n f.type u u' (by omega) this h2]
        · cases this
    · rename_i hu; rw [hv.bool_inv]; simp [Instr.checkKey, run_und hu]
    · rename_i hu; rw [hv.int_inv]; simp [Instr.checkKey, run_und hu]
    · rename_i hu; rw [hv.str_inv]; simp [Instr.checkKey, run_und hu]
    · cases h

theorem equalIn_int (d : Nat) {t : TypeId} {k0 k : IntKind} {a b : Int} (hu : P.underlying t = some (.int k0)) : (Op.equalIn (d + 1) t (.int k a) (.int k b)).run P w = .ok (a == b) w := by
  simp only [Op.equalIn, Sem.run_bind, run_und hu, Result.andThen_ok, if_true, Sem.run_pure]
theorem equalIn_str (d : Nat) {t : TypeId} {a b : ByteArray} (hu : P.underlying t = some .string) : (Op.equalIn (d + 1) t (.string a) (.string b)).run P w = .ok (a == b) w := by
  simp only [Op.equalIn, Sem.run_bind, run_und hu, Result.andThen_ok, Sem.run_pure]
theorem equalIn_bool (d : Nat) {t : TypeId} {a b : Bool} (hu : P.underlying t = some .bool) : (Op.equalIn (d + 1) t (.bool a) (.bool b)).run P w = .ok (a == b) w := by
  simp only [Op.equalIn, Sem.run_bind, run_und hu, Result.andThen_ok, Sem.run_pure]
theorem equal_int {t : TypeId} {k0 k : IntKind} {a b : Int} (hu : P.underlying t = some (.int k0)) : (Op.equal t (.int k a) (.int k b)).run P w = .ok (a == b) w := equalIn_int 9999 hu
theorem equal_str {t : TypeId} {a b : ByteArray} (hu : P.underlying t = some .string) : (Op.equal t (.string a) (.string b)).run P w = .ok (a == b) w := equalIn_str 9999 hu
theorem equal_bool {t : TypeId} {a b : Bool} (hu : P.underlying t = some .bool) : (Op.equal t (.bool a) (.bool b)).run P w = .ok (a == b) w := equalIn_bool 9999 hu

theorem sameNow_ok {t : TypeId} {d : TypeDesc} (hu : P.underlying t = some d) {k k' : Value} {b b' : Bool} (h : (Op.equal t k k').run P w = .ok b w) (hs : Instr.sameNow d k k' = some b') : b' = b := by
  unfold Instr.sameNow at hs
  split at hs
  · split at hs
    · rename_i hkk
      subst hkk
      simp only [Option.some.injEq] at hs
      rw [equal_int hu] at h
      simp only [Result.ok.injEq, and_true] at h
      rw [← hs, ← h]
    · cases hs
  · simp only [Option.some.injEq] at hs
    rw [equal_str hu] at h
    simp only [Result.ok.injEq, and_true] at h
    rw [← hs, ← h]
  · simp only [Option.some.injEq] at hs
    rw [equal_bool hu] at h
    simp only [Result.ok.injEq, and_true] at h
    rw [← hs, ← h]
  · cases hs

/-- what a search came to -/
def FR (φ : Phi) : Option (Nat × Value) → Option (Nat × Value) → Prop
  | none, none => True
  | some (i, v), some (j, u) => i = j ∧ VR φ v u
  | _, _ => False

theorem find_ok (R : Rel C φ H w) {t : TypeId} {d : TypeDesc} (hu : C.P.underlying t = some d) {k k' : Value} (hk : VR φ k k') : ∀ (es es' : List MapEntry) (i : Nat) (r : Option (Nat × Value)),
    findA C.P H t k es i = some r → ES φ es es' → (∀ r', Instr.findNow d k' es' i = some r' → FR φ r r') ∧ (∃ r', (Instr.findAsking t k' es' i).run C.P w = .ok r' w ∧ FR φ r r')
  | [], _, i, r, h, he => by
    cases he
    simp [findA] at h; subst h
    exact ⟨fun r' h => by simp [Instr.findNow] at h; subst h; trivial, none, rfl, trivial⟩
  | e :: es, _, i, r, h, he => by
    cases he with
    | cons h1 h2 h3 h4 =>
      rename_i e' es'
      simp only [findA] at h
      have eqr : ∀ b, eqA C.P H Op.maxDepth t k e.key = some b → (Op.equal t k' e'.key).run C.P w = .ok b w := fun b hb => eq_ok R _ _ _ _ _ _ _ hb hk h1
      have now : ∀ b b', eqA C.P H Op.maxDepth t k e.key = some b → Instr.sameNow d k' e'.key = some b' → b' = b := fun b b' hb hs => by
        exact sameNow_ok hu (eqr b hb) hs
      split at h
      · rename_i hb
        simp only [Option.some.injEq] at h
        subst h
        refine ⟨fun r' hr => ?_, some (i, e'.val), ?_, rfl, h2⟩
        · simp only [Instr.findNow] at hr
          split at hr
          · cases hr; exact ⟨rfl, h2⟩
          · rename_i hs; cases now _ _ hb hs
          · cases hr
        · simp [Instr.findAsking, eqr _ hb]
      · rename_i hb
        obtain ⟨q1, r', q2, q3⟩ := find_ok R hu hk es es' (i + 1) r h h4
        refine ⟨fun r' hr => ?_, r', ?_, q3⟩
        · simp only [Instr.findNow] at hr
          split at hr
          · rename_i hs; cases now _ _ hb hs
          · exact q1 _ hr
          · cases hr
        · simp [Instr.findAsking, eqr _ hb, q2]
      · cases h

theorem findKey_ok (R : Rel C φ H w) {t : TypeId} {d : TypeDesc} (hu : C.P.underlying t = some d) {k k' : Value} (hk : VR φ k k') {es es' : List MapEntry} {r : Option (Nat × Value)}
    (h : findA C.P H t k es 0 = some r) (he : ES φ es es') : ∃ r', (Instr.findKey t k' es').run C.P w = .ok r' w ∧ FR φ r r' := by
  obtain ⟨h1, r', h2, h3⟩ := find_ok R hu hk es es' 0 r h he
  unfold Instr.findKey
  cases hn : Instr.findNow d k' es' 0 with
  | none => exact ⟨r', by simp [run_und hu, hn, h2], h3⟩
  | some q => exact ⟨q, by simp [run_und hu, hn], h1 q hn⟩

theorem keyOk_und {d : Nat} {t : TypeId} {v : Value} (h : keyOk P d t v = true) : ∃ td, P.underlying t = some td := by
  cases d with
  | zero => simp [keyOk] at h
  | succ d =>
    cases hu : P.underlying t with
    | none => simp [keyOk, hu] at h
    | some td => exact ⟨td, rfl⟩

theorem run_getMap {c : Nat} {es : Array MapEntry} {clock : Nat} (h : w.heap[c]? = some (.map es clock)) : (getObj c).run P w = .ok (.map es clock) w := by simp [getObj, Sem.run, h]

theorem lookup_ok (R : Rel C φ H w) {t : TypeId} {x x' k k' v : Value} {ok : Bool} (hx : VR φ x x') (hk : VR φ k k') (h : lookupA C.P t x k ok H = some v) :
    ∃ v', (Instr.lookup t x' k' ok).run C.P w = .ok v' w ∧ VR φ v v' := by
  unfold lookupA at h
  split at h
  · rename_i kt et hu
    split at h
    · rename_i hkk
      simp only [Bool.and_eq_true] at hkk
      split at h
      · rename_i es z hm hz
        obtain ⟨td, hut⟩ := keyOk_und hkk.1
        have hck : ∀ e, (Instr.checkKey e 10000 kt k').run C.P w = .ok () w := fun e => key_ok e 8 10000 kt k k' (by decide) hkk.1 hk
        have fin : ∀ (es' : Array MapEntry), ES φ es es'.toList → ∃ v', ((do
            let (v, ok2) ← match ← Instr.findKey kt k' es'.toList with
              | some (_, v) => pure (v, true)
              | none => pure (← zeroValue et, false)
            pure (if ok then .tuple #[v, .bool ok2] else v)) : Sem Value).run C.P w = .ok v' w ∧ VR φ v v' := fun es' he => by
          split at h
          · rename_i i u hf
            cases h
            obtain ⟨r', h1, h2⟩ := findKey_ok R hut hk hf he
            cases r' with
            | none => exact h2.elim
            | some q =>
              obtain ⟨j, u'⟩ := q
              obtain ⟨_, h3⟩ := h2
              refine ⟨if ok then .tuple #[u', .bool true] else u', by simp [h1], ?_⟩
              cases ok
              · exact h3
              · exact .tuple (.cons h3 (.cons (.scalar rfl) .nil))
          · rename_i hf
            cases h
            obtain ⟨r', h1, h2⟩ := findKey_ok R hut hk hf he
            cases r' with
            | some q => exact h2.elim
            | none =>
              obtain ⟨h3, h4⟩ := run_zero (w := w) hz
              refine ⟨if ok then .tuple #[z, .bool false] else z, by simp [h1, h3], ?_⟩
              cases ok
              · exact VR.const h4
              · exact .tuple (.cons (VR.const h4) (.cons (.scalar rfl) .nil))
          · cases h
        rcases mapOf_ok R hx hm with ⟨rfl, rfl⟩ | ⟨r, c, es', clock, rfl, rfl, h2, h3, h4, _⟩
        · obtain ⟨v', h5, h6⟩ := fin #[] .nil
          refine ⟨v', ?_, h6⟩
          rw [← h5]
          simp [Instr.lookup, run_und hu, hck]
          rfl
        · obtain ⟨v', h5, h6⟩ := fin es' h4
          refine ⟨v', ?_, h6⟩
          rw [← h5]
          simp [Instr.lookup, run_und hu, hck, run_getMap h3]
          rfl
      · cases h
    · cases h
  · cases h

theorem ES.get {es es' : List MapEntry} : ∀ (i : Nat), ES φ es es' → (es[i]? = none ∧ es'[i]? = none) ∨ ∃ e e', es[i]? = some e ∧ es'[i]? = some e' ∧ VR φ e.key e'.key ∧ VR φ e.val e'.val ∧ e.born = e'.born := by
  intro i h
  induction h generalizing i with
  | nil => exact .inl ⟨by simp, by simp⟩
  | cons h1 h2 h3 h4 ih =>
    cases i with
    | zero => exact .inr ⟨_, _, rfl, rfl, h1, h2, h3⟩
    | succ i => simpa using ih i

theorem ES.modify {es es' : List MapEntry} {k k' v v' : Value} (hk : VR φ k k') (hv : VR φ v v') : ∀ (i : Nat), ES φ es es' → ES φ (es.modify i fun e => { e with key := k, val := v }) (es'.modify i fun e => { e with key := k', val := v' }) := by
  intro i h
  induction h generalizing i with
  | nil => simp; exact .nil
  | cons h1 h2 h3 h4 ih =>
    cases i with
    | zero => exact .cons hk hv h3 h4
    | succ i => exact .cons h1 h2 h3 (ih i)

theorem ES.append {es es' fs fs' : List MapEntry} (h : ES φ es es') (h2 : ES φ fs fs') : ES φ (es ++ fs) (es' ++ fs') := by
  induction h with
  | nil => exact h2
  | cons h1 h2 h3 h4 ih => exact .cons h1 h2 h3 ih

theorem ES.erase {es es' : List MapEntry} : ∀ (i : Nat), ES φ es es' → ES φ (es.eraseIdx i) (es'.eraseIdx i) := by
  intro i h
  induction h generalizing i with
  | nil => simp; exact .nil
  | cons h1 h2 h3 h4 ih =>
    cases i with
    | zero => exact h4
    | succ i => exact .cons h1 h2 h3 (ih i)

theorem sameBits_const {n : Nat} {a b a' b' : Value} (ha : constOk a = true) (hb : constOk b = true) (h1 : VR φ a a') (h2 : VR φ b b') : Instr.sameBits n a' b' = Instr.sameBits n a b := by
  rw [h1.const_eq ha, h2.const_eq hb]

theorem run_setMap {c : Nat} {es : Array MapEntry} {clock : Nat} (o : Obj) (h : w.heap[c]? = some (.map es clock)) : (setObj c o).run P w = .ok () { w with heap := w.heap.setIfInBounds c o } := by simp [setObj, Sem.run, h]

theorem set_facts {heap : Array Obj} {c : Nat} {o o' : Obj} (h : heap[c]? = some o) : (heap.setIfInBounds c o').size = heap.size ∧ (heap.setIfInBounds c o')[c]? = some o' ∧ ∀ j, j ≠ c → (heap.setIfInBounds c o')[j]? = heap[j]? := by
  have hc := (Array.getElem?_eq_some_iff.1 h).1
  refine ⟨by simp, by simp [hc], fun j hj => ?_⟩
  rw [Array.getElem?_setIfInBounds_ne (fun e => hj e.symm)]

theorem mapUpdate_ok (R : Rel C φ H w) {t : TypeId} {m m' k k' v v' : Value} {H' : Heap} (hm : VR φ m m') (hk : VR φ k k') (hv : VR φ v v') (h : mapUpdateA C.P t m k v H = some H') :
    ∃ w', (Instr.mapUpdate t m' k' v').run C.P w = .ok () w' ∧ Rel C φ H' w' ∧ Ext C φ H w φ H' w' := by
  unfold mapUpdateA at h
  split at h
  · rename_i kt et r hu
    split at h
    · rename_i hkk
      simp only [Bool.and_eq_true] at hkk
      split at h
      · rename_i es clock hg
        obtain ⟨td, hut⟩ := keyOk_und hkk.1
        have hck : (Instr.checkKey false 10000 kt k').run C.P w = .ok () w := key_ok _ 8 10000 kt k k' (by decide) hkk.1 hk
        rcases mapOf_ok R hm (show mapOf H (.map (some r)) = some es by simp [mapOf, hg]) with ⟨_, _⟩ | ⟨r1, c, es', clock', e1, rfl, h2, h3, h4, kk, sh, h5⟩
        · rename_i e _; cases e ▸ hm
        · cases e1
          rw [hg] at h2
          cases h2
          obtain ⟨f1, f2, f3⟩ := set_facts (o' := .map #[] 0) h3
          split at h
          · rename_i i u hf
            obtain ⟨q, q1, q2⟩ := findKey_ok R hut hk hf h4
            cases q with
            | none => exact q2.elim
            | some q =>
              obtain ⟨j, u'⟩ := q
              obtain ⟨rfl, _⟩ := q2
              split at h
              · rename_i hsame
                simp only [Bool.and_eq_true] at hsame
                cases h
                have hold : VR φ (((es[i]?).map (·.key)).getD k) (((es'[i]?).map (·.key)).getD k') := by
                  rcases h4.get i with ⟨a1, a2⟩ | ⟨e, e', a1, a2, a3, _, _⟩
                  · rw [a1]
                    have : es'[i]? = none := by simpa using a2
                    rw [this]; exact hk
                  · rw [a1]
                    have : es'[i]? = some e' := by simpa using a2
                    rw [this]; exact a3
                have hsb : Instr.sameBits 10000 (((es'[i]?).map (·.key)).getD k') k' = true := by
                  rw [sameBits_const hsame.2 hkk.2 hold hk]; exact hsame.1
                have hset := set_facts (o' := .map (es'.modify i fun e => { e with key := k', val := v' }) clock) h3
                have := R.setObj (o := .map (es.modify i fun e => { e with key := k, val := v }) clock) (by rw [hg]; simp) h5 ⟨_, rfl, by rw [Array.toList_modify]; exact h4.modify hk hv i⟩ hset.1 hset.2.1 hset.2.2
                refine ⟨_, ?_, this⟩
                simp only [Instr.mapUpdate, Sem.run_bind, run_und hu, Result.andThen_ok, run_getMap h3, hck, q1, Instr.keyThatStays, hsb, if_true, Sem.run_pure, run_setMap _ h3]
              · cases h
          · rename_i hf
            obtain ⟨q, q1, q2⟩ := findKey_ok R hut hk hf h4
            cases q with
            | some q => exact q2.elim
            | none =>
              cases h
              have hset := set_facts (o' := .map (es'.push { key := k', val := v', born := clock }) (clock + 1)) h3
              have := R.setObj (o := .map (es ++ [{ key := k, val := v, born := clock }]) (clock + 1)) (by rw [hg]; simp) h5 ⟨_, rfl, by rw [Array.toList_push]; exact h4.append (.cons hk hv rfl .nil)⟩ hset.1 hset.2.1 hset.2.2
              refine ⟨_, ?_, this⟩
              simp only [Instr.mapUpdate, Sem.run_bind, run_und hu, Result.andThen_ok, run_getMap h3, hck, q1, run_setMap _ h3]
          · cases h
      · cases h
    · cases h
  · cases h

theorem delete_ok (R : Rel C φ H w) {argTypes : Array TypeId} {ty : TypeId} {args args' : List Value} {H' : Heap} (ha : VRs φ args args') (h : deleteA C.P argTypes args H = some H') :
    ∃ w', (Builtin.delete_ argTypes ty args'.toArray).run C.P w = .ok (.tuple #[]) w' ∧ Rel C φ H' w' ∧ Ext C φ H w φ H' w' := by
  unfold deleteA at h
  split at h
  · rename_i t m k h0
    cases ha with
    | cons hm ha =>
      cases ha with
      | cons hk ha =>
        cases ha
        rename_i m' k'
        split at h
        · rename_i kt et hu
          split at h
          · rename_i hkk
            simp only [Bool.and_eq_true] at hkk
            obtain ⟨td, hut⟩ := keyOk_und hkk.1
            have hck : ∀ e, (Instr.checkKey e 10000 kt k').run C.P w = .ok () w := fun e => key_ok _ 8 10000 kt k k' (by decide) hkk.1 hk
            split at h
            · cases h
              rw [hm.nilMap_inv]
              refine ⟨w, ?_, R, .refl⟩
              simp only [Builtin.delete_, h0, List.getElem?_toArray, List.getElem?_cons_zero, List.getElem?_cons_succ, Sem.run_bind, run_und hu, Result.andThen_ok, hck, Sem.run_pure]
            · rename_i r
              split at h
              · rename_i es clock hg
                rcases mapOf_ok R hm (show mapOf H (.map (some r)) = some es by simp [mapOf, hg]) with ⟨_, _⟩ | ⟨r1, c, es', clock', e1, rfl, h2, h3, h4, kk, sh, h5⟩
                · rename_i e _; cases e ▸ hm
                · cases e1
                  rw [hg] at h2
                  cases h2
                  split at h
                  · rename_i i u hf
                    obtain ⟨q, q1, q2⟩ := findKey_ok R hut hk hf h4
                    cases q with
                    | none => exact q2.elim
                    | some q =>
                      obtain ⟨j, u'⟩ := q
                      obtain ⟨rfl, _⟩ := q2
                      cases h
                      have hset := set_facts (o' := .map (es'.eraseIdxIfInBounds i) clock) h3
                      have := R.setObj (o := .map (es.eraseIdx i) clock) (by rw [hg]; simp) h5 ⟨_, rfl, by rw [Array.toList_eraseIdxIfInBounds]; exact h4.erase i⟩ hset.1 hset.2.1 hset.2.2
                      refine ⟨_, ?_, this⟩
                      simp only [Builtin.delete_, h0, List.getElem?_toArray, List.getElem?_cons_zero, List.getElem?_cons_succ, Sem.run_bind, run_und hu, Result.andThen_ok, run_getMap h3, hck, q1, run_setMap _ h3, Sem.run_pure]
                  · rename_i hf
                    obtain ⟨q, q1, q2⟩ := findKey_ok R hut hk hf h4
                    cases q with
                    | some q => exact q2.elim
                    | none =>
                      cases h
                      have hset := set_facts (o' := .map es' clock) h3
                      have hal : Alike w { w with heap := w.heap.setIfInBounds c (.map es' clock) } := ⟨by
                        apply Array.ext_getElem?
                        intro j
                        by_cases hj : j = c
                        · subst hj; rw [hset.2.1, h3]
                        · exact hset.2.2 j hj, rfl, rfl, rfl⟩
                      refine ⟨_, ?_, R.alike hal, Ext.alike hal⟩
                      simp only [Builtin.delete_, h0, List.getElem?_toArray, List.getElem?_cons_zero, List.getElem?_cons_succ, Sem.run_bind, run_und hu, Result.andThen_ok, run_getMap h3, hck, q1, run_setMap _ h3, Sem.run_pure]
                  · cases h
              · cases h
            · cases h
          · cases h
        · cases h
  · cases h

end Go.Abs

/-! Each operation of the abstract machine stands for the model's; no condition. -/
namespace Go.Abs
variable {C : Cfg} {φ : Phi} {H : Heap} {w : World} {P : Program}

theorem ES.filter {es es' : List MapEntry} (p : Nat → Bool) (h : ES φ es es') : ES φ (es.filter fun e => p e.born) (es'.filter fun e => p e.born) := by
  induction h with
  | nil => exact .nil
  | cons h1 h2 h3 h4 ih =>
    simp only [List.filter_cons, ← h3]
    split
    · exact .cons h1 h2 h3 ih
    · exact ih

theorem ES.all_born {es es' : List MapEntry} (p : Nat → Bool) (h : ES φ es es') : es'.all (fun e => p e.born) = es.all (fun e => p e.born) := by
  induction h with
  | nil => rfl
  | cons h1 h2 h3 h4 ih => simp only [List.all_cons, ih, h3]

theorem ES.isEmpty {es es' : List MapEntry} (h : ES φ es es') : es'.isEmpty = es.isEmpty := by cases h <;> rfl

theorem run_getIter {c : Nat} {m : Option Nat} {s : Nat} {x : Array Nat} {l : Nat} (h : w.heap[c]? = some (.mapIter m s x l)) : (getObj c).run P w = .ok (.mapIter m s x l) w := by simp [getObj, Sem.run, h]
theorem run_setIter {w : World} {c : Nat} {m : Option Nat} {s : Nat} {x : Array Nat} {l : Nat} (o : Obj) (h : w.heap[c]? = some (.mapIter m s x l)) : (setObj c o).run P w = .ok () { w with heap := w.heap.setIfInBounds c o } := by simp [setObj, Sem.run, h]

theorem Rel.iter (R : Rel C φ H w) {r : Nat} {a' : Addr} (ha : AR φ ⟨r, 0, none⟩ a') {m : Option Nat} {since : Nat} {seen : List Nat} {last : Nat} (hg : H.get r = some (.iter m since seen last)) :
    ∃ c m' k, a' = ⟨c, 0, none⟩ ∧ w.heap[c]? = some (.mapIter m' since seen.toArray last) ∧ VR φ (.map m) (.map m') ∧ φ r = some (.live c k 0) := by
  cases ha with
  | live h1 h2 =>
    obtain ⟨o', h4, h5⟩ := R.live _ _ _ _ _ h1 hg
    obtain ⟨m', rfl, h6, rfl⟩ := h5
    exact ⟨_, m', _, rfl, h4, h6, h1⟩
  | dead h1 => rw [R.dead _ h1] at hg; cases hg

theorem choose_lt {n : Nat} (hn : 0 < n) (w : World) : ∃ i w1, i < n ∧ Alike w w1 ∧ (choose (.mapNext n)).run P w = .ok i w1 := by
  rw [run_choose]
  split
  · exact ⟨0, w, hn, .refl w, rfl⟩
  · exact ⟨_, _, Nat.mod_lt _ hn, .draw w, rfl⟩

theorem next_ok (R : Rel C φ H w) {r : Nat} {it' : Value} {ty : TypeId} {l : List (Value × Heap)} (hi : VR φ (.pointer (some ⟨r, 0, none⟩)) it') (h : nextMap H r = some l) :
    ∃ v H' v' w', (v, H') ∈ l ∧ (Instr.next it' false ty).run C.P w = .ok v' w' ∧ VR φ v v' ∧ Rel C φ H' w' ∧ Ext C φ H w φ H' w' := by
  unfold nextMap at h
  obtain ⟨a', rfl, ha⟩ := hi.ptr_inv
  split at h
  · rename_i since seen last hg
    obtain ⟨c, m', k, rfl, h1, h2, _⟩ := R.iter ha hg
    have := h2.nilMap_inv
    cases this
    cases h
    refine ⟨_, _, .tuple #[.bool false], w, List.mem_singleton.2 rfl, ?_, .tuple (.cons (.scalar rfl) .nil), R, .refl⟩
    simp [Instr.next, run_getIter h1]
  · rename_i m since seen last hg
    obtain ⟨c, m', k, rfl, h1, h2, h3⟩ := R.iter ha hg
    split at h
    · rename_i es clock hm
      rcases mapOf_ok R h2 (show mapOf H (.map (some m)) = some es by simp [mapOf, hm]) with ⟨e, _⟩ | ⟨r1, cm, es', clock', e1, e2, h5, h6, h7, kk, sh', h8⟩
      · cases e ▸ h2
      · cases e1
        cases e2
        rw [hm] at h5
        cases h5
        split at h
        · cases h
        · rename_i hcond
          cases h
          have g1 : (!(seen.toArray).isEmpty && !es'.isEmpty && es'.all (fun e => e.born ≥ last)) = false := by
            have q1 := h7.isEmpty
            have q2 := h7.all_born (fun b => decide (b ≥ last))
            have q3 : es'.isEmpty = es.isEmpty := by rw [← q1]; simp
            have q4 : es'.all (fun e => decide (e.born ≥ last)) = es.all (fun e => decide (e.born ≥ last)) := by rw [← q2]; simp
            rw [q3, q4]
            simpa using hcond
          have hleft := h7.filter (fun b => !seen.contains b)
          have hold := hleft.filter (fun b => decide (b < since))
          have hnew := hleft.filter (fun b => decide (b ≥ since))
          have hall := hold.append hnew
          have hemp := hold.isEmpty
          have hsetI : ∀ (w1 : World), Alike w w1 → ∀ (b : Nat), Rel C φ (H.put r (.iter (some m) since (seen ++ [b]) clock)) { w1 with heap := w1.heap.setIfInBounds c (.mapIter (some cm) since (seen.toArray.push b) clock) } ∧
              Ext C φ H w φ (H.put r (.iter (some m) since (seen ++ [b]) clock)) { w1 with heap := w1.heap.setIfInBounds c (.mapIter (some cm) since (seen.toArray.push b) clock) } := fun w1 hal b => by
            have h1' : w1.heap[c]? = some (.mapIter (some cm) since seen.toArray last) := by rw [hal.heap]; exact h1
            have hset := set_facts (o' := .mapIter (some cm) since (seen.toArray.push b) clock) h1'
            obtain ⟨q1, q2⟩ := (R.alike hal).setObj (o := .iter (some m) since (seen ++ [b]) clock) (by rw [hg]; simp) h3 ⟨some cm, by simp, h2, rfl⟩ hset.1 hset.2.1 hset.2.2
            exact ⟨q1, (Ext.alike hal).trans R.fresh q2⟩
          generalize hcand : ((if ((es'.filter fun e => !seen.toArray.contains e.born).filter fun e => decide (e.born < since)).isEmpty then #[none] else #[]) ++
            (((es'.filter fun e => !seen.toArray.contains e.born).filter fun e => decide (e.born < since)) ++ ((es'.filter fun e => !seen.toArray.contains e.born).filter fun e => decide (e.born ≥ since))).map some : Array (Option MapEntry)) = cand
          have hlist : cand.toList = (if ((es'.toList.filter fun e => !seen.contains e.born).filter fun e => decide (e.born < since)).isEmpty then [none] else []) ++
            (((es'.toList.filter fun e => !seen.contains e.born).filter fun e => decide (e.born < since)) ++ ((es'.toList.filter fun e => !seen.contains e.born).filter fun e => decide (e.born ≥ since))).map some := by
            rw [← hcand]
            have e1 : ∀ (p : MapEntry → Bool), (es'.filter p).toList = es'.toList.filter p := fun p => Array.toList_filter
            have e2 : (((es'.filter fun e => !seen.toArray.contains e.born).filter fun e => decide (e.born < since)).isEmpty) = ((es'.toList.filter fun e => !seen.contains e.born).filter fun e => decide (e.born < since)).isEmpty := by
              rw [← Array.isEmpty_toList]; simp
            rw [e2]
            split <;> simp
          have hpos : 0 < cand.size := by
            rw [← Array.length_toList, hlist]
            split
            · simp
            · rename_i hne
              cases hq : (es'.toList.filter fun e => !seen.contains e.born).filter fun e => decide (e.born < since) with
              | nil => rw [hq] at hne; simp at hne
              | cons a b => simp
          obtain ⟨i, w1, hi1, hal, hrun⟩ := choose_lt (P := C.P) hpos w
          have h1' : w1.heap[c]? = some (.mapIter (some cm) since seen.toArray last) := by rw [hal.heap]; exact h1
          have hgo : (Instr.next (.pointer (some ⟨c, 0, none⟩)) false ty).run C.P w = (match cand[i]? with
              | some (some e) => do
                setObj c (.mapIter (some cm) since (seen.toArray.push e.born) clock)
                pure (.tuple #[.bool true, e.key, e.val])
              | some none => pure (.tuple #[.bool false])
              | none => stuck "Next: no such candidate" : Sem Value).run C.P w1 := by
            simp only [Instr.next, Sem.run_bind, run_getIter h1, Result.andThen_ok, run_getMap h6, g1, Bool.false_eq_true, if_false, hcand, hrun]
            rfl
          have over : (Value.tuple #[.bool false], H) ∈ (if ((es.filter fun e => !seen.contains e.born).filter fun e => decide (e.born < since)).isEmpty then [(Value.tuple #[.bool false], H)] else []) → cand[i]? = some none →
              ∃ v' w', (Instr.next (.pointer (some ⟨c, 0, none⟩)) false ty).run C.P w = .ok v' w' ∧ VR φ (.tuple #[.bool false]) v' ∧ Rel C φ H w' ∧ Ext C φ H w φ H w' := fun _ hc => by
            refine ⟨.tuple #[.bool false], w1, ?_, .tuple (.cons (.scalar rfl) .nil), R.alike hal, Ext.alike hal⟩
            rw [hgo, hc]; rfl
          have got : ∀ (j : Nat) (e' : MapEntry), cand[i]? = some (some e') →
              (((es'.toList.filter fun e => !seen.contains e.born).filter fun e => decide (e.born < since)) ++ ((es'.toList.filter fun e => !seen.contains e.born).filter fun e => decide (e.born ≥ since)))[j]? = some e' →
              ∃ e v' w', e ∈ (((es.filter fun e => !seen.contains e.born).filter fun e => decide (e.born < since)) ++ ((es.filter fun e => !seen.contains e.born).filter fun e => decide (e.born ≥ since))) ∧
                (Instr.next (.pointer (some ⟨c, 0, none⟩)) false ty).run C.P w = .ok v' w' ∧ VR φ (.tuple #[.bool true, e.key, e.val]) v' ∧
                Rel C φ (H.put r (.iter (some m) since (seen ++ [e.born]) clock)) w' ∧ Ext C φ H w φ (H.put r (.iter (some m) since (seen ++ [e.born]) clock)) w' := fun j e' hc hj => by
            rcases hall.get j with ⟨_, q2⟩ | ⟨e, e2, q1, q2, q3, q4, q5⟩
            · rw [hj] at q2; cases q2
            · rw [hj] at q2; cases q2
              obtain ⟨s1, s2⟩ := hsetI w1 hal e.born
              refine ⟨e, .tuple #[.bool true, e'.key, e'.val], _, List.mem_of_getElem? q1, ?_, .tuple (.cons (.scalar rfl) (.cons q3 (.cons q4 .nil))), s1, s2⟩
              rw [hgo, hc, q5]
              simp only [Sem.run_bind, run_setIter _ h1', Result.andThen_ok, Sem.run_pure]
          have hci : cand[i]? = cand.toList[i]? := by simp
          have hsome : ∃ x, cand[i]? = some x := ⟨_, Array.getElem?_eq_getElem hi1⟩
          obtain ⟨x, hx⟩ := hsome
          rw [hx, hlist] at hci
          by_cases hE : ((es'.toList.filter fun e => !seen.contains e.born).filter fun e => decide (e.born < since)).isEmpty = true
          · rw [if_pos hE] at hci
            have hE2 : ((es.filter fun e => !seen.contains e.born).filter fun e => decide (e.born < since)).isEmpty = true := by rw [← hemp]; exact hE
            rw [if_pos hE2]
            cases i with
            | zero =>
              simp at hci
              subst hci
              obtain ⟨v', w', o1, o2⟩ := over (by rw [if_pos hE2]; exact List.mem_singleton.2 rfl) hx
              exact ⟨_, _, v', w', by simp, o1, o2⟩
            | succ j =>
              simp only [List.singleton_append, List.getElem?_cons_succ, List.getElem?_map] at hci
              obtain ⟨e', q1, q2⟩ := Option.map_eq_some_iff.1 hci.symm
              subst q2
              obtain ⟨e, v', w', o1, o2⟩ := got j e' hx q1
              exact ⟨_, _, v', w', List.mem_append_right _ (List.mem_map_of_mem o1), o2⟩
          · rw [if_neg hE] at hci
            have hE2 : ¬ ((es.filter fun e => !seen.contains e.born).filter fun e => decide (e.born < since)).isEmpty = true := by rw [← hemp]; exact hE
            rw [if_neg hE2]
            simp only [List.nil_append, List.getElem?_map] at hci
            obtain ⟨e', q1, q2⟩ := Option.map_eq_some_iff.1 hci.symm
            subst q2
            obtain ⟨e, v', w', o1, o2⟩ := got i e' hx q1
            exact ⟨_, _, v', w', by simpa using List.mem_map_of_mem (f := fun e => (Value.tuple #[.bool true, e.key, e.val], H.put r (.iter (some m) since (seen ++ [e.born]) clock))) o1, o2⟩
    · cases h
  · cases h

end Go.Abs
