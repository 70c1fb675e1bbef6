/- For every input that is laid in the world, with the listed tables as the program text lays them, the law CourseMore returns true, and its arguments read as before; no condition. Part 1 of 4. -/
import Derived.Orders
import Derived.Below
import Derived.Laws.CopyRow
import Derived.Laws.Cells
import Derived.ChangeKeysEq
import Derived.Laws.StructEq
import Derived.Deep.AppendSrc
import Derived.Laws.Append
import Derived.Laws.MakeOwn
import Derived.Deep.Upon
section
namespace Go.Mini
/-! What a call computes, without memory: values, a heap of its own, code. -/
inductive Ty where
  | i (k : IntKind) | b | s | sl (row : List Ty)
mutual
def Ty.D : Ty → Type
  | .i _ => Int
  | .b => Bool
  | .s => List UInt8
  | .sl row => List (Ty.R row)
def Ty.R : List Ty → Type
  | [] => Unit
  | t :: ts => Ty.D t × Ty.R ts
end
mutual
def Ty.dD : (t : Ty) → t.D
  | .i _ => (0 : Int)
  | .b => false
  | .s => ([] : List UInt8)
  | .sl row => ([] : List (Ty.R row))
def Ty.dR : (ts : List Ty) → Ty.R ts
  | [] => ()
  | t :: ts => (Ty.dD t, Ty.dR ts)
end
mutual
def Ty.beq : Ty → Ty → Bool
  | .i k, .i k' => k == k'
  | .b, .b => true
  | .s, .s => true
  | .sl r, .sl r' => Ty.beqs r r'
  | _, _ => false
def Ty.beqs : List Ty → List Ty → Bool
  | [], [] => true
  | t :: ts, u :: us => Ty.beq t u && Ty.beqs ts us
  | _, _ => false
end
/-- A value: 'u' is unknown. Own memory: 'p' a variable's cell, 'pr' an element's cell, 'sl' a whole row of elements, 'ss' a part of one. Memory that nobody writes any more: 'pe' an element's cell, 'ls' a row. -/
inductive V where
  | u | b (x : Bool) | i (k : IntKind) (n : Int) | s (x : List UInt8)
  | np | nil
  | p (blk off : Nat) | pr (blk row off : Nat) | pe (T : List Ty) (x : Ty.R T) (off : Nat)
  | sl (blk : Nat) | ss (blk off len : Nat) | sc (blk off len w : Nat)
  | ls (T : List Ty) (l : List (Ty.R T)) (full : Bool)
  | fn (f : FuncId) (first caps : List V)
  | agg (cs : List V) | tup (vs : List V)
  deriving Inhabited
def cellV : (t : Ty) → t.D → V
  | .i k, n => .i k n
  | .b, x => .b x
  | .s, x => .s x
  | .sl row, l => .ls row l false
def rowV : (ts : List Ty) → Ty.R ts → List V
  | [], _ => []
  | t :: ts, x => cellV t x.1 :: rowV ts x.2
inductive Blk where
  | c (e : TypeId) (cs : List V)
  | r (e : TypeId) (T : List Ty) (l : List (Ty.R T)) (fz : Bool)
  | dead
  deriving Inhabited
abbrev Heap := List Blk
structure St where
  env : List (Nat × V)
  hp : Heap
  ap : List Nat
structure Fp where
  all : Bool
  rd : List Nat
  wr : List Nat
def Fp.no : Fp := ⟨false, [], []⟩
def Fp.every : Fp := ⟨true, [], []⟩

def eget : List (Nat × V) → Nat → Option V
  | [], _ => none
  | e :: r, k => bif Nat.beq e.1 k then some e.2 else eget r k
def eput : List (Nat × V) → Nat → V → List (Nat × V)
  | [], k, v => [(k, v)]
  | e :: r, k, v => bif Nat.blt k e.1 then (k, v) :: e :: r else bif Nat.beq e.1 k then (k, v) :: r else e :: eput r k v
def eputO (env : List (Nat × V)) : Option Nat → V → List (Nat × V)
  | some d, v => eput env d v
  | none, _ => env
def hget : Heap → Nat → Option Blk
  | [], _ => none
  | b :: _, 0 => some b
  | _ :: r, n + 1 => hget r n
def hset : Heap → Nat → Blk → Heap
  | [], _, _ => []
  | _ :: r, 0, x => x :: r
  | b :: r, n + 1, x => b :: hset r n x
def hlen : Heap → Nat
  | [] => 0
  | _ :: r => Nat.succ (hlen r)

section
variable (P : Program)
/-- The cells of a type, flat. -/
def tys : Nat → TypeId → Option (List Ty)
  | 0, _ => none
  | d + 1, t =>
    match P.underlying t with
    | some (.int k) => some [.i k]
    | some .bool => some [.b]
    | some .string => some [.s]
    | some (.slice e) => match tys d e with | some r => some [.sl r] | none => none
    | some (.struct fs) => fs.toList.foldr (fun f acc => match tys d f.type, acc with | some a, some b => some (a ++ b) | _, _ => none) (some [])
    | some (.array n e) => match tys d e with | some r => some (List.replicate n r).flatten | none => none
    | _ => none
def coT : Ty → V → V
  | .sl r, .nil => .ls r [] true
  | _, v => v
def coTs : List Ty → List V → List V
  | t :: ts, v :: vs => coT t v :: coTs ts vs
  | _, vs => vs
/-- nil as_ a slice of its type. -/
def asT (t : TypeId) : V → V
  | .nil => match tys P 9 t with | some [T] => coT T .nil | _ => .nil
  | .agg cs => match tys P 9 t with | some T => .agg (coTs T cs) | none => .agg cs
  | v => v
end
def ofCell : Value → Option V
  | .bool x => some (.b x)
  | .int k n => some (.i k n)
  | .string s => some (.s s.data.toList)
  | .pointer none => some .np
  | .slice none 0 0 => some .nil
  | _ => none
def ofCells : List Value → Option (List V)
  | [] => some []
  | v :: vs => match ofCell v, ofCells vs with | some a, some b => some (a :: b) | _, _ => none
def ofVal : Value → Option V
  | .agg cs => match ofCells cs.toList with | some l => some (.agg l) | none => none
  | v => ofCell v
def constV : Value → Option V
  | .nilIface => some .u
  | v => ofVal v
def opd (env : List (Nat × V)) : Operand → Option V
  | .tmp t => eget env t
  | .const v => constV v
  | .func f => some (.fn f [] [])
  | .global _ => none
def V.cells : V → List V
  | .agg cs => cs
  | v => [v]
/-- The value of one cell. -/
def V.one : V → Bool
  | .u | .agg _ | .tup _ => false
  | _ => true
def V.ones : List V → Bool
  | [] => true
  | v :: vs => v.one && V.ones vs
def V.boxable : V → Bool
  | .agg _ => true
  | v => v.one

theorem IntKind.beq_eq : ∀ {j k : IntKind}, (j == k) = true → j = k := by
  intro j k h; cases j <;> cases k <;> first | rfl | cases h
mutual
theorem Ty.beq_eq : ∀ {t u : Ty}, Ty.beq t u = true → t = u
  | .i _, .i _, h => by simp only [Ty.beq] at h; rw [IntKind.beq_eq h]
  | .b, .b, _ => rfl
  | .s, .s, _ => rfl
  | .sl _, .sl _, h => by simp only [Ty.beq] at h; rw [Ty.beqs_eq h]
  | .i _, .b, h | .i _, .s, h | .i _, .sl _, h | .b, .i _, h | .b, .s, h | .b, .sl _, h | .s, .i _, h | .s, .b, h | .s, .sl _, h | .sl _, .i _, h | .sl _, .b, h | .sl _, .s, h => by simp [Ty.beq] at h
theorem Ty.beqs_eq : ∀ {ts us : List Ty}, Ty.beqs ts us = true → ts = us
  | [], [], _ => rfl
  | t :: ts, u :: us, h => by
    simp only [Ty.beqs, Bool.and_eq_true] at h
    rw [Ty.beq_eq h.1, Ty.beqs_eq h.2]
  | [], _ :: _, h | _ :: _, [], h => by simp [Ty.beqs] at h
end
def castL {r r' : List Ty} (h : Ty.beqs r' r = true) (l : List (Ty.R r')) : List (Ty.R r) := Ty.beqs_eq h ▸ l
def toD : (t : Ty) → V → Option t.D
  | .i k, .i k' n => if k = k' then some n else none
  | .b, .b x => some x
  | .s, .s x => some x
  | .sl r, .ls r' l _ => if h : Ty.beqs r' r = true then some (castL h l) else none
  | .sl _, .nil => some []
  | _, _ => none
def toR : (ts : List Ty) → List V → Option (Ty.R ts)
  | [], [] => some ()
  | t :: ts, v :: vs => match toD t v, toR ts vs with | some x, some y => some (x, y) | _, _ => none
  | _, _ => none
/-- One cell of a row is set. -/
def setR : (ts : List Ty) → Ty.R ts → Nat → V → Option (Ty.R ts)
  | [], _, _, _ => none
  | t :: _, x, 0, v => match toD t v with | some y => some (y, x.2) | none => none
  | _ :: ts, x, n + 1, v => match setR ts x.2 n v with | some y => some (x.1, y) | none => none
def setRs (ts : List Ty) (x : Ty.R ts) (off : Nat) : List V → Option (Ty.R ts)
  | [] => some x
  | v :: vs => match setR ts x off v with | some y => setRs ts y (off + 1) vs | none => none
def setCs (cs : List V) (off : Nat) : List V → List V
  | [] => cs
  | v :: vs => setCs (cs.set off v) (off + 1) vs

mutual
/-- Names no own memory. -/
def V.closed : V → Bool
  | .p .. | .pr .. | .sl _ | .ss .. | .sc .. => false
  | .fn _ x y => V.closeds x && V.closeds y
  | .agg l | .tup l => V.closeds l
  | _ => true
def V.closeds : List V → Bool
  | [] => true
  | v :: vs => v.closed && V.closeds vs
end
mutual
/-- Names no block of a number from n on. -/
def V.under (n : Nat) : V → Bool
  | .p j _ | .pr j _ _ | .sl j | .ss j _ _ | .sc j _ _ _ => Nat.blt j n
  | .fn _ x y => V.unders n x && V.unders n y
  | .agg l | .tup l => V.unders n l
  | _ => true
def V.unders (n : Nat) : List V → Bool
  | [] => true
  | v :: vs => v.under n && V.unders n vs
end
def Blk.under (n : Nat) : Blk → Bool
  | .c _ cs => V.unders n cs
  | _ => true
mutual
/-- What names a row of elements of block k is forgotten. -/
def V.purge (k : Nat) : V → V
  | .p j o => bif Nat.beq j k then .u else .p j o
  | .sc j o l w => bif Nat.beq j k then .u else .sc j o l w
  | .pr j r o => bif Nat.beq j k then .u else .pr j r o
  | .sl j => bif Nat.beq j k then .u else .sl j
  | .ss j o l => bif Nat.beq j k then .u else .ss j o l
  | .fn f x y => .fn f (V.purges k x) (V.purges k y)
  | .agg l => .agg (V.purges k l)
  | .tup l => .tup (V.purges k l)
  | v => v
def V.purges (k : Nat) : List V → List V
  | [] => []
  | v :: vs => v.purge k :: V.purges k vs
end
def envPurge (k : Nat) : List (Nat × V) → List (Nat × V)
  | [] => []
  | e :: r => (e.1, e.2.purge k) :: envPurge k r
def Blk.purge (k : Nat) : Blk → Blk
  | .c te cs => .c te (V.purges k cs)
  | x => x
def hpPurge (k : Nat) : Heap → Heap
  | [] => []
  | b :: r => b.purge k :: hpPurge k r
mutual
/-- Rows of own memory in a value are given up: nobody writes them any more. -/
def V.frz : V → Heap → Option (V × Heap)
  | .sl j, H => match hget H j with
    | some (.r te T l _) => some (.ls T l false, hset H j (.r te T l true))
    | _ => none
  | .ss j o n, H => match hget H j with
    | some (.r te T l _) => some (.ls T ((l.drop o).take n) false, hset H j (.r te T l true))
    | _ => none
  | .agg l, H => match V.frzs l H with | some (l, H) => some (.agg l, H) | none => none
  | .tup l, H => match V.frzs l H with | some (l, H) => some (.tup l, H) | none => none
  | v, H => bif v.closed then some (v, H) else none
def V.frzs : List V → Heap → Option (List V × Heap)
  | [], H => some ([], H)
  | v :: vs, H => match v.frz H with
    | some (v, H) => match V.frzs vs H with | some (vs, H) => some (v :: vs, H) | none => none
    | none => none
end
mutual
/-- What a call answers, its own rows moved out of its heap G into H. -/
def V.pull : V → Heap → Heap → Option (V × Heap × Heap)
  | .sl j, G, H => match hget G j with
    | some (.r te T l z) => some (.sl (hlen H), hset G j .dead, H ++ [.r te T l z])
    | _ => none
  | .agg l, G, H => match V.pulls l G H with | some (l, G, H) => some (.agg l, G, H) | none => none
  | .tup l, G, H => match V.pulls l G H with | some (l, G, H) => some (.tup l, G, H) | none => none
  | v, G, H => bif v.closed then some (v, G, H) else none
def V.pulls : List V → Heap → Heap → Option (List V × Heap × Heap)
  | [], G, H => some ([], G, H)
  | v :: vs, G, H => match v.pull G H with
    | some (v, G, H) => match V.pulls vs G H with | some (vs, G, H) => some (v :: vs, G, H) | none => none
    | none => none
end

/-! Operations. -/
/-- What an operation does: what has to hold, its value, the heap behind it, own rows that may lie elsewhere then, what it touches. -/
structure Eff where
  c : Bool
  v : V
  hp : Heap
  pg : List Nat
  fp : Fp
section
variable (P : Program)
def isAggB (t : TypeId) : Bool := match P.underlying t with | some (.struct _) | some (.array ..) => true | _ => false
/-- n cells from an address on. -/
def readAt (H : Heap) (x : V) (n : Nat) : Option (Bool × List V × List Nat) :=
  match x with
  | .p m off => match hget H m with
    | some (.c _ cs) => bif Nat.ble (off + n) cs.length then some (true, (cs.drop off).take n, [m]) else none
    | _ => none
  | .pr m row off => match hget H m with
    | some (.r _ T l _) => bif Nat.ble (off + n) T.length then some (decide (row < l.length), ((rowV T (l.getD row (Ty.dR T))).drop off).take n, [m]) else none
    | _ => none
  | .pe T y off => bif Nat.ble (off + n) T.length then some (true, ((rowV T y).drop off).take n, []) else none
  | _ => none
/-- Cells are written from an address on. -/
def writeAt (H : Heap) (x : V) (vs : List V) : Option (Bool × Heap × Nat) :=
  match x with
  | .p m off => match hget H m with
    | some (.c te cs) => bif Nat.ble (off + vs.length) cs.length then some (true, hset H m (.c te (setCs cs off vs)), m) else none
    | _ => none
  | .pr m row off => match hget H m with
    | some (.r te T l false) => bif Nat.ble (off + vs.length) T.length then match setRs T (l.getD row (Ty.dR T)) off vs with
      | some y => some (decide (row < l.length), hset H m (.r te T (l.set row y) false), m)
      | none => none
      else none
    | _ => none
  | _ => none
def cellsVal (t : TypeId) (cs : List V) : Option V :=
  bif (P.underlying t).isSome then (bif isAggB P t then some (.agg cs) else match cs with | [v] => some v | _ => none) else none
def shiftAddr (x : V) (k : Nat) : Option V :=
  match x with
  | .p m off => some (.p m (off + k))
  | .pr m row off => some (.pr m row (off + k))
  | .pe T y off => some (.pe T y (off + k))
  | _ => none
def fieldOf (t : TypeId) (f : Nat) : Option Field :=
  match P.underlying t with
  | some (.struct fs) => fs[f]?
  | _ => none
/-- A field's or an element's cells out of an aggregate's. -/
def partV (t : TypeId) (cs : List V) (off : Nat) : Option V :=
  let n := P.cellsOf t
  bif Nat.ble (off + n) cs.length then cellsVal P t ((cs.drop off).take n) else none
/-- '==' of pointers. -/
def ptrEq : V → V → Option Bool
  | .np, .np => some true
  | .np, .p _ _ => some false
  | .p _ _, .np => some false
  | .p m o, .p m' o' => bif Nat.beq m m' && Nat.beq o o' then some true else none
  | _, _ => none
/-- '==' -/
def eqV : Nat → TypeId → V → V → Option Bool
  | 0, _, _, _ => none
  | d + 1, t, x, y =>
    match P.underlying t with
    | some .bool => match x, y with | .b m, .b n => some (m == n) | _, _ => none
    | some (.int _) => match x, y with | .i j m, .i k n => if j = k then some (m == n) else none | _, _ => none
    | some .string => match x, y with | .s m, .s n => some (m == n) | _, _ => none
    | some (.struct fs) => match x, y with
      | .agg xs, .agg ys => bif P.stoodInHeld t then none else
        fs.toList.foldr (fun f acc => match acc with
          | none => none
          | some r => bif f.name == "_" then some r else match partV P f.type xs f.offset, partV P f.type ys f.offset with
            | some p, some q => match eqV d f.type p q with | some e => some (e && r) | none => none
            | _, _ => none) (some true)
      | _, _ => none
    | some (.array n e) => match x, y with
      | .agg xs, .agg ys => bif !(P.info? e).isSome then none else
        (List.range n).foldr (fun j acc => match acc with
          | none => none
          | some r => match partV P e xs (j * P.cellsOf e), partV P e ys (j * P.cellsOf e) with
            | some p, some q => match eqV d e p q with | some b => some (b && r) | none => none
            | _, _ => none) (some true)
      | _, _ => none
    | some (.pointer e) => bif (P.info? e).isSome && !Nat.beq (P.cellsOf e) 0 then ptrEq x y else none
    | _ => none
def binV (op : BinOp) (t : TypeId) (x y : V) : Option (Bool × V) :=
  match x, y with
  | .i j m, .i k n =>
    if j = k then match op with
      | .add => some (true, .i j (j.wrap (m + n)))
      | .sub => some (true, .i j (j.wrap (m - n)))
      | .mul => some (true, .i j (j.wrap (m * n)))
      | .quo => some (!(n == 0), .i j (j.wrap (m.tdiv n)))
      | .rem => some (!(n == 0), .i j (m.tmod n))
      | .eql => some (true, .b (m == n))
      | .neq => some (true, .b (m != n))
      | .lss => some (true, .b (decide (m < n)))
      | .leq => some (true, .b (decide (m ≤ n)))
      | .gtr => some (true, .b (decide (m > n)))
      | .geq => some (true, .b (decide (m ≥ n)))
      | _ => none
    else none
  | .s m, .s n => match op with
    | .add => some (decide (((m.length + n.length : Nat) : Int) ≤ 9223372036854775807), .s (m ++ n))
    | .eql => some (true, .b (m == n))
    | .neq => some (true, .b (!(m == n)))
    | _ => none
  | _, _ => bif P.eqGuardType P.depth t then none else match op with
    | .eql => match eqV P 9 t x y with | some e => some (true, .b e) | none => none
    | .neq => match eqV P 9 t x y with | some e => some (true, .b (!e)) | none => none
    | _ => none
def unV (op : UnOp) (x : V) : Option V :=
  match op, x with
  | .neg, .i k n => some (.i k (k.wrap (0 - n)))
  | .not, .b x => some (.b (!x))
  | _, _ => none
def convV (src dst : TypeId) (x : V) : Option V :=
  match P.underlying src, P.underlying dst, x with
  | some (.int _), some (.int k), .i _ n => some (.i k (k.wrap n))
  | some .string, some .string, .s x => some (.s x)
  | _, _, _ => none
def maxV : V → V → Option V
  | .i j m, .i k n => if j = k then some (.i j (if n > m then n else m)) else none
  | _, _ => none
def minV : V → V → Option V
  | .i j m, .i k n => if j = k then some (.i j (if n < m then n else m)) else none
  | _, _ => none
def foldV (f : V → V → Option V) : V → List V → Option V
  | x, [] => some x
  | x, y :: r => match f x y with | some z => foldV f z r | none => none
end
section
variable (P : Program)
def pure_ (H : Heap) (v : V) : Option Eff := some ⟨true, v, H, [], .no⟩
def pureO (H : Heap) (v : Option V) : Option Eff := match v with | some v => some ⟨true, v, H, [], .no⟩ | none => none
def elemSz (t : TypeId) : Nat := match P.underlying t with | some (.slice e) | some (.array _ e) => P.cellsOf e | _ => 0
/-- The address of an element. -/
def idxAddr (H : Heap) (t : TypeId) (x ix : V) : Option (Bool × V) :=
  match ix with
  | .i _ n =>
    match P.underlying t with
    | some (.slice e) =>
      match x with
      | .ls T l _ => bif Nat.beq T.length (P.cellsOf e) then some (decide (0 ≤ n) && decide (n < l.length), .pe T (l.getD n.toNat (Ty.dR T)) 0) else none
      | .sl m => match hget H m with
        | some (.r _ T l _) => bif Nat.beq T.length (P.cellsOf e) then some (decide (0 ≤ n) && decide (n < l.length), .pr m n.toNat 0) else none
        | _ => none
      | .ss m o k => match hget H m with
        | some (.r _ T _ _) => bif Nat.beq T.length (P.cellsOf e) then some (decide (0 ≤ n) && decide (n < k), .pr m (o + n.toNat) 0) else none
        | _ => none
      | .sc m o k w => bif Nat.beq w (P.cellsOf e) then some (decide (0 ≤ n) && decide (n < k), .p m (o + n.toNat * w)) else none
      | _ => none
    | some (.array k e) => match shiftAddr x (n.toNat * P.cellsOf e) with
      | some y => some (decide (0 ≤ n) && decide (n < k), y)
      | none => none
    | _ => none
  | _ => none
def idxVal (t : TypeId) (x ix : V) : Option (Bool × V) :=
  match ix with
  | .i _ n =>
    match P.underlying t, x with
    | some (.array k e), .agg cs => match partV P e cs (n.toNat * P.cellsOf e) with
      | some y => some (decide (0 ≤ n) && decide (n < k), y)
      | none => none
    | some .string, .s l => some (decide (0 ≤ n) && decide (n < l.length), .i .u8 ((l.getD n.toNat 0).toNat : Int))
    | _, _ => none
  | _ => none
def lenV (H : Heap) (t : TypeId) (x : V) : Option V :=
  match P.underlying t, x with
  | some (.slice _), .ls _ l _ => some (.i .i64 l.length)
  | some (.slice _), .nil => some (.i .i64 0)
  | some (.slice _), .sl m => match hget H m with | some (.r _ _ l _) => some (.i .i64 l.length) | _ => none
  | some (.slice _), .ss _ _ k => some (.i .i64 k)
  | some (.slice _), .sc _ _ k _ => some (.i .i64 k)
  | some .string, .s l => some (.i .i64 l.length)
  | some (.array n _), _ => some (.i .i64 n)
  | _, _ => none
def intOfV : V → Option Int
  | .i _ n => some n
  | _ => none
/-- Bounds of a cut: what is checked, where it begins and ends. -/
def bounds (len : Nat) (lo hi : Option V) : Option (Bool × Option Nat × Nat) :=
  match hi with
  | none => match lo with
    | none => some (true, none, len)
    | some (.i _ a) => some (decide (0 ≤ a) && decide (a ≤ len), some a.toNat, len)
    | _ => none
  | some (.i _ h) => match lo with
    | none => some (decide (0 ≤ h) && decide (h ≤ len), none, h.toNat)
    | some (.i _ a) => some ((decide (0 ≤ h) && decide (h ≤ len)) && (decide (0 ≤ a) && decide (a ≤ h)), some a.toNat, h.toNat)
    | _ => none
  | _ => none
def cutL {α : Type} (l : List α) (lo : Option Nat) (hi : Option Nat) : List α :=
  match lo, hi with
  | none, none => l
  | none, some h => l.take h
  | some a, none => l.drop a
  | some a, some h => (l.take h).drop a
/-- x[lo:hi:max] -/
def cutV (H : Heap) (t : TypeId) (x : V) (lo hi mx : Option V) : Option (Bool × V) :=
  match x with
  | .ls T l full => match P.underlying t with
    | some (.slice e) => bif Nat.beq T.length (P.cellsOf e) then
      match bounds l.length lo hi with
      | some (c, a, h) => match mx, hi with
        | none, none => some (c, .ls T (cutL l a none) full)
        | none, some _ => some (c, .ls T (cutL l a (some h)) (full && Nat.beq h l.length))
        | some (.i _ m), some _ => some (c && decide (m = (h : Int)), .ls T (cutL l a (some h)) true)
        | _, _ => none
      | none => none
      else none
    | _ => none
  | .sl m => match P.underlying t, hget H m, mx with
    | some (.slice e), some (.r _ T l _), none => bif Nat.beq T.length (P.cellsOf e) then match bounds l.length lo hi with
      | some (c, a, h) => some (c, .ss m (a.getD 0) (h - a.getD 0))
      | none => none
      else none
    | _, _, _ => none
  | .ss m o k => match P.underlying t, hget H m, mx with
    | some (.slice e), some (.r _ T _ _), none => bif Nat.beq T.length (P.cellsOf e) then match bounds k lo hi with
      | some (c, a, h) => some (c, .ss m (o + a.getD 0) (h - a.getD 0))
      | none => none
      else none
    | _, _, _ => none
  | .p m o => match P.underlying t, mx with
    | some (.array k e), none => bif Nat.ble 2 k then match bounds k lo hi with
      | some (c, a, h) => some (c, .sc m (o + a.getD 0 * P.cellsOf e) (h - a.getD 0) (P.cellsOf e))
      | none => none
      else none
    | _, _ => none
  | .s l => match P.underlying t, mx with
    | some .string, none => match bounds l.length lo hi with
      | some (c, a, h) => some (c, .s (cutL l a (match hi with | none => none | some _ => some h)))
      | none => none
    | _, _ => none
  | _ => none
/-- The rows of a slice. -/
def rowsOf (H : Heap) (T : List Ty) (x : V) : Option (List (Ty.R T)) :=
  match x with
  | .nil => some []
  | .ls T' l _ => if h : Ty.beqs T' T = true then some (castL h l) else none
  | .sl m => match hget H m with
    | some (.r _ T' l _) => if h : Ty.beqs T' T = true then some (castL h l) else none
    | _ => none
  | .ss m o k => match hget H m with
    | some (.r _ T' l _) => if h : Ty.beqs T' T = true then some (castL h ((l.drop o).take k)) else none
    | _ => none
  | _ => none
def byteRow (c : UInt8) : Ty.R [.i .u8] := ((c.toNat : Int), ())
def byteRows (l : List UInt8) : List (Ty.R [.i .u8]) := l.map byteRow
def strRows (T : List Ty) (x : V) : Option (List (Ty.R T)) :=
  match x with
  | .s l => if h : Ty.beqs [.i .u8] T = true then some (castL h (byteRows l)) else none
  | _ => none
end

inductive Ex where
  | n | exit (id : Nat) | ret
/-- Answers under tests. -/
inductive Tr (α : Type) where
  | fail | ok (a : α) | test (c : Bool) (x y : Tr α)
def Tr.fold {α β : Type} : Tr α → (α → Option β) → Option β
  | .fail, _ => none
  | .ok a, k => k a
  | .test c x y, k => bif c then x.fold k else y.fold k
def Tr.get {α : Type} : Tr α → Option α
  | .fail => none
  | .ok a => some a
  | .test c x y => bif c then x.get else y.get
/-- What is known of calls and loops. -/
structure Hooks where
  call : FuncId → List V → Heap → Option (Bool × V × Heap × List Nat)
  loop : FuncId → Nat → St → Option (Tr (Ex × St))
  frz : FuncId → Bool
  /-- A call that looks at variables and leaves them as_ they are. -/
  peek : FuncId → List V → Heap → Option (Bool × V)
def allUnder (n : Nat) : Heap → Bool
  | [] => true
  | b :: r => b.under n && allUnder n r
def envPurges : List Nat → List (Nat × V) → List (Nat × V)
  | [], e => e
  | k :: ks, e => envPurges ks (envPurge k e)
section
variable (P : Program) (h : Hooks)
mutual
def V.refs : V → List Nat
  | .sl m | .ss m _ _ => [m]
  | .agg l | .tup l => V.refss l
  | _ => []
def V.refss : List V → List Nat
  | [] => []
  | v :: vs => v.refs ++ V.refss vs
end
def callPure (H : Heap) (g : FuncId) (args : List V) (fz : List Nat) : Option Eff :=
  match h.call g args [] with
  | some (c, v, G, _) => match v.pull G H with
    | some (v', _, H') => some ⟨c, v', H', [], bif v'.closed then ⟨false, fz, fz⟩ else .every⟩
    | none => none
  | none => none
/-- Variables of the caller's, lent: the arguments that name them, the blocks, their numbers. -/
def loans (H : Heap) : List V → Nat → Option (List V × Heap × List Nat)
  | [], _ => some ([], [], [])
  | v :: vs, n => match v with
    | .p m off => match hget H m with
      | some (.c e cs) => bif V.closeds cs then match loans H vs (n + 1) with
        | some (vs', G, ms) => some (.p n off :: vs', .c e cs :: G, m :: ms)
        | none => none
        else none
      | _ => none
    | v => bif v.closed then match loans H vs n with
        | some (vs', G, ms) => some (v :: vs', G, ms)
        | none => none
        else none
def nodupN : List Nat → Bool
  | [] => true
  | m :: ms => !(ms.contains m) && nodupN ms
def callPeek (H : Heap) (g : FuncId) (args : List V) : Option Eff :=
  match loans H args 0 with
  | some (args', G, ms) => bif nodupN ms then match h.peek g args' G with
    | some (c, v) => bif v.closed then some ⟨c, v, H, [], ⟨false, ms, []⟩⟩ else none
    | none => none
    else none
  | none => none
def callR (H : Heap) (g : FuncId) (args : List V) : Option Eff :=
  bif V.closeds args then callPure h H g args [] else
  bif h.frz g then match V.frzs args H with
    | some (args', H') => callPure h H' g args' (V.refss args)
    | none => none
  else match callPeek h H g args with
  | some e => some e
  | none => match h.call g args H with
    | some (c, v, H', ap) =>
      let n := hlen H
      let ap' := ap.filter fun k => Nat.blt k n
      bif v.under n && allUnder n (H'.take n) then some ⟨c, v, H'.take n, ap', .every⟩
      else some ⟨c, v, H', ap', .every⟩
    | none => none
def opds (get : Operand → Option V) : List Operand → List TypeId → Option (List V)
  | [], _ => some []
  | x :: xs, ts => match get x, opds get xs ts.tail with
    | some v, some vs => some ((match ts with | t :: _ => asT P t v | [] => v) :: vs)
    | _, _ => none
/-- A new block, at its place. -/
def putAt (H : Heap) (slot : Nat) (x : Blk) : Heap := bif Nat.blt slot (hlen H) then hset H slot x else H ++ [x]
def zeroCells (t : TypeId) : Option (List V) :=
  match (P.info? t).bind (·.zero) with
  | some z => match ofVal z with
    | some v => match asT P t v with
      | .agg cs => some cs
      | v => some [v]
    | none => match z with
      | .nilFunc => some [.u]
      | _ => none
  | none => none
def setParts (cs : List V) (place : Nat → Option (Nat × Nat)) : List (Nat × V) → Option (List V)
  | [] => some cs
  | (j, v) :: r => match place j with
    | some (off, n) => bif Nat.beq v.cells.length n && Nat.ble (off + n) cs.length then setParts (setCs cs off v.cells) place r else none
    | none => none
def boxAll : List (Nat × V) → Bool
  | [] => true
  | e :: r => e.2.boxable && boxAll r
def buildV (t : TypeId) (parts : List (Nat × V)) : Option V :=
  bif !boxAll parts then none else
  match P.underlying t, zeroCells P t with
  | some (.struct fs), some z => bif !fs.toList.all (fun f => (P.info? f.type).isSome) then none else match setParts z (fun j => match fs[j]? with | some f => some (f.offset, P.cellsOf f.type) | none => none) parts with
    | some cs => some (.agg cs)
    | none => none
  | some (.array _ e), some z => bif !(P.info? e).isSome then none else match setParts z (fun j => some (j * P.cellsOf e, P.cellsOf e)) parts with
    | some cs => some (.agg cs)
    | none => none
  | _, _ => none
def fieldTy (t : TypeId) (j : Nat) : TypeId :=
  match P.underlying t with
  | some (.struct fs) => match fs[j]? with | some f => f.type | none => 0
  | some (.array _ e) | some (.slice e) => e
  | _ => 0
def partsV (get : Operand → Option V) (t : TypeId) : List (Nat × Operand) → Option (List (Nat × V))
  | [] => some []
  | (j, x) :: r => match get x, partsV get t r with
    | some v, some vs => some ((j, asT P (fieldTy P t j) v) :: vs)
    | _, _ => none
def frzParts : List (Nat × V) → Heap → Option (List (Nat × V) × Heap)
  | [], H => some ([], H)
  | e :: r, H => match e.2.frz H with
    | some (v, H) => match frzParts r H with | some (r, H) => some ((e.1, v) :: r, H) | none => none
    | none => none
/-- Cells as_ typed rows. -/
def toRows (T : List Ty) : Nat → List V → Option (List (Ty.R T))
  | 0, _ => some []
  | n + 1, cs => match toR T (cs.take T.length), toRows T n (cs.drop T.length) with
    | some x, some l => some (x :: l)
    | _, _ => none
def flatN (n : Nat) (z : List V) : List V := (List.replicate n z).flatten
def buildSl (H0 : Heap) (slot : Nat) (t : TypeId) (n : Nat) (ps : List (Nat × V)) : Option Eff :=
  match P.underlying t with
  | some (.slice e) => match zeroCells P e with
    | some z => bif Nat.beq z.length (P.cellsOf e) && Nat.blt 0 z.length && Nat.ble (n * z.length) 16777216 && boxAll ps then
      match tys P 9 e with
      | some T => bif Nat.beq T.length z.length then match frzParts ps H0 with
        | some (ps', H) => match setParts (flatN n z) (fun j => some (j * P.cellsOf e, P.cellsOf e)) ps' with
          | some cs => match toRows T n cs with
            | some l => some ⟨true, .sl slot, putAt H slot (.r e T l false), [], bif V.closeds (ps.map (·.2)) then ⟨false, [], [slot]⟩ else .every⟩
            | none => none
          | none => none
        | none => none
        else none
      | none => match setParts (flatN n z) (fun j => some (j * P.cellsOf e, P.cellsOf e)) ps with
        | some cs => some ⟨true, .sc slot 0 n (P.cellsOf e), putAt H0 slot (.c e cs), [], ⟨false, [], [slot]⟩⟩
        | none => none
      else none
    | none => none
  | _ => none
def makeSl (H : Heap) (slot : Nat) (t : TypeId) (n c : V) : Option Eff :=
  match P.underlying t, n, c with
  | some (.slice e), .i _ n, .i _ c =>
    let ok := (decide (0 ≤ n) && decide (n ≤ c)) && (decide (c * (P.bytesOf e : Int) ≤ 140737488355328) && decide (c ≤ 9223372036854775807))
    match zeroCells P e with
    | some z => bif Nat.beq z.length (P.cellsOf e) && Nat.blt 0 z.length then
      match tys P 9 e with
      | some T => match toR T z with
        | some r => some ⟨ok, .sl slot, putAt H slot (.r e T (List.replicate n.toNat r) false), [], ⟨false, [], [slot]⟩⟩
        | none => none
      | none => some ⟨ok && decide (n = c), .sc slot 0 n.toNat (P.cellsOf e), putAt H slot (.c e (flatN n.toNat z)), [], ⟨false, [], [slot]⟩⟩
      else none
    | none => none
  | _, _, _ => none
def appOwn (H : Heap) (m : Nat) (e : TypeId) (T : List Ty) (l new : List (Ty.R T)) (bytes : Nat) : Eff :=
  ⟨decide ((l.length + new.length) * bytes ≤ 140737488355328), .sl m, hset (hpPurge m H) m (.r e T (l ++ new) false), [m], .every⟩
def appNew (H : Heap) (slot : Nat) (e : TypeId) (T : List Ty) (l new : List (Ty.R T)) (full : Bool) (bytes : Nat) (rd : List Nat) : Eff :=
  ⟨(full && (l.isEmpty || !new.isEmpty)) && decide ((l.length + new.length) * bytes ≤ 140737488355328), .sl slot, putAt H slot (.r e T (l ++ new) false), [], ⟨false, rd, [slot]⟩⟩
def appRows (H : Heap) (t2 : TypeId) (T : List Ty) (y : V) : Option (List (Ty.R T)) :=
  match P.underlying t2 with
  | some (.slice _) => rowsOf H T y
  | some .string => strRows T y
  | _ => none
def zeroOk (e : TypeId) (n : Nat) : Bool := match zeroCells P e with | some z => Nat.beq z.length n | none => false
def elemOk (e : TypeId) (T : List Ty) : Bool := Nat.beq T.length (P.cellsOf e) && Nat.blt 0 T.length && Nat.blt 0 (P.bytesOf e) && zeroOk P e T.length
def appR (H : Heap) (slot : Nat) (t t2 : TypeId) (x y : V) : Option Eff :=
  match P.underlying t with
  | some (.slice e) =>
    match x with
    | .nil => match tys P 9 e with
      | some T => match appRows P H t2 T y with
        | some new => bif elemOk P e T then some (appNew H slot e T [] new true (P.bytesOf e) y.refs) else none
        | none => none
      | none => none
    | .ls T l full => match appRows P H t2 T y with
      | some new => bif elemOk P e T then some (appNew H slot e T l new full (P.bytesOf e) y.refs) else none
      | none => none
    | .sl m => match hget H m with
      | some (.r te T l false) => match appRows P H t2 T y with
        | some new => bif Nat.beq te e && elemOk P e T then some (appOwn H m e T l new (P.bytesOf e)) else none
        | none => none
      | _ => none
    | .ss m 0 k => match hget H m with
      | some (.r te T l false) => match appRows P H t2 T y with
        | some new => bif Nat.beq te e && elemOk P e T then some (appOwn H m e T (l.take k) new (P.bytesOf e)) else none
        | none => none
      | _ => none
    | _ => none
  | _ => none
def opdO (get : Operand → Option V) : Option Operand → Option (Option V)
  | none => some none
  | some x => match get x with | some v => some (some v) | none => none
def resC (H : Heap) : Option (Bool × V) → Option Eff
  | some (c, v) => some ⟨c, v, H, [], .no⟩
  | none => none
def isStr (t : TypeId) : Bool := match P.underlying t with | some .string => true | _ => false
/-- A pointer to own memory, seen as_ an unsafe pointer, and back. -/
def ptrConv (H : Heap) (s d : TypeId) (m off : Nat) : Option Eff :=
  match P.underlying s, P.underlying d, hget H m with
  | some (.pointer t), some .unsafePointer, some (.c _ cs) => match P.info? t with
    | some j => bif Nat.blt off cs.length && !Nat.beq j.size 0 then some ⟨true, .p m off, H, [], ⟨false, [m], []⟩⟩ else none
    | none => none
  | some .unsafePointer, some (.pointer u), some (.c e cs) => match P.info? u with
    | some _ => bif liesAt P P.depth e (cs.length / P.cellsOf e) off u 1 then some ⟨true, .p m off, H, [], ⟨false, [m], []⟩⟩ else none
    | none => none
  | _, _, _ => none
def bytesOfRows (T : List Ty) (l : List (Ty.R T)) : Option (List UInt8) :=
  if h : Ty.beqs T [.i .u8] = true then some ((castL h l).map fun x => (show Int from x.1).toNat.toUInt8) else none
/-- The bytes of an own row, as_ a string; the row is given up. -/
def strOf (H : Heap) (pt : TypeId) (m : Nat) (n : Int) : Option Eff :=
  match P.underlying pt, hget H m with
  | some (.pointer e'), some (.r e T l false) => match bytesOfRows T l with
    | some bs => bif Nat.beq e e' && Nat.beq (P.cellsOf e) 1 then some ⟨(decide (n = l.length) && !l.isEmpty) && decide (n ≤ 9223372036854775807), .s bs, hset H m (.r e T l true), [], .every⟩ else none
    | none => none
  | _, _ => none
/-- A function of the machine's own. -/
def extName (f : FuncId) : Option String :=
  match P.funcs[f]? with
  | some fn => (match fn.body with | none => bif fn.origin == "" then some fn.name else some "" | some _ => none)
  | none => none
def extR (H : Heap) (name : String) (vs : List V) : Option Eff :=
  bif name == "internal/abi.NoEscape" then match vs with | [x] => pure_ H x | _ => none else none
def builtinR (H : Heap) (slot : Nat) (bi : Builtin) (ts : List TypeId) (vs : List V) : Option Eff :=
  match bi, ts, vs with
  | .len, t :: _, [x] => match lenV P H t x with
    | some v => some ⟨true, v, H, [], match x with | .sl m => ⟨false, [m], []⟩ | _ => .no⟩
    | none => none
  | .max, _, x :: r => pureO H (foldV maxV x r)
  | .min, _, x :: r => pureO H (foldV minV x r)
  | .append, [t, t2], [x, y] => appR P H slot t t2 x y
  | .unsafeSliceData, [_], [.nil] => pure_ H .np
  | .unsafeSliceData, [_], [.sl m] => match hget H m with
    | some (.r _ _ l false) => some ⟨!l.isEmpty, .pr m 0 0, H, [], ⟨false, [m], []⟩⟩
    | _ => none
  | .unsafeString, [_, _], [.np, .i .i64 n] => some ⟨decide (n = 0), .s [], H, [], .no⟩
  | .unsafeString, [pt, _], [.pr m 0 0, .i .i64 n] => strOf P H pt m n
  | _, _, _ => none
/-- An operation that is neither guarded nor a choice. -/
def opR0 (o : Oper) (slot : Nat) (get : Operand → Option V) (H : Heap) : Option Eff :=
  match o.op with
  | .move x | .assign x => match get x with | some v => pure_ H (asT P o.type v) | none => none
  | .alloc t => match zeroCells P t with
    | some cs => bif Nat.beq cs.length (P.cellsOf t) then some ⟨true, .p slot 0, putAt H slot (.c t cs), [], ⟨false, [], [slot]⟩⟩ else none
    | none => none
  | .box t x => match get x with
    | some v => bif (asT P t v).boxable then some ⟨true, .p slot 0, putAt H slot (.c t (asT P t v).cells), [], ⟨false, [], [slot]⟩⟩ else none
    | none => none
  | .build t ps => match partsV P get t ps.toList with
    | some l => pureO H (buildV P t l)
    | none => none
  | .buildSlice t n ps => match partsV P get t ps.toList with
    | some l => buildSl P H slot t n l
    | none => none
  | .load t a => match get a with
    | some x => match readAt H x (bif isAggB P t then P.cellsOf t else 1) with
      | some (c, cs, rd) => match cellsVal P t cs with
        | some v => some ⟨c, v, H, [], ⟨false, rd, []⟩⟩
        | none => none
      | none => none
    | none => none
  | .store t a x => match get a, get x with
    | some a, some v =>
      let cs := (asT P t v).cells
      bif Nat.beq cs.length (P.cellsOf t) && V.ones cs && (asT P t v).boxable && (P.info? t).isSome then match a with
        | .pr .. => match V.frzs cs H with
          | some (cs', H1) => match writeAt H1 a cs' with
            | some (c, H2, m) => some ⟨c, .u, H2, [], bif V.closeds cs then ⟨false, [m], [m]⟩ else .every⟩
            | none => none
          | none => none
        | _ => match writeAt H a cs with
          | some (c, H2, m) => some ⟨c, .u, H2, [], ⟨false, [m], [m]⟩⟩
          | none => none
      else none
    | _, _ => none
  | .binOp op t x y _ => match get x, get y with
    | some x, some y => resC H (binV P op t x y)
    | _, _ => none
  | .unOp op _ x => match get x with
    | some x => pureO H (unV op x)
    | none => none
  | .convert s d x => match get x with
    | some (.p m off) => ptrConv P H s d m off
    | some x => pureO H (convV P s d x)
    | none => none
  | .makeFunc (.func g) f c => match opds P get f.toList [], opds P get c.toList [] with
    | some f, some c => pure_ H (.fn g f c)
    | _, _ => none
  | .makeSlice t n c => match get n, get c with
    | some n, some c => makeSl P H slot t n c
    | _, _ => none
  | .slice t x lo hi mx => match get x, opdO get lo, opdO get hi, opdO get mx with
    | some x, some lo, some hi, some mx => match cutV P H t x lo hi mx with
      | some (c, v) => bif Nat.blt 0 (elemSz P t) || isStr P t then some ⟨c, v, H, [], match x with | .sl m | .ss m _ _ => ⟨false, [m], []⟩ | _ => .no⟩ else none
      | none => none
    | _, _, _, _ => none
  | .fieldAddr t x f => match get x, fieldOf P t f with
    | some x, some fd => bif Nat.blt 0 (P.cellsOf fd.type) then pureO H (shiftAddr x fd.offset) else none
    | _, _ => none
  | .field t x f => match get x, fieldOf P t f with
    | some (.agg cs), some fd => pureO H (partV P fd.type cs fd.offset)
    | _, _ => none
  | .indexAddr t x ix => match get x, get ix with
    | some x, some ix => match idxAddr P H t x ix with
      | some (c, v) => bif Nat.blt 0 (elemSz P t) then some ⟨c, v, H, [], match x with | .sl m | .ss m _ _ => ⟨false, [m], []⟩ | _ => .no⟩ else none
      | none => none
    | _, _ => none
  | .index t x ix => match get x, get ix with
    | some x, some ix => resC H (idxVal P t x ix)
    | _, _ => none
  | .extract x j => match get x with
    | some (.tup vs) => match vs[j]? with | some v => pure_ H v | none => none
    | _ => none
  | .call { callee := .builtin bi, args := xs, argTypes := ts } => match opds P get xs.toList ts.toList with
    | some vs => builtinR P H slot bi ts.toList vs
    | none => none
  | .call { callee := .value f, args := xs, argTypes := ts } => match get f, opds P get xs.toList ts.toList with
    | some (.fn g first caps), some vs => match extName P g with
      | none => callR h H g (first ++ vs ++ caps)
      | some name => extR H name (first ++ vs ++ caps)
    | _, _ => none
  | .nilCheck x => match get x with
    | some (.p m off) => pure_ H (.p m off)
    | some (.pr m row off) => pure_ H (.pr m row off)
    | some (.pe T x off) => pure_ H (.pe T x off)
    | _ => none
  | _ => none
end

def allocs : Op → Bool
  | .alloc _ | .box .. | .buildSlice .. | .makeSlice .. | .call { callee := .builtin .append, .. } => true
  | _ => false
def freeB (H : Heap) (slot : Nat) : Bool := match hget H slot with | some .dead => true | some _ => false | none => Nat.beq slot (hlen H)
def deadB (H : Heap) (slot : Nat) : Bool := match hget H slot with | some .dead => true | _ => false
/-- An operation: its block is put where none is. -/
def opR (P : Program) (h : Hooks) (strict : Bool) (o : Oper) (slot : Nat) (get : Operand → Option V) (H : Heap) : Option Eff :=
  bif allocs o.op then
    bif (bif strict then deadB H slot else freeB H slot) then match opR0 P h o slot get H with
      | some e => some ⟨e.c, e.v, e.hp, e.pg, ⟨e.fp.all, e.fp.rd, slot :: e.fp.wr⟩⟩
      | none => none
    else none
  else opR0 P h o slot get H

/-- The operations of a region, numbered, each with the place of its block (counted from the heap's end). -/
def numbered : List Oper → Nat → Nat → List (Nat × Nat × Oper)
  | [], _, _ => []
  | o :: r, j, n => (j, n, o) :: numbered r (j + 1) (bif allocs o.op then n + 1 else n)
def dstOf (ops : List Oper) (j : Nat) : Option Nat := match ops[j]? with | some o => o.dst | none => none
def maskOf : Operand → Nat
  | .tmp t => Nat.shiftLeft 1 t
  | _ => 0
def masksOf : List Operand → Nat
  | [] => 0
  | x :: r => Nat.lor (maskOf x) (masksOf r)
def looks (ops : List Oper) (o : Oper) : Nat :=
  Nat.lor (masksOf o.op.operands.toList) (match o.guard with | some (g, _) => (match dstOf ops g with | some d => Nat.shiftLeft 1 d | none => 0) | none => 0)
def dstMask (o : Oper) : Nat := match o.dst with | some d => Nat.shiftLeft 1 d | none => 0
/-- For each operation those that come ahead of it, whatever the order. -/
def edgeMask (acc : List Nat) : List Edge → Nat
  | [] => 0
  | e :: r => bif Region.binds .any e then Nat.lor (Nat.lor (Nat.shiftLeft 1 e.on) (acc.getD e.on 0)) (edgeMask acc r) else edgeMask acc r
def aheads : List Oper → List Nat → List Nat
  | [], acc => acc
  | o :: r, acc => aheads r (acc ++ [edgeMask acc o.after.toList])
def edgesOk : List Oper → Nat → Bool
  | [], _ => true
  | o :: r, j => o.after.toList.all (fun e => !Region.binds .any e || Nat.blt e.on j) && edgesOk r (j + 1)
def disjointN : List Nat → List Nat → Bool
  | [], _ => true
  | x :: r, l => !(l.contains x) && disjointN r l
def Fp.apart (x y : Fp) : Bool :=
  bif x.all then (!y.all && y.rd.isEmpty && y.wr.isEmpty) else bif y.all then (x.rd.isEmpty && x.wr.isEmpty) else disjointN x.wr y.rd && disjointN x.wr y.wr && disjointN x.rd y.wr
/-- Operation j against those ahead of it in the text. -/
def apartAll (ops : List Oper) (ah : Nat) (o : Oper) (fp : Fp) (q : Bool) : List (Nat × Oper × Fp × Bool) → Bool
  | [] => true
  | e :: r => (Nat.testBit ah e.1 || (q && e.2.2.2 && Nat.beq (Nat.land (dstMask o) (Nat.lor (looks ops e.2.1) (dstMask e.2.1))) 0 && Nat.beq (Nat.land (dstMask e.2.1) (looks ops o)) 0 && fp.apart e.2.2.1)) && apartAll ops ah o fp q r
def apartOk (ops : List Oper) (ahs : List Nat) : List (Nat × Oper × Fp × Bool) → Bool
  | [] => true
  | e :: r => apartAll ops (ahs.getD e.1 0) e.2.1 e.2.2.1 e.2.2.2 r && apartOk ops ahs r
section
variable (P : Program) (h : Hooks) {α : Type}
/-- Operations in the text's order; 'base': where places of blocks are counted from ('none': the heap's end as_ it stands). -/
def evOps (ops : List Oper) (base : Option Nat) : List (Nat × Nat × Oper) → St → List (Nat × Oper × Fp × Bool) → (St → List (Nat × Oper × Fp × Bool) → Option α) → Option α
  | [], st, fs, k => k st fs
  | (j, n, o) :: r, st, fs, k =>
    let slot := match base with | some m => m + n | none => hlen st.hp
    let exec (st : St) : Option α :=
      match o.op with
      | .pick c a b => match opd st.env c, opd st.env a, opd st.env b with
        | some (.b x), some a, some b => bif x then evOps ops base r ⟨eputO st.env o.dst a, st.hp, st.ap⟩ ((j, o, .no, true) :: fs) k else evOps ops base r ⟨eputO st.env o.dst b, st.hp, st.ap⟩ ((j, o, .no, true) :: fs) k
        | _, _, _ => none
      | _ => match opR P h base.isSome o slot (opd st.env) st.hp with
        | some e => bif e.c then evOps ops base r ⟨eputO (envPurges e.pg st.env) o.dst e.v, e.hp, e.pg ++ st.ap⟩ ((j, o, e.fp, e.pg.isEmpty) :: fs) k else none
        | none => none
    match o.guard with
    | none => exec st
    | some (g, want) => match dstOf ops g with
      | some d => match eget st.env d with
        | some (.b x) => bif x
          then bif want then exec ⟨eput st.env d (.b true), st.hp, st.ap⟩ else evOps ops base r ⟨eputO (eput st.env d (.b true)) o.dst (.tup []), st.hp, st.ap⟩ ((j, o, .no, true) :: fs) k
          else bif want then evOps ops base r ⟨eputO (eput st.env d (.b false)) o.dst (.tup []), st.hp, st.ap⟩ ((j, o, .no, true) :: fs) k else exec ⟨eput st.env d (.b false), st.hp, st.ap⟩
        | some (.tup []) => evOps ops base r ⟨eputO st.env o.dst (.tup []), st.hp, st.ap⟩ ((j, o, .no, true) :: fs) k
        | _ => none
      | none => none
def countAllocs : List Oper → Nat
  | [] => 0
  | o :: r => bif allocs o.op then countAllocs r + 1 else countAllocs r
def deads : Nat → Heap
  | 0 => []
  | n + 1 => .dead :: deads n
def evRegion (ops : List Oper) (draw : Bool) (st : St) (k : St → Option α) : Option α :=
  match draw with
  | false => evOps P h ops none (numbered ops 0 0) st [] fun st _ => k st
  | true => evOps P h ops (some (hlen st.hp)) (numbered ops 0 0) ⟨st.env, st.hp ++ deads (countAllocs ops), st.ap⟩ [] fun st fs => bif edgesOk ops 0 && apartOk ops (aheads ops []) fs then k st else none
def mentionsOps : List Oper → Nat
  | [] => 0
  | o :: r => Nat.lor (Nat.lor (masksOf o.op.operands.toList) (dstMask o)) (mentionsOps r)
def mentions : Code → Nat
  | .region _ ops _ => mentionsOps ops.toList
  | .seq a b => Nat.lor (mentions a) (mentions b)
  | .cond c a b => Nat.lor (maskOf c) (Nat.lor (mentions a) (mentions b))
  | .block _ a | .loop a | .scope a => mentions a
  | _ => 0
/-- A loop's number: that of the first region in it. -/
def firstReg : Code → Nat
  | .region id _ _ => id
  | .seq a _ => firstReg a
  | .block _ a | .loop a | .scope a => firstReg a
  | _ => 0
def keepMask (m : Nat) : List (Nat × V) → List (Nat × V)
  | [] => []
  | e :: r => bif Nat.testBit m e.1 then e :: keepMask m r else keepMask m r
def keepDom (dom : List (Nat × V)) : List (Nat × V) → List (Nat × V)
  | [] => []
  | e :: r => match eget dom e.1 with | some _ => e :: keepDom dom r | none => keepDom dom r
def domMask : List (Nat × V) → Nat
  | [] => 0
  | e :: r => Nat.lor (Nat.shiftLeft 1 e.1) (domMask r)
/-- Where the loop of a number stands: the turns on the way to it, the last one first. -/
def loopPath (id : Nat) : Code → List Bool → Option (List Bool)
  | .seq a b, p => match loopPath id a (false :: p) with | some q => some q | none => loopPath id b (true :: p)
  | .cond _ a b, p => match loopPath id a (false :: p) with | some q => some q | none => loopPath id b (true :: p)
  | .block _ a, p => loopPath id a (false :: p)
  | .loop a, p => bif Nat.beq (firstReg a) id then some p else loopPath id a (false :: p)
  | _, _ => none
def codeAt (c : Code) : List Bool → Option Code
  | [] => some c
  | d :: p => match codeAt c p with
    | some (.seq a b) | some (.cond _ a b) => some (bif d then b else a)
    | some (.block _ a) | some (.loop a) => some a
    | _ => none
def bodyOf (f : FuncId) : Option Code := match P.funcs[f]? with | some fn => fn.body | none => none
def loopPos (f : FuncId) (id : Nat) : Option (List Bool) := match bodyOf P f with | some c => loopPath id c [] | none => none
def samePath : List Bool → List Bool → Bool
  | [], [] => true
  | a :: p, b :: q => (a == b) && samePath p q
  | _, _ => false
def evC (f : FuncId) : Code → List Bool → Nat → St → (Ex → St → Option α) → Option α
  | .skip, _, _, st, k => k .n st
  | .region _ ops draw, _, _, st, k => evRegion P h ops.toList draw st (k .n)
  | .seq a b, p, L, st, k => evC f a (false :: p) (Nat.lor L (mentions b)) st fun e st => match e with
    | .n => evC f b (true :: p) L st k
    | .exit id => k (.exit id) st
    | .ret => k .ret st
  | .cond c a b, p, L, st, k => match opd st.env c with
    | some (.b x) => bif x then evC f a (false :: p) L st k else evC f b (true :: p) L st k
    | _ => none
  | .block id a, p, L, st, k => evC f a (false :: p) L st fun e st => match e with
    | .n => k .n st
    | .exit j => bif Nat.beq j id then k .n st else k (.exit j) st
    | .ret => k .ret st
  | .loop a, p, L, st, k => match loopPos P f (firstReg a) with
    | some q => bif samePath q p then match h.loop f (firstReg a) ⟨keepMask (Nat.lor L (mentions a)) st.env, st.hp, st.ap⟩ with
      | some t => t.fold fun r => k r.1 r.2
      | none => none
      else none
    | none => none
  | .exit id, _, _, st, k => k (.exit id) st
  | .ret, _, _, st, k => k .ret st
  | _, _, _, _, _ => none
def params : Nat → List V → List (Nat × V)
  | _, [] => []
  | j, v :: vs => (j, v) :: params (j + 1) vs
def resV (st : St) (t : TypeId) : ResultVar → Option V
  | .tmp x => match eget st.env x with | some v => some (asT P t v) | none => none
  | .cell a t => match eget st.env a with
    | some x => match readAt st.hp x (bif isAggB P t then P.cellsOf t else 1) with
      | some (true, cs, _) => cellsVal P t cs
      | _ => none
    | none => none
def resVs (st : St) : List TypeId → List ResultVar → Option (List V)
  | _, [] => some []
  | ts, r :: rs => match resV P st (ts.headD 0) r, resVs st ts.tail rs with | some v, some vs => some (v :: vs) | _, _ => none
def resultV (fn : Func) (st : St) : Option V :=
  match resVs P st fn.resultTypes.toList fn.results.toList with
  | some [v] => some v
  | some vs => some (.tup vs)
  | none => none
def resMask : List ResultVar → Nat
  | [] => 0
  | .tmp t :: r => Nat.lor (Nat.shiftLeft 1 t) (resMask r)
  | .cell t _ :: r => Nat.lor (Nat.shiftLeft 1 t) (resMask r)
/-- A function at arguments, and what is done with its answer. -/
def evK (f : FuncId) (args : List V) (H : Heap) (k : V → Heap → List Nat → Option α) : Option α :=
  match P.funcs[f]? with
  | some fn => match fn.body with
    | some c => bif Nat.blt (mentions c) (Nat.shiftLeft 1 fn.ntmps) && Nat.ble args.length fn.ntmps && !(fn.name == "runtime.NumGoroutine") then
      evC P h f c [] (resMask fn.results.toList) ⟨params 0 args, H, []⟩ fun e st => match e with
      | .exit _ => none
      | _ => match resultV P fn st with
        | some v => k v st.hp st.ap
        | none => none
      else none
    | none => none
  | none => none
def evF (f : FuncId) (args : List V) (H : Heap) : Option (V × Heap × List Nat) := evK P h f args H fun v H ap => some (v, H, ap)
mutual
/-- Nothing is said of a row's room. -/
def V.weak : V → V
  | .ls T l _ => .ls T l false
  | .agg l => .agg (V.weaks l)
  | .tup l => .tup (V.weaks l)
  | v => v
def V.weaks : List V → List V
  | [] => []
  | v :: vs => v.weak :: V.weaks vs
end
/-- A function whose own memory is given up behind it. -/
def evB (f : FuncId) (args : List V) (H : Heap) : Option (V × Heap) := evK P h f args H fun v H' ap => match ap with
  | [] => match v.frz H' with
    | some (v', H2) => bif allUnder (hlen H) (H2.take (hlen H)) then some (v'.weak, H2.take (hlen H)) else none
    | none => none
  | _ :: _ => none
def evP (f : FuncId) (args : List V) : Option V := evK P h f args [] fun v H _ => match v.frz H with
  | some (v', _) => some v'.weak
  | none => none
/-- One round of the loop of a number. -/
def evRound (f : FuncId) (id : Nat) (st : St) : Option (Ex × St) :=
  match P.funcs[f]? with
  | some fn => match loopPos P f id with
    | some p => match (match fn.body with | some c => codeAt c (false :: p) | none => none) with
      | some a => bif Nat.blt (mentions a) (Nat.shiftLeft 1 fn.ntmps) then evC P h f a (false :: p) (domMask st.env) st fun e st' =>
          let env := keepDom st.env st'.env
          let n := hlen st.hp
          bif V.unders n (env.map (·.2)) && allUnder n (st'.hp.take n) then some (e, ⟨env, st'.hp.take n, st'.ap⟩) else some (e, ⟨env, st'.hp, st'.ap⟩)
        else none
      | none => none
    | none => none
  | none => none
end
/-- Calls and loops to a depth, over what is known. -/
def deepen (P : Program) (h0 : Hooks) : Nat → Hooks
  | 0 => h0
  | n + 1 =>
    { call := fun f args H => match h0.call f args H with | some r => some r | none => evK P (deepen P h0 n) f args H fun v H ap => some (true, v, H, ap)
      loop := fun f id st => match h0.loop f id st with
        | some r => some r
        | none => match evRound P (deepen P h0 n) f id st with
          | some (.n, st') => (deepen P h0 n).loop f id st'
          | some r => some (.ok r)
          | none => none
      frz := h0.frz
      peek := h0.peek }
def noHooks : Hooks := ⟨fun _ _ _ => none, fun _ _ _ => none, fun _ => false, fun _ _ _ => none⟩
end Go.Mini
end
section
set_option linter.unusedVariables false
set_option linter.unusedSimpArgs false
namespace Go.Mini
open Go.RowKit
/-! What an evaluator's value stands for in a world. -/
/-- Where an own block lies: nowhere (an empty row), or block j of so many cells; n elements of w cells. -/
inductive Loc where
  | no
  | lies (j sz n w : Nat)
abbrev Rho := Nat → Option Loc
abbrev Fz := Nat → Option (Array Value)
mutual
def DRel (F : Fz) : (t : Ty) → t.D → Value → Prop
  | .i k, n, v => v = .int k n
  | .b, x, v => v = .bool x
  | .s, x, v => v = .string ⟨x.toArray⟩
  | .sl row, l, v => ∃ a cap, v = .slice a (List.length (α := Ty.R row) l) cap ∧ List.length (α := Ty.R row) l ≤ cap ∧
      ((show List (Ty.R row) from l) = [] ∨ ∃ ad c, a = some ad ∧ ad.spot = none ∧ F ad.block = some c ∧ ∀ i x, (show List (Ty.R row) from l)[i]? = some x → RRel F row x (fun k => c[ad.off + i * row.length + k]?))
def RRel (F : Fz) : (ts : List Ty) → Ty.R ts → (Nat → Option Value) → Prop
  | [], _, _ => True
  | t :: ts, x, g => (∃ v, g 0 = some v ∧ DRel F t x.1 v) ∧ RRel F ts x.2 (fun k => g (k + 1))
end
def RowsRel (F : Fz) (T : List Ty) (l : List (Ty.R T)) (c : Array Value) (off : Nat) : Prop :=
  ∀ i x, l[i]? = some x → RRel F T x (fun k => c[off + i * T.length + k]?)
mutual
def VRel (ρ : Rho) (F : Fz) : V → Value → Prop
  | .u, _ => True
  | .b x, v => v = .bool x
  | .i k n, v => v = .int k n
  | .s x, v => v = .string ⟨x.toArray⟩
  | .np, v => v = .pointer none
  | .nil, v => v = .slice none 0 0
  | .p m off, v => ∃ j sz n w, ρ m = some (.lies j sz n w) ∧ v = .pointer (some ⟨j, off, none⟩)
  | .pr m row off, v => ∃ j sz n w, ρ m = some (.lies j sz n w) ∧ v = .pointer (some ⟨j, row * w + off, none⟩)
  | .pe T x off, v => ∃ b base c, v = .pointer (some ⟨b, base + off, none⟩) ∧ F b = some c ∧ RRel F T x (fun k => c[base + k]?)
  | .sl m, v => (ρ m = some .no ∧ ∃ a, v = .slice a 0 0) ∨ ∃ j sz n w cap, ρ m = some (.lies j sz n w) ∧ v = .slice (some ⟨j, 0, none⟩) n cap ∧ n ≤ cap ∧ cap * w ≤ sz
  | .ss m o k, v => (k = 0 ∧ ∃ a, v = .slice a 0 0) ∨ ∃ j sz n w cap, ρ m = some (.lies j sz n w) ∧ v = .slice (some ⟨j, o * w, none⟩) k cap ∧ o + k ≤ n ∧ k ≤ cap ∧ (o + cap) * w ≤ sz
  | .sc m o k w', v => (k = 0 ∧ ∃ a cap, v = .slice a 0 cap) ∨ ∃ j sz n w cap, ρ m = some (.lies j sz n w) ∧ v = .slice (some ⟨j, o, none⟩) k cap ∧ k ≤ cap
  | .ls T l full, v => DRel F (.sl T) l v ∧ (full = true → ∃ a n, v = .slice a n n)
  | .fn f x y, v => ∃ xs ys, v = .func (.func f) xs ys ∧ VRels ρ F x xs.toList ∧ VRels ρ F y ys.toList
  | .agg l, v => ∃ a, v = .agg a ∧ VRels ρ F l a.toList
  | .tup l, v => ∃ a, v = .tuple a ∧ VRels ρ F l a.toList
def VRels (ρ : Rho) (F : Fz) : List V → List Value → Prop
  | [], vs => vs = []
  | x :: xs, vs => ∃ v r, vs = v :: r ∧ VRel ρ F x v ∧ VRels ρ F xs r
end
def FLe (F F' : Fz) : Prop := ∀ j c, F j = some c → F' j = some c
theorem FLe.refl (F : Fz) : FLe F F := fun _ _ h => h
theorem FLe.trans {F G K : Fz} (a : FLe F G) (b : FLe G K) : FLe F K := fun j c h => b j c (a j c h)
mutual
theorem DRel.mono {F F' : Fz} (hF : FLe F F') : ∀ (t : Ty) (x : t.D) (v : Value), DRel F t x v → DRel F' t x v
  | .i _, _, _, h => by simpa only [DRel] using h
  | .b, _, _, h => by simpa only [DRel] using h
  | .s, _, _, h => by simpa only [DRel] using h
  | .sl row, l, v, h => by
    simp only [DRel] at h ⊢
    obtain ⟨a, cap, h1, h2, h3⟩ := h
    refine ⟨a, cap, h1, h2, h3.imp id ?_⟩
    rintro ⟨ad, c, g1, g2, g3, g4⟩
    exact ⟨ad, c, g1, g2, hF _ _ g3, fun i x hx => RRel.mono hF row x _ (g4 i x hx)⟩
theorem RRel.mono {F F' : Fz} (hF : FLe F F') : ∀ (ts : List Ty) (x : Ty.R ts) (g : Nat → Option Value), RRel F ts x g → RRel F' ts x g
  | [], _, _, _ => by simp only [RRel]
  | t :: ts, x, g, h => by
    simp only [RRel] at h ⊢
    obtain ⟨⟨v, h1, h2⟩, h3⟩ := h
    exact ⟨⟨v, h1, DRel.mono hF t x.1 v h2⟩, RRel.mono hF ts x.2 _ h3⟩
end
theorem RowsRel.mono {F F' : Fz} (hF : FLe F F') {T l c off} (h : RowsRel F T l c off) : RowsRel F' T l c off := fun i x hx => RRel.mono hF T x _ (h i x hx)
/-- The cells of a typed row, as_ values. -/
theorem RRel.cells {ρ : Rho} {F : Fz} : ∀ (ts : List Ty) (x : Ty.R ts) (g : Nat → Option Value), RRel F ts x g → ∃ vs, VRels ρ F (rowV ts x) vs ∧ vs.length = ts.length ∧ ∀ k v, vs[k]? = some v → g k = some v
  | [], _, _, _ => ⟨[], by simp [rowV, VRels], rfl, by simp⟩
  | t :: ts, x, g, h => by
    simp only [RRel] at h
    obtain ⟨⟨v, h1, h2⟩, h3⟩ := h
    obtain ⟨vs, g1, g2, g3⟩ := RRel.cells (ρ := ρ) ts x.2 _ h3
    refine ⟨v :: vs, ?_, by simp [g2], ?_⟩
    · simp only [rowV, VRels]
      refine ⟨v, vs, rfl, ?_, g1⟩
      cases t with
      | i k => simpa only [cellV, VRel, DRel] using h2
      | b => simpa only [cellV, VRel, DRel] using h2
      | s => simpa only [cellV, VRel, DRel] using h2
      | sl r => simp only [cellV, VRel]; exact ⟨h2, by simp⟩
    · intro k w hk
      cases k with
      | zero => simp only [List.getElem?_cons_zero, Option.some.injEq] at hk; rw [h1, hk]
      | succ k => exact g3 k w (by simpa using hk)
theorem VRels.length {ρ : Rho} {F : Fz} : ∀ {l : List V} {vs : List Value}, VRels ρ F l vs → vs.length = l.length
  | [], vs, h => by simp only [VRels] at h; rw [h]; rfl
  | x :: xs, vs, h => by
    simp only [VRels] at h
    obtain ⟨v, r, rfl, _, h2⟩ := h
    simp [VRels.length h2]
theorem VRels.get {ρ : Rho} {F : Fz} : ∀ {l : List V} {vs : List Value}, VRels ρ F l vs → ∀ {k : Nat} {x : V}, l[k]? = some x → ∃ v, vs[k]? = some v ∧ VRel ρ F x v
  | [], vs, h, k, x, hk => by simp at hk
  | y :: xs, vs, h, k, x, hk => by
    simp only [VRels] at h
    obtain ⟨v, r, rfl, h1, h2⟩ := h
    cases k with
    | zero => simp only [List.getElem?_cons_zero, Option.some.injEq] at hk; exact ⟨v, rfl, hk ▸ h1⟩
    | succ k => simpa using VRels.get h2 (k := k) (by simpa using hk)
theorem VRels.append {ρ : Rho} {F : Fz} : ∀ {l m : List V} {vs ws : List Value}, VRels ρ F l vs → VRels ρ F m ws → VRels ρ F (l ++ m) (vs ++ ws)
  | [], m, vs, ws, h, g => by simp only [VRels] at h; subst h; exact g
  | y :: xs, m, vs, ws, h, g => by
    simp only [VRels] at h
    obtain ⟨v, r, rfl, h1, h2⟩ := h
    simp only [List.cons_append, VRels]
    exact ⟨v, _, rfl, h1, VRels.append h2 g⟩
theorem VRels.drop {ρ : Rho} {F : Fz} : ∀ (n : Nat) {l : List V} {vs : List Value}, VRels ρ F l vs → VRels ρ F (l.drop n) (vs.drop n)
  | 0, _, _, h => by simpa using h
  | n + 1, [], vs, h => by simp only [VRels] at h; subst h; simp [VRels]
  | n + 1, y :: xs, vs, h => by
    simp only [VRels] at h
    obtain ⟨v, r, rfl, h1, h2⟩ := h
    simpa using VRels.drop n h2
theorem VRels.take {ρ : Rho} {F : Fz} : ∀ (n : Nat) {l : List V} {vs : List Value}, VRels ρ F l vs → VRels ρ F (l.take n) (vs.take n)
  | 0, _, _, h => by simp [VRels]
  | n + 1, [], vs, h => by simp only [VRels] at h; subst h; simp [VRels]
  | n + 1, y :: xs, vs, h => by
    simp only [VRels] at h
    obtain ⟨v, r, rfl, h1, h2⟩ := h
    simp only [List.take_succ_cons, VRels]
    exact ⟨v, _, rfl, h1, VRels.take n h2⟩
theorem VRels.set {ρ : Rho} {F : Fz} : ∀ {l : List V} {vs : List Value}, VRels ρ F l vs → ∀ {k : Nat} {x : V} {v : Value}, VRel ρ F x v → VRels ρ F (l.set k x) (vs.set k v)
  | [], vs, h, k, x, v, hx => by simp only [VRels] at h; subst h; simp [VRels]
  | y :: xs, vs, h, k, x, v, hx => by
    simp only [VRels] at h
    obtain ⟨u, r, rfl, h1, h2⟩ := h
    cases k with
    | zero => simp only [List.set_cons_zero, VRels]; exact ⟨v, r, rfl, hx, h2⟩
    | succ k => simp only [List.set_cons_succ, VRels]; exact ⟨u, _, rfl, h1, VRels.set h2 hx⟩
mutual
/-- A value that names no own memory stands for what it does whatever lies where. -/
theorem VRel.closed {ρ ρ' : Rho} {F F' : Fz} (hF : FLe F F') : ∀ (x : V) (v : Value), x.closed = true → VRel ρ F x v → VRel ρ' F' x v
  | .u, _, _, _ => by simp only [VRel]
  | .b _, _, _, h => by simpa only [VRel] using h
  | .i _ _, _, _, h => by simpa only [VRel] using h
  | .s _, _, _, h => by simpa only [VRel] using h
  | .np, _, _, h => by simpa only [VRel] using h
  | .nil, _, _, h => by simpa only [VRel] using h
  | .p _ _, _, hc, _ => by simp [V.closed] at hc
  | .pr _ _ _, _, hc, _ => by simp [V.closed] at hc
  | .pe T x off, v, _, h => by
    simp only [VRel] at h ⊢
    obtain ⟨b, base, c, h1, h2, h3⟩ := h
    exact ⟨b, base, c, h1, hF _ _ h2, RRel.mono hF T x _ h3⟩
  | .sl _, _, hc, _ => by simp [V.closed] at hc
  | .ss _ _ _, _, hc, _ => by simp [V.closed] at hc
  | .sc _ _ _ _, _, hc, _ => by simp [V.closed] at hc
  | .ls T l full, v, _, h => by
    simp only [VRel] at h ⊢
    exact ⟨DRel.mono hF _ _ _ h.1, h.2⟩
  | .fn f x y, v, hc, h => by
    simp only [V.closed, Bool.and_eq_true] at hc
    simp only [VRel] at h ⊢
    obtain ⟨xs, ys, h1, h2, h3⟩ := h
    exact ⟨xs, ys, h1, VRels.closed hF x _ hc.1 h2, VRels.closed hF y _ hc.2 h3⟩
  | .agg l, v, hc, h => by
    simp only [V.closed] at hc
    simp only [VRel] at h ⊢
    obtain ⟨a, h1, h2⟩ := h
    exact ⟨a, h1, VRels.closed hF l _ hc h2⟩
  | .tup l, v, hc, h => by
    simp only [V.closed] at hc
    simp only [VRel] at h ⊢
    obtain ⟨a, h1, h2⟩ := h
    exact ⟨a, h1, VRels.closed hF l _ hc h2⟩
theorem VRels.closed {ρ ρ' : Rho} {F F' : Fz} (hF : FLe F F') : ∀ (l : List V) (vs : List Value), V.closeds l = true → VRels ρ F l vs → VRels ρ' F' l vs
  | [], _, _, h => by simpa only [VRels] using h
  | x :: xs, vs, hc, h => by
    simp only [V.closeds, Bool.and_eq_true] at hc
    simp only [VRels] at h ⊢
    obtain ⟨v, r, h1, h2, h3⟩ := h
    exact ⟨v, r, h1, VRel.closed hF x v hc.1 h2, VRels.closed hF xs r hc.2 h3⟩
end
end Go.Mini
end
section
set_option linter.unusedVariables false
set_option linter.unusedSimpArgs false
namespace Go.Mini
open Go.RowKit
mutual
/-- Names own blocks of Q alone. -/
def V.on (Q : Nat → Prop) : V → Prop
  | .p m _ | .pr m _ _ | .sl m | .ss m _ _ | .sc m _ _ _ => Q m
  | .fn _ x y => V.ons Q x ∧ V.ons Q y
  | .agg l | .tup l => V.ons Q l
  | _ => True
def V.ons (Q : Nat → Prop) : List V → Prop
  | [] => True
  | v :: vs => v.on Q ∧ V.ons Q vs
end
mutual
theorem V.on_of_under {n : Nat} : ∀ {v : V}, v.under n = true → v.on (· < n)
  | .u, _ | .b _, _ | .i _ _, _ | .s _, _ | .np, _ | .nil, _ | .pe _ _ _, _ | .ls _ _ _, _ => by simp only [V.on]
  | .p _ _, h | .pr _ _ _, h | .sl _, h | .ss _ _ _, h | .sc _ _ _ _, h => by
    simp only [V.under] at h; simp only [V.on]; simpa using h
  | .fn _ x y, h => by
    simp only [V.under, Bool.and_eq_true] at h
    simp only [V.on]; exact ⟨V.ons_of_unders h.1, V.ons_of_unders h.2⟩
  | .agg l, h => by simp only [V.under] at h; simp only [V.on]; exact V.ons_of_unders h
  | .tup l, h => by simp only [V.under] at h; simp only [V.on]; exact V.ons_of_unders h
theorem V.ons_of_unders {n : Nat} : ∀ {l : List V}, V.unders n l = true → V.ons (· < n) l
  | [], _ => by simp only [V.ons]
  | v :: vs, h => by
    simp only [V.unders, Bool.and_eq_true] at h
    simp only [V.ons]; exact ⟨V.on_of_under h.1, V.ons_of_unders h.2⟩
end
mutual
theorem V.on_of_closed {Q : Nat → Prop} : ∀ {v : V}, v.closed = true → v.on Q
  | .u, _ | .b _, _ | .i _ _, _ | .s _, _ | .np, _ | .nil, _ | .pe _ _ _, _ | .ls _ _ _, _ => by simp only [V.on]
  | .p _ _, h | .pr _ _ _, h | .sl _, h | .ss _ _ _, h | .sc _ _ _ _, h => by simp [V.closed] at h
  | .fn _ x y, h => by
    simp only [V.closed, Bool.and_eq_true] at h
    simp only [V.on]; exact ⟨V.ons_of_closeds h.1, V.ons_of_closeds h.2⟩
  | .agg l, h => by simp only [V.closed] at h; simp only [V.on]; exact V.ons_of_closeds h
  | .tup l, h => by simp only [V.closed] at h; simp only [V.on]; exact V.ons_of_closeds h
theorem V.ons_of_closeds {Q : Nat → Prop} : ∀ {l : List V}, V.closeds l = true → V.ons Q l
  | [], _ => by simp only [V.ons]
  | v :: vs, h => by
    simp only [V.closeds, Bool.and_eq_true] at h
    simp only [V.ons]; exact ⟨V.on_of_closed h.1, V.ons_of_closeds h.2⟩
end
mutual
theorem V.on_mono {Q Q' : Nat → Prop} (hQ : ∀ m, Q m → Q' m) : ∀ {v : V}, v.on Q → v.on Q'
  | .u, _ | .b _, _ | .i _ _, _ | .s _, _ | .np, _ | .nil, _ | .pe _ _ _, _ | .ls _ _ _, _ => by simp only [V.on]
  | .p _ _, h | .pr _ _ _, h | .sl _, h | .ss _ _ _, h | .sc _ _ _ _, h => by simp only [V.on] at h ⊢; exact hQ _ h
  | .fn _ x y, h => by simp only [V.on] at h ⊢; exact ⟨V.ons_mono hQ h.1, V.ons_mono hQ h.2⟩
  | .agg l, h => by simp only [V.on] at h ⊢; exact V.ons_mono hQ h
  | .tup l, h => by simp only [V.on] at h ⊢; exact V.ons_mono hQ h
theorem V.ons_mono {Q Q' : Nat → Prop} (hQ : ∀ m, Q m → Q' m) : ∀ {l : List V}, V.ons Q l → V.ons Q' l
  | [], _ => by simp only [V.ons]
  | v :: vs, h => by simp only [V.ons] at h ⊢; exact ⟨V.on_mono hQ h.1, V.ons_mono hQ h.2⟩
end
mutual
theorem V.on_all : ∀ (v : V), v.on (fun _ => True)
  | .u | .b _ | .i _ _ | .s _ | .np | .nil | .pe _ _ _ | .ls _ _ _ => by simp only [V.on]
  | .p _ _ | .pr _ _ _ | .sl _ | .ss _ _ _ | .sc _ _ _ _ => by simp only [V.on]
  | .fn _ x y => by simp only [V.on]; exact ⟨V.ons_all x, V.ons_all y⟩
  | .agg l => by simp only [V.on]; exact V.ons_all l
  | .tup l => by simp only [V.on]; exact V.ons_all l
theorem V.ons_all : ∀ (l : List V), V.ons (fun _ => True) l
  | [] => by simp only [V.ons]
  | v :: vs => by simp only [V.ons]; exact ⟨V.on_all v, V.ons_all vs⟩
end
theorem bif_u {c : Bool} {v : V} {Q : Nat → Prop} (h : c = false → v.on Q) : (bif c then V.u else v).on Q := by
  cases c
  · exact h rfl
  · simp only [cond_true, V.on]
mutual
theorem V.on_purge (k : Nat) : ∀ (v : V), (v.purge k).on (· ≠ k)
  | .u | .b _ | .i _ _ | .s _ | .np | .nil | .pe _ _ _ | .ls _ _ _ => by simp only [V.purge, V.on]
  | .p j _ | .pr j _ _ | .sl j | .ss j _ _ | .sc j _ _ _ => by
    simp only [V.purge]; refine bif_u fun h => ?_
    simp only [V.on]; intro e; subst e; simp at h
  | .fn _ x y => by simp only [V.purge, V.on]; exact ⟨V.ons_purge k x, V.ons_purge k y⟩
  | .agg l => by simp only [V.purge, V.on]; exact V.ons_purge k l
  | .tup l => by simp only [V.purge, V.on]; exact V.ons_purge k l
theorem V.ons_purge (k : Nat) : ∀ (l : List V), V.ons (· ≠ k) (V.purges k l)
  | [] => by simp only [V.purges, V.ons]
  | v :: vs => by simp only [V.purges, V.ons]; exact ⟨V.on_purge k v, V.ons_purge k vs⟩
end
theorem bif_rel {ρ F} {c : Bool} {v : V} {x : Value} (h : VRel ρ F v x) : VRel ρ F (bif c then V.u else v) x := by
  cases c
  · exact h
  · simp only [cond_true, VRel]
mutual
theorem VRel.purge {ρ F} (k : Nat) : ∀ {v : V} {x : Value}, VRel ρ F v x → VRel ρ F (v.purge k) x
  | .u, _, h | .b _, _, h | .i _ _, _, h | .s _, _, h | .np, _, h | .nil, _, h | .pe _ _ _, _, h | .ls _ _ _, _, h => by simp only [V.purge]; exact h
  | .p j _, _, h | .pr j _ _, _, h | .sl j, _, h | .ss j _ _, _, h | .sc j _ _ _, _, h => by simp only [V.purge]; exact bif_rel h
  | .fn f x y, v, h => by
    simp only [V.purge, VRel] at h ⊢
    obtain ⟨xs, ys, h1, h2, h3⟩ := h
    exact ⟨xs, ys, h1, VRels.purge k h2, VRels.purge k h3⟩
  | .agg l, v, h => by
    simp only [V.purge, VRel] at h ⊢
    obtain ⟨a, h1, h2⟩ := h
    exact ⟨a, h1, VRels.purge k h2⟩
  | .tup l, v, h => by
    simp only [V.purge, VRel] at h ⊢
    obtain ⟨a, h1, h2⟩ := h
    exact ⟨a, h1, VRels.purge k h2⟩
theorem VRels.purge {ρ F} (k : Nat) : ∀ {l : List V} {xs : List Value}, VRels ρ F l xs → VRels ρ F (V.purges k l) xs
  | [], _, h => by simp only [V.purges]; exact h
  | v :: vs, _, h => by
    simp only [V.purges, VRels] at h ⊢
    obtain ⟨x, r, h1, h2, h3⟩ := h
    exact ⟨x, r, h1, VRel.purge k h2, VRels.purge k h3⟩
end
mutual
theorem VRel.mono {ρ ρ' : Rho} {F F' : Fz} {Q : Nat → Prop} (hA : ∀ m L, ρ m = some L → Q m → ρ' m = some L) (hF : FLe F F') : ∀ {v : V} {x : Value}, v.on Q → VRel ρ F v x → VRel ρ' F' v x
  | .u, _, _, h | .b _, _, _, h | .i _ _, _, _, h | .s _, _, _, h | .np, _, _, h | .nil, _, _, h => by (simp only [VRel] at *; try exact h)
  | .p m off, v, hq, h => by
    simp only [V.on] at hq; simp only [VRel] at h ⊢
    obtain ⟨j, sz, n, w, h1, h2⟩ := h
    exact ⟨j, sz, n, w, hA _ _ h1 hq, h2⟩
  | .pr m row off, v, hq, h => by
    simp only [V.on] at hq; simp only [VRel] at h ⊢
    obtain ⟨j, sz, n, w, h1, h2⟩ := h
    exact ⟨j, sz, n, w, hA _ _ h1 hq, h2⟩
  | .pe T x off, v, _, h => by
    simp only [VRel] at h ⊢
    obtain ⟨b, base, c, h1, h2, h3⟩ := h
    exact ⟨b, base, c, h1, hF _ _ h2, RRel.mono hF T x _ h3⟩
  | .sl m, v, hq, h => by
    simp only [V.on] at hq; simp only [VRel] at h ⊢
    rcases h with ⟨h1, h2⟩ | ⟨j, sz, n, w, cap, h1, h2⟩
    · exact .inl ⟨hA _ _ h1 hq, h2⟩
    · exact .inr ⟨j, sz, n, w, cap, hA _ _ h1 hq, h2⟩
  | .ss m o k, v, hq, h => by
    simp only [V.on] at hq; simp only [VRel] at h ⊢
    rcases h with h1 | ⟨j, sz, n, w, cap, h1, h2⟩
    · exact .inl h1
    · exact .inr ⟨j, sz, n, w, cap, hA _ _ h1 hq, h2⟩
  | .sc m o k w', v, hq, h => by
    simp only [V.on] at hq; simp only [VRel] at h ⊢
    rcases h with h1 | ⟨j, sz, n, w, cap, h1, h2⟩
    · exact .inl h1
    · exact .inr ⟨j, sz, n, w, cap, hA _ _ h1 hq, h2⟩
  | .ls T l full, v, _, h => by
    simp only [VRel] at h ⊢
    exact ⟨DRel.mono hF _ _ _ h.1, h.2⟩
  | .fn f x y, v, hq, h => by
    simp only [V.on] at hq; simp only [VRel] at h ⊢
    obtain ⟨xs, ys, h1, h2, h3⟩ := h
    exact ⟨xs, ys, h1, VRels.mono hA hF hq.1 h2, VRels.mono hA hF hq.2 h3⟩
  | .agg l, v, hq, h => by
    simp only [V.on] at hq; simp only [VRel] at h ⊢
    obtain ⟨a, h1, h2⟩ := h
    exact ⟨a, h1, VRels.mono hA hF hq h2⟩
  | .tup l, v, hq, h => by
    simp only [V.on] at hq; simp only [VRel] at h ⊢
    obtain ⟨a, h1, h2⟩ := h
    exact ⟨a, h1, VRels.mono hA hF hq h2⟩
theorem VRels.mono {ρ ρ' : Rho} {F F' : Fz} {Q : Nat → Prop} (hA : ∀ m L, ρ m = some L → Q m → ρ' m = some L) (hF : FLe F F') : ∀ {l : List V} {xs : List Value}, V.ons Q l → VRels ρ F l xs → VRels ρ' F' l xs
  | [], _, _, h => by simpa only [VRels] using h
  | v :: vs, _, hq, h => by
    simp only [V.ons] at hq; simp only [VRels] at h ⊢
    obtain ⟨x, r, h1, h2, h3⟩ := h
    exact ⟨x, r, h1, VRel.mono hA hF hq.1 h2, VRels.mono hA hF hq.2 h3⟩
end
/-! Heaps as_ lists. -/
theorem hlen_eq (H : Heap) : hlen H = H.length := by induction H with | nil => rfl | cons x r ih => simp [hlen, ih]
theorem hget_eq : ∀ (H : Heap) (m : Nat), hget H m = H[m]?
  | [], _ => by simp [hget]
  | _ :: _, 0 => by simp [hget]
  | _ :: r, m + 1 => by simp [hget, hget_eq r m]
theorem hset_eq : ∀ (H : Heap) (m : Nat) (b : Blk), hset H m b = H.set m b
  | [], _, _ => by simp [hset]
  | _ :: _, 0, _ => by simp [hset]
  | _ :: r, m + 1, b => by simp [hset, hset_eq r m b]
theorem hget_hset (H : Heap) (m k : Nat) (b : Blk) : hget (hset H m b) k = if m = k then (if m < hlen H then some b else none) else hget H k := by
  rw [hget_eq, hset_eq, hget_eq, hlen_eq, List.getElem?_set]
theorem hlen_hset (H : Heap) (m : Nat) (b : Blk) : hlen (hset H m b) = hlen H := by rw [hset_eq, hlen_eq, hlen_eq, List.length_set]
theorem hget_append (H : Heap) (b : Blk) (k : Nat) : hget (H ++ [b]) k = if k = hlen H then some b else hget H k := by
  rw [hget_eq, hget_eq, hlen_eq, List.getElem?_append]
  by_cases h : k < H.length
  · rw [if_pos h, if_neg (by omega)]
  · rw [if_neg h]
    by_cases h2 : k = H.length
    · subst h2; simp
    · rw [if_neg h2, List.getElem?_eq_none (by simp; omega), List.getElem?_eq_none (by omega)]
theorem hget_lt {H : Heap} {m : Nat} {b : Blk} (h : hget H m = some b) : m < hlen H := by
  rw [hget_eq] at h; rw [hlen_eq]; exact (List.getElem?_eq_some_iff.1 h).1
theorem hlen_append (H : Heap) (b : Blk) : hlen (H ++ [b]) = hlen H + 1 := by rw [hlen_eq, hlen_eq, List.length_append]; rfl
end Go.Mini
end
section
set_option linter.unusedVariables false
set_option linter.unusedSimpArgs false
namespace Go.Mini
open Go.RowKit
def Blk.own : Blk → Bool
  | .c _ _ => true
  | .r _ _ _ z => !z
  | .dead => false
def BRel (ρ : Rho) (F : Fz) (W : World) (m : Nat) : Blk → Prop
  | .c e cs => ∃ j n w c, ρ m = some (.lies j cs.length n w) ∧ W.heap[j]? = some (.cells c e (0, 0)) ∧ F j = none ∧ VRels ρ F cs c.toList
  | .r e T l false => 0 < T.length ∧ ((l = [] ∧ ρ m = some .no) ∨ ∃ j c, ρ m = some (.lies j c.size l.length T.length) ∧ W.heap[j]? = some (.cells c e (0, 0)) ∧ F j = none ∧ l.length * T.length ≤ c.size ∧ RowsRel F T l c 0)
  | .r _ T l true => 0 < T.length ∧ ((l = [] ∧ ρ m = some .no) ∨ ∃ j c, ρ m = some (.lies j c.size l.length T.length) ∧ F j = some c ∧ l.length * T.length ≤ c.size ∧ RowsRel F T l c 0)
  | .dead => ρ m = none
structure Rel (ρ : Rho) (F : Fz) (H : Heap) (W : World) : Prop where
  blk : ∀ m b, hget H m = some b → BRel ρ F W m b
  dom : ∀ m L, ρ m = some L → m < hlen H
  inj : ∀ m m' b b' j s n w s' n' w', hget H m = some b → b.own = true → hget H m' = some b' → b'.own = true → ρ m = some (.lies j s n w) → ρ m' = some (.lies j s' n' w') → m = m'
  fz : ∀ j c, F j = some c → ∃ e fr, W.heap[j]? = some (.cells c e fr)
def Own (ρ : Rho) (H : Heap) (j : Nat) : Prop := ∃ m b s n w, hget H m = some b ∧ b.own = true ∧ ρ m = some (.lies j s n w)
/-- From one state to a later one; 'ap': own rows that may lie elsewhere now. -/
structure Grew (ρ : Rho) (F : Fz) (H : Heap) (W : World) (ρ' : Rho) (F' : Fz) (H' : Heap) (W' : World) (ap : List Nat) : Prop where
  agree : ∀ m L, ρ m = some L → m ∉ ap → ρ' m = some L
  len : hlen H ≤ hlen H'
  fle : FLe F F'
  fnew : ∀ j, F j = none → F' j ≠ none → Own ρ H j ∨ W.heap.size ≤ j
  frame : ∀ j, j < W.heap.size → ¬ Own ρ H j → W'.heap[j]? = W.heap[j]?
  own : ∀ j, Own ρ' H' j → Own ρ H j ∨ W.heap.size ≤ j
  size : W.heap.size ≤ W'.heap.size
  os : W'.os = W.os
  tape : W'.tape = W.tape
  output : W'.output = W.output
theorem Grew.refl (ρ F H W) (ap) : Grew ρ F H W ρ F H W ap := ⟨fun _ _ h _ => h, Nat.le_refl _, FLe.refl _, fun _ h h' => absurd h h', fun _ _ _ => rfl, fun _ h => .inl h, Nat.le_refl _, rfl, rfl, rfl⟩
theorem Grew.trans {ρ F H W ρ1 F1 H1 W1 ρ2 F2 H2 W2} {ap ap1 ap2 : List Nat} (a : Grew ρ F H W ρ1 F1 H1 W1 ap1) (b : Grew ρ1 F1 H1 W1 ρ2 F2 H2 W2 ap2) (h1 : ∀ m ∈ ap1, m < hlen H → m ∈ ap) (h2 : ∀ m ∈ ap2, m < hlen H → m ∈ ap) (hd : ∀ m L, ρ m = some L → m < hlen H) : Grew ρ F H W ρ2 F2 H2 W2 ap where
  agree m L h hm := b.agree m L (a.agree m L h (fun e => hm (h1 m e (hd m L h)))) (fun e => hm (h2 m e (hd m L h)))
  len := Nat.le_trans a.len b.len
  fle := a.fle.trans b.fle
  fnew j h h' := by
    by_cases hj : F1 j = none
    · rcases b.fnew j hj h' with g | g
      · exact a.own j g
      · exact .inr (Nat.le_trans a.size g)
    · exact a.fnew j h hj
  frame j hj hn := by
    rw [b.frame j (Nat.lt_of_lt_of_le hj a.size) (fun g => (a.own j g).elim hn (fun g => by omega)), a.frame j hj hn]
  own j h := by
    rcases b.own j h with g | g
    · exact a.own j g
    · exact .inr (Nat.le_trans a.size g)
  size := Nat.le_trans a.size b.size
  os := b.os.trans a.os
  tape := b.tape.trans a.tape
  output := b.output.trans a.output
/-- What a block stands for, where nothing of it has moved. -/
theorem BRel.mono {ρ ρ' : Rho} {F F' : Fz} {W W' : World} {m : Nat} {b : Blk} (h : BRel ρ F W m b) (hb : b ≠ .dead) (hA : ∀ k L, ρ k = some L → ρ' k = some L) (hF : FLe F F')
    (hf : ∀ j, b.own = true → (∃ s n w, ρ m = some (.lies j s n w)) → F j = none → F' j = none) (hw : ∀ j, b.own = true → (∃ s n w, ρ m = some (.lies j s n w)) → W'.heap[j]? = W.heap[j]?) : BRel ρ' F' W' m b := by
  cases b with
  | c te cs =>
    obtain ⟨j, n, w, c, h1, h2, h3, h4⟩ := h
    exact ⟨j, n, w, c, hA _ _ h1, (hw j rfl ⟨_, _, _, h1⟩).trans h2, hf j rfl ⟨_, _, _, h1⟩ h3, VRels.mono (Q := fun _ => True) (fun k L hk _ => hA k L hk) hF (V.ons_all _) h4⟩
  | r te T l z =>
    cases z with
    | false =>
      refine ⟨h.1, h.2.imp (fun g => ⟨g.1, hA _ _ g.2⟩) ?_⟩
      rintro ⟨j, c, h1, h2, h3, h4, h5⟩
      exact ⟨j, c, hA _ _ h1, (hw j rfl ⟨_, _, _, h1⟩).trans h2, hf j rfl ⟨_, _, _, h1⟩ h3, h4, h5.mono hF⟩
    | true =>
      refine ⟨h.1, h.2.imp (fun g => ⟨g.1, hA _ _ g.2⟩) ?_⟩
      rintro ⟨j, c, h1, h2, h3, h4⟩
      exact ⟨j, c, hA _ _ h1, hF _ _ h2, h3, h4.mono hF⟩
  | dead => exact absurd rfl hb
theorem Rel.lt {ρ F H W} (h : Rel ρ F H W) {j : Nat} (ho : Own ρ H j) : j < W.heap.size := by
  obtain ⟨m, b, s, n, w, h1, h2, h3⟩ := ho
  have hb := h.blk m b h1
  have key : ∃ x, W.heap[j]? = some x := by
    cases b with
    | c te cs =>
      obtain ⟨j', n', w', c, g1, g2, _⟩ := hb
      rw [h3] at g1; cases g1; exact ⟨_, g2⟩
    | r te T l z =>
      cases z with
      | false =>
        rcases hb.2 with ⟨_, g⟩ | ⟨j', c, g1, g2, _⟩
        · rw [h3] at g; cases g
        · rw [h3] at g1; cases g1; exact ⟨_, g2⟩
      | true => cases h2
    | dead => cases h2
  obtain ⟨x, hx⟩ := key
  exact (Array.getElem?_eq_some_iff.1 hx).1
theorem Rel.flt {ρ F H W} (h : Rel ρ F H W) {j : Nat} {c} (hj : F j = some c) : j < W.heap.size := by
  obtain ⟨e, fr, hx⟩ := h.fz j c hj
  exact (Array.getElem?_eq_some_iff.1 hx).1
theorem Rel.ownF {ρ F H W} (h : Rel ρ F H W) {j : Nat} (ho : Own ρ H j) : F j = none := by
  obtain ⟨m, b, s, n, w, h1, h2, h3⟩ := ho
  have hb := h.blk m b h1
  cases b with
  | c te cs =>
    obtain ⟨j', n', w', c, g1, g2, g3, _⟩ := hb
    rw [h3] at g1; cases g1; exact g3
  | r te T l z =>
    cases z with
    | false =>
      rcases hb.2 with ⟨_, g⟩ | ⟨j', c, g1, g2, g3, _⟩
      · rw [h3] at g; cases g
      · rw [h3] at g1; cases g1; exact g3
    | true => cases h2
  | dead => cases h2
/-- A call or an operation elsewhere: what is ours stays. -/
theorem Rel.keep {ρ F H W F' W'} (h : Rel ρ F H W) (hF : FLe F F') (hn : ∀ j, F j = none → F' j ≠ none → W.heap.size ≤ j) (hf : ∀ j c, F' j = some c → ∃ e fr, W'.heap[j]? = some (.cells c e fr)) (hw : ∀ j, j < W.heap.size → W'.heap[j]? = W.heap[j]?) : Rel ρ F' H W' where
  blk m b hb := by
    by_cases hd : b = .dead
    · subst hd; exact h.blk m _ hb
    · refine (h.blk m b hb).mono hd (fun _ _ h => h) hF (fun j ho ⟨s, n, w, hr⟩ hj => ?_) (fun j ho ⟨s, n, w, hr⟩ => hw j (h.lt ⟨m, b, s, n, w, hb, ho, hr⟩))
      by_cases hx : F' j = none
      · exact hx
      · have := hn j hj hx
        have := h.lt ⟨m, b, s, n, w, hb, ho, hr⟩
        omega
  dom := h.dom
  inj := h.inj
  fz := hf

theorem Rel.same {ρ F H W W'} (h : Rel ρ F H W) (e : W'.heap = W.heap) : Rel ρ F H W' := h.keep (FLe.refl _) (fun _ a b => absurd a b) (fun j c hj => by rw [e]; exact h.fz j c hj) (fun _ _ => by rw [e])
theorem Grew.same {ρ F H W ρ' F' H' W' W'' ap} (h : Grew ρ F H W ρ' F' H' W' ap) (e : W''.heap = W'.heap) (e1 : W''.os = W'.os) (e2 : W''.tape = W'.tape) (e3 : W''.output = W'.output) : Grew ρ F H W ρ' F' H' W'' ap :=
  ⟨h.agree, h.len, h.fle, h.fnew, fun j a b => by rw [e]; exact h.frame j a b, h.own, by rw [e]; exact h.size, e1.trans h.os, e2.trans h.tape, e3.trans h.output⟩
def upd (ρ : Rho) (m : Nat) (L : Loc) : Rho := fun k => if k = m then some L else ρ k
theorem upd_self (ρ : Rho) (m : Nat) (L : Loc) : upd ρ m L m = some L := by simp [upd]
theorem upd_ne (ρ : Rho) {m k : Nat} (L : Loc) (h : k ≠ m) : upd ρ m L k = ρ k := by simp [upd, h]
def Free (H : Heap) (slot : Nat) : Prop := slot = hlen H ∨ hget H slot = some .dead
theorem Free.none {ρ F H W slot} (h : Rel ρ F H W) (hs : Free H slot) : ρ slot = none := by
  rcases hs with rfl | hs
  · cases hr : ρ (hlen H) with
    | none => rfl
    | some L => have := h.dom _ L hr; omega
  · exact h.blk _ _ hs
theorem hget_putAt {H : Heap} {slot : Nat} (b : Blk) (hs : Free H slot) (k : Nat) : hget (putAt H slot b) k = if k = slot then some b else hget H k := by
  unfold putAt
  by_cases hlt : slot < hlen H
  · have : Nat.blt slot (hlen H) = true := by simpa using hlt
    rw [this, cond_true, hget_hset, if_pos hlt]
    by_cases h : slot = k
    · subst h; simp
    · rw [if_neg h, if_neg (fun e => h e.symm)]
  · have hb : Nat.blt slot (hlen H) = false := by
      cases hx : Nat.blt slot (hlen H) with
      | false => rfl
      | true => exact absurd (by simpa using hx) hlt
    have : slot = hlen H := by
      rcases hs with h | h
      · exact h
      · exact absurd (hget_lt h) hlt
    rw [hb, cond_false, hget_append, this]
theorem hlen_putAt {H : Heap} {slot : Nat} (b : Blk) (hs : Free H slot) : hlen H ≤ hlen (putAt H slot b) ∧ slot < hlen (putAt H slot b) := by
  unfold putAt
  cases hx : Nat.blt slot (hlen H) with
  | true => have : slot < hlen H := by simpa using hx
            rw [cond_true, hlen_hset]; exact ⟨Nat.le_refl _, this⟩
  | false =>
    have hn : ¬ slot < hlen H := fun h => by
      have h2 : Nat.blt slot (hlen H) = true := by simpa using h
      rw [hx] at h2; cases h2
    have : slot = hlen H := by
      rcases hs with h | h
      · exact h
      · exact absurd (hget_lt h) hn
    rw [cond_false, hlen_append]; omega
theorem heap_alloc_lt (W : World) (o : Obj) {j : Nat} (h : j < W.heap.size) : (W.alloc o).heap[j]? = W.heap[j]? := Below.heap_alloc W o j h
theorem heap_alloc_at (W : World) (o : Obj) : (W.alloc o).heap[W.heap.size]? = some o := by
  show (W.heap.push o)[W.heap.size]? = some o
  simp
theorem Own.of_agree {ρ ρ' H j} (hA : ∀ m L, ρ m = some L → ρ' m = some L) (ho : Own ρ H j) : Own ρ' H j := by
  obtain ⟨m, b, s, n, w, h1, h2, h3⟩ := ho
  exact ⟨m, b, s, n, w, h1, h2, hA _ _ h3⟩
/-- A new block of the call's own. -/
theorem Rel.new {ρ F H W} (h : Rel ρ F H W) {slot : Nat} (hs : Free H slot) (c : Array Value) (e : TypeId) (b : Blk) (n w : Nat) (ho : b.own = true)
    (hb : BRel (upd ρ slot (.lies W.heap.size c.size n w)) F (W.alloc (.cells c e (0, 0))) slot b) :
    Rel (upd ρ slot (.lies W.heap.size c.size n w)) F (putAt H slot b) (W.alloc (.cells c e (0, 0))) ∧
      Grew ρ F H W (upd ρ slot (.lies W.heap.size c.size n w)) F (putAt H slot b) (W.alloc (.cells c e (0, 0))) [] := by
  have hn := Free.none h hs
  have hA : ∀ m L, ρ m = some L → upd ρ slot (.lies W.heap.size c.size n w) m = some L := fun m L hm => by
    rw [upd_ne]; exact hm
    intro e'; subst e'; rw [hn] at hm; cases hm
  have hown : ∀ j, Own (upd ρ slot (.lies W.heap.size c.size n w)) (putAt H slot b) j → Own ρ H j ∨ W.heap.size ≤ j := by
    rintro j ⟨m, x, s, n', w', h1, h2, h3⟩
    rw [hget_putAt _ hs] at h1
    by_cases hm : m = slot
    · subst hm; rw [upd_self] at h3; cases h3; exact .inr (Nat.le_refl _)
    · rw [if_neg hm] at h1; rw [upd_ne _ _ hm] at h3; exact .inl ⟨m, x, s, n', w', h1, h2, h3⟩
  refine ⟨⟨fun m x hx => ?_, fun m L hm => ?_, ?_, fun j c' hj => ?_⟩, ⟨fun m L hm _ => hA m L hm, (hlen_putAt b hs).1, FLe.refl _, fun _ a a' => absurd a a', fun j hj _ => heap_alloc_lt W _ hj, hown, (by show W.heap.size ≤ (W.heap.push _).size; simp), rfl, rfl, rfl⟩⟩
  · rw [hget_putAt _ hs] at hx
    by_cases hm : m = slot
    · subst hm; rw [if_pos rfl] at hx; cases hx; exact hb
    · rw [if_neg hm] at hx
      by_cases hd : x = .dead
      · subst hd
        have := h.blk m _ hx
        simp only [BRel] at this ⊢
        rw [upd_ne _ _ hm]; exact this
      · exact (h.blk m x hx).mono hd hA (FLe.refl _) (fun _ _ _ hf => hf) (fun j ho' ⟨s, n', w', hr⟩ => heap_alloc_lt W _ (h.lt ⟨m, x, s, n', w', hx, ho', hr⟩))
  · by_cases hm' : m = slot
    · subst hm'; exact (hlen_putAt b hs).2
    · rw [upd_ne _ _ hm'] at hm; exact Nat.lt_of_lt_of_le (h.dom m L hm) (hlen_putAt b hs).1
  · intro m m' x x' j s n1 w1 s' n' w' h1 o1 h2 o2 r1 r2
    rw [hget_putAt _ hs] at h1 h2
    by_cases hm : m = slot
    · subst hm
      by_cases hm' : m' = m
      · exact hm'.symm
      · rw [upd_self] at r1; rw [upd_ne _ _ hm'] at r2; rw [if_neg hm'] at h2
        have := h.lt ⟨m', x', _, _, _, h2, o2, r2⟩
        cases r1; omega
    · rw [if_neg hm] at h1; rw [upd_ne _ _ hm] at r1
      by_cases hm' : m' = slot
      · subst hm'
        rw [upd_self] at r2
        have := h.lt ⟨m, x, _, _, _, h1, o1, r1⟩
        cases r2; omega
      · rw [if_neg hm'] at h2; rw [upd_ne _ _ hm'] at r2
        exact h.inj m m' x x' j _ _ _ _ _ _ h1 o1 h2 o2 r1 r2
  · obtain ⟨e', fr, hx⟩ := h.fz j c' hj
    exact ⟨e', fr, by rw [heap_alloc_lt W _ (Array.getElem?_eq_some_iff.1 hx).1]; exact hx⟩
/-- Cells of an own block are written. -/
theorem Rel.write {ρ F H W} (h : Rel ρ F H W) {m j s n w : Nat} {b b' : Blk} (hg : hget H m = some b) (ho : b.own = true) (ho' : b'.own = true) (hr : ρ m = some (.lies j s n w)) (e : TypeId) (c' : Array Value)
    (W' : World) (hw : W'.heap = W.heap.setIfInBounds j (.cells c' e (0, 0))) (e1 : W'.os = W.os) (e2 : W'.tape = W.tape) (e3 : W'.output = W.output)
    (hb : W'.heap[j]? = some (.cells c' e (0, 0)) → F j = none → BRel ρ F W' m b') :
    Rel ρ F (hset H m b') W' ∧ Grew ρ F H W ρ F (hset H m b') W' [] := by
  have hown : Own ρ H j := ⟨m, b, s, n, w, hg, ho, hr⟩
  have hlt := h.lt hown
  have hF := h.ownF hown
  have hne : ∀ k, k ≠ j → W'.heap[k]? = W.heap[k]? := fun k hk => by rw [hw, Array.getElem?_setIfInBounds_ne (fun e => hk e.symm)]
  have hat : W'.heap[j]? = some (.cells c' e (0, 0)) := by rw [hw, Array.getElem?_setIfInBounds_self_of_lt hlt]
  have hml := hget_lt hg
  have hget' : ∀ k, hget (hset H m b') k = if k = m then some b' else hget H k := fun k => by
    rw [hget_hset, if_pos hml]
    by_cases hk : m = k
    · subst hk; simp
    · rw [if_neg hk, if_neg (fun e => hk e.symm)]
  have hown' : ∀ j', Own ρ (hset H m b') j' → Own ρ H j' := by
    rintro j' ⟨k, x, s', n', w', h1, h2, h3⟩
    rw [hget'] at h1
    by_cases hk : k = m
    · subst hk; exact ⟨k, b, s', n', w', hg, ho, h3⟩
    · rw [if_neg hk] at h1; exact ⟨k, x, s', n', w', h1, h2, h3⟩
  refine ⟨⟨fun k x hx => ?_, fun k L hk => by rw [hlen_hset]; exact h.dom k L hk, ?_, fun k c hk => ?_⟩, ⟨fun _ _ hk _ => hk, by rw [hlen_hset]; exact Nat.le_refl _, FLe.refl _, fun _ a a' => absurd a a', fun k _ hk => hne k (fun e => hk (e ▸ hown)), fun k hk => .inl (hown' k hk), by rw [hw, Array.size_setIfInBounds]; exact Nat.le_refl _, e1, e2, e3⟩⟩
  · rw [hget'] at hx
    by_cases hk : k = m
    · subst hk; rw [if_pos rfl] at hx; cases hx; exact hb hat hF
    · rw [if_neg hk] at hx
      by_cases hd : x = .dead
      · subst hd; exact h.blk k _ hx
      · refine (h.blk k x hx).mono hd (fun _ _ a => a) (FLe.refl _) (fun _ _ _ a => a) (fun j' ho2 ⟨s', n', w', hr2⟩ => hne j' (fun ej => ?_))
        subst ej
        exact hk (h.inj k m x b j' _ _ _ _ _ _ hx ho2 hg ho hr2 hr)
  · intro k k' x x' j' s1 n1 w1 s' n' w' h1 o1 h2 o2 r1 r2
    rw [hget'] at h1 h2
    have g1 : ∃ y, hget H k = some y ∧ y.own = true := by
      by_cases hk : k = m
      · subst hk; exact ⟨b, hg, ho⟩
      · rw [if_neg hk] at h1; exact ⟨x, h1, o1⟩
    have g2 : ∃ y, hget H k' = some y ∧ y.own = true := by
      by_cases hk : k' = m
      · subst hk; exact ⟨b, hg, ho⟩
      · rw [if_neg hk] at h2; exact ⟨x', h2, o2⟩
    obtain ⟨y, a1, a2⟩ := g1
    obtain ⟨y', a3, a4⟩ := g2
    exact h.inj k k' y y' j' _ _ _ _ _ _ a1 a2 a3 a4 r1 r2
  · obtain ⟨e', fr, hx⟩ := h.fz k c hk
    have : k ≠ j := fun ej => by subst ej; rw [hF] at hk; cases hk
    exact ⟨e', fr, by rw [hne k this]; exact hx⟩
end Go.Mini
end
section
set_option linter.unusedVariables false
set_option linter.unusedSimpArgs false
namespace Go.Mini
open Go.RowKit
def EnvRel (ρ : Rho) (F : Fz) (env : List (Nat × V)) (a : Act) : Prop := ∀ k v, eget env k = some v → VRel ρ F v (a.tmps.getD k undef)
theorem eget_eput (env : List (Nat × V)) (d : Nat) (v : V) (k : Nat) : eget (eput env d v) k = if k = d then some v else eget env k := by
  induction env with
  | nil =>
    simp only [eput, eget]
    by_cases h : k = d
    · subst h; simp
    · have : Nat.beq d k = false := by
        cases hb : Nat.beq d k with
        | false => rfl
        | true => exact absurd (Nat.eq_of_beq_eq_true hb).symm h
      rw [this, if_neg h]; rfl
  | cons e r ih =>
    simp only [eput]
    cases h1 : Nat.blt d e.1 with
    | true =>
      simp only [cond_true, eget]
      by_cases h : k = d
      · subst h; simp
      · have : Nat.beq d k = false := by
          cases hb : Nat.beq d k with
          | false => rfl
          | true => exact absurd (Nat.eq_of_beq_eq_true hb).symm h
        rw [this, if_neg h]; rfl
    | false =>
      simp only [cond_false]
      cases h2 : Nat.beq e.1 d with
      | true =>
        have he := Nat.eq_of_beq_eq_true h2
        simp only [cond_true, eget]
        by_cases h : k = d
        · subst h; simp
        · have hx : Nat.beq d k = false := by
            cases hb : Nat.beq d k with
            | false => rfl
            | true => exact absurd (Nat.eq_of_beq_eq_true hb).symm h
          rw [hx, if_neg h, he, hx]; rfl
      | false =>
        simp only [cond_false, eget]
        cases h3 : Nat.beq e.1 k with
        | true =>
          have he := Nat.eq_of_beq_eq_true h3
          simp only [cond_true]
          rw [if_neg]
          intro hk; subst hk
          rw [h3] at h2; cases h2
        | false => simp only [cond_false]; exact ih
theorem put_get (a : Act) {d : Nat} (hd : d < a.tmps.size) (x : Value) (k : Nat) : (a.put (some d) x).tmps.getD k undef = if k = d then x else a.tmps.getD k undef := by
  simp only [Act.put, Array.getD_eq_getD_getElem?]
  by_cases h : k = d
  · subst h; simp [hd]
  · rw [if_neg h, Array.getElem?_setIfInBounds_ne (fun e => h e.symm)]
theorem put_size (a : Act) (d : Option Nat) (x : Value) : (a.put d x).tmps.size = a.tmps.size := by cases d <;> simp [Act.put]
theorem put_defers (a : Act) (d : Option Nat) (x : Value) : (a.put d x).defers = a.defers := by cases d <;> simp [Act.put]
theorem EnvRel.put {ρ F env a} (h : EnvRel ρ F env a) {d : Option Nat} (hd : ∀ k, d = some k → k < a.tmps.size) {v : V} {x : Value} (hv : VRel ρ F v x) : EnvRel ρ F (eputO env d v) (a.put d x) := by
  cases d with
  | none => exact h
  | some d =>
    intro k w hk
    simp only [eputO, eget_eput] at hk
    rw [put_get a (hd d rfl)]
    by_cases hkd : k = d
    · rw [if_pos hkd] at hk ⊢; cases hk; exact hv
    · rw [if_neg hkd] at hk ⊢; exact h k w hk
theorem EnvRel.mono {ρ ρ' F F' env a} (h : EnvRel ρ F env a) (hA : ∀ m L, ρ m = some L → ρ' m = some L) (hF : FLe F F') : EnvRel ρ' F' env a :=
  fun k v hk => VRel.mono (Q := fun _ => True) (fun m L hm _ => hA m L hm) hF (V.on_all _) (h k v hk)
theorem ofCell_rel {ρ F} {v : Value} {w : V} (h : ofCell v = some w) : VRel ρ F w v := by
  unfold ofCell at h
  split at h <;> first | (cases h; done) | skip
  all_goals cases h
  all_goals simp only [VRel]
theorem ofCells_rel {ρ F} : ∀ {vs : List Value} {ws : List V}, ofCells vs = some ws → VRels ρ F ws vs
  | [], ws, h => by simp only [ofCells, Option.some.injEq] at h; subst h; simp only [VRels]
  | v :: vs, ws, h => by
    simp only [ofCells] at h
    split at h
    · rename_i a b ha hb
      cases h
      simp only [VRels]
      exact ⟨v, vs, rfl, ofCell_rel ha, ofCells_rel hb⟩
    · cases h
theorem ofVal_rel {ρ F} {v : Value} {w : V} (h : ofVal v = some w) : VRel ρ F w v := by
  unfold ofVal at h
  split at h
  · rename_i cs
    split at h
    · rename_i l hl
      cases h
      simp only [VRel]
      exact ⟨cs, rfl, ofCells_rel hl⟩
    · cases h
  · exact ofCell_rel h
theorem constV_rel {ρ F} {v : Value} {w : V} (h : constV v = some w) : VRel ρ F w v := by
  unfold constV at h
  split at h
  · cases h; simp only [VRel]
  · exact ofVal_rel h
theorem opd_rel {ρ F env a} (h : EnvRel ρ F env a) {x : Operand} {v : V} (hx : opd env x = some v) : VRel ρ F v (a.eval x) := by
  cases x with
  | tmp t => exact h t v hx
  | const w => exact constV_rel hx
  | func f =>
    simp only [opd, Option.some.injEq] at hx
    subst hx
    simp only [VRel, Act.eval]
    exact ⟨#[], #[], rfl, by simp only [VRels], by simp only [VRels]⟩
  | global g => cases hx
theorem coT_rel {ρ F} {T : Ty} {v : V} {x : Value} (h : VRel ρ F v x) : VRel ρ F (coT T v) x := by
  unfold coT
  split
  · simp only [VRel] at h ⊢
    subst h
    exact ⟨by simp only [DRel]; exact ⟨none, 0, rfl, Nat.le_refl _, Or.inl trivial⟩, fun _ => ⟨none, 0, rfl⟩⟩
  · exact h
theorem coTs_rel {ρ F} : ∀ {T : List Ty} {l : List V} {xs : List Value}, VRels ρ F l xs → VRels ρ F (coTs T l) xs
  | [], l, xs, h => by cases l <;> simpa only [coTs] using h
  | t :: T, [], xs, h => by simpa only [coTs] using h
  | t :: T, v :: l, xs, h => by
    simp only [coTs, VRels] at h ⊢
    obtain ⟨x, r, h1, h2, h3⟩ := h
    exact ⟨x, r, h1, coT_rel h2, coTs_rel h3⟩
theorem asT_rel {P : Program} {ρ F} {t : TypeId} {v : V} {x : Value} (h : VRel ρ F v x) : VRel ρ F (asT P t v) x := by
  unfold asT
  split
  · split
    · exact coT_rel h
    · exact h
  · split
    · simp only [VRel] at h ⊢
      obtain ⟨a, h1, h2⟩ := h
      exact ⟨a, h1, coTs_rel h2⟩
    · exact h
  · exact h
def GetRel (ρ : Rho) (F : Fz) (get : Operand → Option V) (a : Act) : Prop := ∀ x v, get x = some v → VRel ρ F v (a.eval x)
theorem EnvRel.get {ρ F env a} (h : EnvRel ρ F env a) : GetRel ρ F (opd env) a := fun _ _ hx => opd_rel h hx
theorem opds_rel {P : Program} {ρ F get a} (h : GetRel ρ F get a) : ∀ {xs : List Operand} {ts : List TypeId} {vs : List V}, opds P get xs ts = some vs → VRels ρ F vs (xs.map a.eval)
  | [], _, vs, hx => by simp only [opds, Option.some.injEq] at hx; subst hx; simp [VRels]
  | x :: xs, ts, vs, hx => by
    simp only [opds] at hx
    split at hx
    · rename_i v ws hv hws
      cases hx
      simp only [List.map_cons, VRels]
      refine ⟨_, _, rfl, ?_, opds_rel h hws⟩
      split
      · exact asT_rel (h _ _ hv)
      · exact h _ _ hv
    · cases hx
/-- The cells of a value. -/
theorem VRel.cells {ρ F} {v : V} {x : Value} (hb : v.boxable = true) (h : VRel ρ F v x) : VRels ρ F v.cells x.cells.toList := by
  cases v <;> simp only [V.boxable, V.one, Bool.false_eq_true] at hb
  case agg l =>
    simp only [VRel] at h
    obtain ⟨a, rfl, h2⟩ := h
    exact h2
  all_goals
    have hx : x.cells = #[x] := by
      simp only [VRel] at h
      first
        | (subst h; rfl; done)
        | (obtain ⟨_, _, _, _, _, rfl⟩ := h; rfl; done)
        | (obtain ⟨_, _, _, rfl, _⟩ := h; rfl; done)
        | (obtain ⟨⟨_, _, rfl, _⟩, _⟩ := h; rfl; done)
        | (rcases h with ⟨_, _, rfl⟩ | ⟨_, _, _, _, _, _, rfl, _⟩ <;> rfl; done)
        | (rcases h with ⟨_, _, rfl⟩ | ⟨_, _, _, _, _, _, rfl, _⟩ <;> rfl; done)
        | (rcases h with ⟨_, _, _, rfl⟩ | ⟨_, _, _, _, _, _, rfl, _⟩ <;> rfl; done)
        | (obtain ⟨_, _, _, _, _, _, rfl⟩ := h; rfl; done)
        | (obtain ⟨_, _, rfl, _⟩ := h; rfl; done)
        | (obtain ⟨hd, _⟩ := h; simp only [DRel] at hd; obtain ⟨_, _, rfl, _⟩ := hd; rfl; done)
    rw [hx]
    simp only [V.cells, VRels, Array.toList]
    exact ⟨x, [], rfl, h, rfl⟩
theorem one_cell {ρ F} {v : V} {x : Value} (hb : v.one = true) (h : VRel ρ F v x) : x.oneCell' = true := by
  cases v <;> simp only [V.one, Bool.false_eq_true] at hb
  all_goals
    simp only [VRel] at h
    first
      | (subst h; rfl; done)
      | (obtain ⟨_, _, _, _, _, rfl⟩ := h; rfl; done)
      | (obtain ⟨_, _, _, rfl, _⟩ := h; rfl; done)
      | (obtain ⟨⟨_, _, rfl, _⟩, _⟩ := h; rfl; done)
      | (rcases h with ⟨_, _, rfl⟩ | ⟨_, _, _, _, _, _, rfl, _⟩ <;> rfl; done)
      | (rcases h with ⟨_, _, rfl⟩ | ⟨_, _, _, _, _, _, rfl, _⟩ <;> rfl; done)
      | (rcases h with ⟨_, _, _, rfl⟩ | ⟨_, _, _, _, _, _, rfl, _⟩ <;> rfl; done)
      | (obtain ⟨_, _, _, _, _, _, rfl⟩ := h; rfl; done)
      | (obtain ⟨_, _, rfl, _⟩ := h; rfl; done)
      | (obtain ⟨hd, _⟩ := h; simp only [DRel] at hd; obtain ⟨_, _, rfl, _⟩ := hd; rfl; done)
theorem ones_cells {ρ F} : ∀ {l : List V} {xs : List Value}, V.ones l = true → VRels ρ F l xs → ∀ x ∈ xs, x.oneCell' = true
  | [], _, _, h => by simp only [VRels] at h; subst h; simp
  | v :: l, _, hb, h => by
    simp only [V.ones, Bool.and_eq_true] at hb
    simp only [VRels] at h
    obtain ⟨x, r, rfl, h2, h3⟩ := h
    intro y hy
    rcases List.mem_cons.1 hy with rfl | hy
    · exact one_cell hb.1 h2
    · exact ones_cells hb.2 h3 y hy
end Go.Mini
end
section
set_option linter.unusedVariables false
set_option linter.unusedSimpArgs false
namespace Go.Mini
open Go.RowKit
theorem cell_of {W : World} {j : Nat} {c : Array Value} {e : TypeId} {fr : Nat × Nat} (h : W.heap[j]? = some (.cells c e fr)) (k : Nat) : W.cell? ⟨j, k, none⟩ = c[k]? := by
  simp only [World.cell?, h]; rfl
theorem add_plain (j o k : Nat) : (⟨j, o, none⟩ : Addr).add k = ⟨j, o + k, none⟩ := by
  unfold Addr.add
  split
  · rename_i h; subst h; rfl
  · rfl
theorem getD_rel {T : List Ty} {l : List (Ty.R T)} {i : Nat} (h : i < l.length) : l[i]? = some (l.getD i (Ty.dR T)) := by
  rw [List.getD_eq_getElem?_getD, List.getElem?_eq_getElem h]; rfl
theorem Blk.r_lies {ρ F W m} {te : TypeId} {T : List Ty} {l : List (Ty.R T)} {z : Bool} (h : BRel ρ F W m (.r te T l z)) (hf : ∀ j c, F j = some c → ∃ e fr, W.heap[j]? = some (.cells c e fr)) {j s n w : Nat} (hr : ρ m = some (.lies j s n w)) :
    ∃ c e fr, s = c.size ∧ n = l.length ∧ w = T.length ∧ W.heap[j]? = some (.cells c e fr) ∧ l.length * T.length ≤ c.size ∧ RowsRel F T l c 0 := by
  cases z with
  | false =>
    rcases h.2 with ⟨_, g⟩ | ⟨j', c, g1, g2, g3, g4, g5⟩
    · rw [hr] at g; cases g
    · rw [hr] at g1; cases g1; exact ⟨c, te, _, rfl, rfl, rfl, g2, g4, g5⟩
  | true =>
    rcases h.2 with ⟨_, g⟩ | ⟨j', c, g1, g2, g4, g5⟩
    · rw [hr] at g; cases g
    · rw [hr] at g1; cases g1
      obtain ⟨e, fr, hx⟩ := hf _ _ g2
      exact ⟨c, e, fr, rfl, rfl, rfl, hx, g4, g5⟩
/-- What is read at an address. -/
theorem readAt_rel {ρ F H W} (hR : Rel ρ F H W) {x : V} {v : Value} {n : Nat} {c : Bool} {cs : List V} {rd : List Nat} (h : readAt H x n = some (c, cs, rd)) (hc : c = true) (hx : VRel ρ F x v) :
    ∃ ad vs, v = .pointer (some ad) ∧ ad.spot = none ∧ VRels ρ F cs vs ∧ cs.length = n ∧ ∀ j u, vs[j]? = some u → W.cell? (ad.add j) = some u := by
  unfold readAt at h
  split at h
  · rename_i m off
    split at h
    · rename_i cs0 hg
      cases hb : Nat.ble (off + n) cs0.length with
      | false => rw [hb] at h; cases h
      | true =>
        rw [hb, cond_true] at h; cases h
        have hle : off + n ≤ cs0.length := Nat.le_of_ble_eq_true hb
        simp only [VRel] at hx
        obtain ⟨j, sz, n', w, h1, rfl⟩ := hx
        obtain ⟨j', n2, w2, ca, g1, g2, g3, g4⟩ := hR.blk m _ hg
        rw [h1] at g1; cases g1
        have hsz := g4.length
        refine ⟨⟨j, off, none⟩, (ca.toList.drop off).take n, rfl, rfl, (g4.drop off).take n, by rw [List.length_take, List.length_drop]; omega, fun k u hk => ?_⟩
        rw [add_plain, cell_of g2, List.getElem?_take] at *
        split at hk
        · rw [List.getElem?_drop] at hk; rw [← Array.getElem?_toList]; exact hk
        · cases hk
    · cases h
  · rename_i m row off
    split at h
    · rename_i T l z hg
      cases hb : Nat.ble (off + n) T.length with
      | false => rw [hb] at h; cases h
      | true =>
        rw [hb, cond_true] at h; cases h
        have hle : off + n ≤ T.length := Nat.le_of_ble_eq_true hb
        have hrow : row < l.length := by simpa using hc
        simp only [VRel] at hx
        obtain ⟨j, sz, n', w, h1, rfl⟩ := hx
        obtain ⟨ca, e, fr, rfl, rfl, rfl, g2, g3, g4⟩ := Blk.r_lies (hR.blk m _ hg) hR.fz h1
        obtain ⟨vs, a1, a2, a3⟩ := RRel.cells (ρ := ρ) T _ _ (g4 row _ (getD_rel hrow))
        refine ⟨⟨j, row * T.length + off, none⟩, (vs.drop off).take n, rfl, rfl, (a1.drop off).take n, ?_, fun k u hk => ?_⟩
        · have := a1.length
          rw [List.length_take, List.length_drop]; omega
        · rw [add_plain, cell_of g2]
          rw [List.getElem?_take] at hk
          split at hk
          · rw [List.getElem?_drop] at hk
            have := a3 _ _ hk
            rw [← this]; congr 1; omega
          · cases hk
    · cases h
  · rename_i T y off
    cases hb : Nat.ble (off + n) T.length with
    | false => rw [hb] at h; cases h
    | true =>
      rw [hb, cond_true] at h; cases h
      have hle : off + n ≤ T.length := Nat.le_of_ble_eq_true hb
      simp only [VRel] at hx
      obtain ⟨b, base, ca, rfl, h2, h3⟩ := hx
      obtain ⟨e, fr, g2⟩ := hR.fz _ _ h2
      obtain ⟨vs, a1, a2, a3⟩ := RRel.cells (ρ := ρ) T _ _ h3
      refine ⟨⟨b, base + off, none⟩, (vs.drop off).take n, rfl, rfl, (a1.drop off).take n, ?_, fun k u hk => ?_⟩
      · have := a1.length
        rw [List.length_take, List.length_drop]; omega
      · rw [add_plain, cell_of g2]
        rw [List.getElem?_take] at hk
        split at hk
        · rw [List.getElem?_drop] at hk
          have := a3 _ _ hk
          rw [← this]; congr 1; omega
        · cases hk
  · cases h
variable {P : Program}
theorem run_isAgg {t : TypeId} {d : TypeDesc} (h : P.underlying t = some d) (W : World) : (isAgg t).run P W = .ok (isAggB P t) W := by
  unfold isAgg isAggB
  simp only [Sem.run_bind, run_underlying h, Result.andThen_ok, h]
  cases d <;> rfl
theorem cellsVal_single {t : TypeId} {cs : List V} {v : V} (h : cellsVal P t cs = some v) (ha : isAggB P t = false) : cs = [v] := by
  unfold cellsVal at h
  cases hu : (P.underlying t).isSome with
  | false => rw [hu, cond_false] at h; cases h
  | true =>
    rw [hu, cond_true, ha, cond_false] at h
    split at h
    · cases h; rfl
    · cases h
theorem cellsVal_known {t : TypeId} {cs : List V} {v : V} (h : cellsVal P t cs = some v) : ∃ d, P.underlying t = some d := by
  unfold cellsVal at h
  cases hu : (P.underlying t).isSome with
  | false => rw [hu, cond_false] at h; cases h
  | true => exact Option.isSome_iff_exists.1 hu
theorem cellsVal_agg {t : TypeId} {cs : List V} {v : V} (h : cellsVal P t cs = some v) (ha : isAggB P t = true) : v = .agg cs := by
  unfold cellsVal at h
  cases hu : (P.underlying t).isSome with
  | false => rw [hu, cond_false] at h; cases h
  | true => rw [hu, cond_true, ha, cond_true] at h; cases h; rfl
theorem cellsOf_info {t : TypeId} {d : TypeDesc} (h : P.underlying t = some d) : ∃ i, P.info? t = some i ∧ P.cellsOf t = i.size := by
  unfold Program.underlying at h
  cases hi : P.info? t with
  | none => rw [hi] at h; cases h
  | some i => exact ⟨i, rfl, by simp [Program.cellsOf, hi]⟩
theorem run_sizeOf {t : TypeId} {i : TypeInfo} (h : P.info? t = some i) (W : World) : (sizeOf t).run P W = .ok i.size W := by
  simp only [sizeOf, typeInfo, program, Sem.run_bind, Result.andThen_ok, Sem.run_pure]
  simp [Sem.run, h]
/-- A load. -/
theorem run_loadVar {ρ F H W} (hR : Rel ρ F H W) {x : V} {v : Value} {t : TypeId} {d : TypeDesc} (hu : P.underlying t = some d) {cs : List V} {rd : List Nat} {y : V}
    (h : readAt H x (bif isAggB P t then P.cellsOf t else 1) = some (true, cs, rd)) (hy : cellsVal P t cs = some y) (hx : VRel ρ F x v) :
    ∃ ad u, v = .pointer (some ad) ∧ (loadVar t ad).run P W = .ok u W ∧ VRel ρ F y u := by
  obtain ⟨ad, vs, rfl, hs, h1, h2, h3⟩ := readAt_rel hR h rfl hx
  obtain ⟨i, hi, hsz⟩ := cellsOf_info hu
  refine ⟨ad, ?_⟩
  cases ha : isAggB P t with
  | true =>
    refine ⟨.agg vs.toArray, rfl, ?_, ?_⟩
    · simp only [loadVar, Sem.run_bind, run_isAgg hu, Result.andThen_ok, ha, if_true, run_sizeOf hi]
      rw [ha, cond_true] at h2
      have hl : vs.length = i.size := by rw [h1.length, h2, hsz]
      rw [← hl, run_loadCells_list W ad vs h3]
      rfl
    · rw [cellsVal_agg hy ha]
      simp only [VRel]
      exact ⟨_, rfl, by simpa using h1⟩
  | false =>
    have hcs := cellsVal_single hy ha
    subst hcs
    simp only [VRels] at h1
    obtain ⟨u, r, rfl, g1, rfl⟩ := h1
    have hc : W.cell? ad = some u := by
      have := h3 0 u rfl
      rwa [show ad.add 0 = ad by simp [Addr.add]] at this
    refine ⟨u, rfl, ?_, g1⟩
    simp only [loadVar, Sem.run_bind, run_isAgg hu, Result.andThen_ok, ha]
    simp [load, Sem.run, hc]
end Go.Mini
end
section
set_option linter.unusedVariables false
set_option linter.unusedSimpArgs false
namespace Go.Mini
open Go.RowKit
variable {P : Program}
theorem Oper.wp_value {o : Oper} {a : Act} {W W' : World} {x : Value} {K : Act → World → Prop} {Q : Exit → Act → World → Prop}
    (hrun : (execOp a.eval o).run P W = .ok (.value x) W') (hk : K (a.put o.dst x) W') : o.wp P a W K Q := by
  unfold Oper.wp; rw [hrun]; exact hk
theorem Oper.wp_skip {o : Oper} {a : Act} {W W' : World} {K : Act → World → Prop} {Q : Exit → Act → World → Prop}
    (hrun : (execOp a.eval o).run P W = .ok .skip W') (hk : K (a.put o.dst undef) W') : o.wp P a W K Q := by
  unfold Oper.wp; rw [hrun]; exact hk
theorem run_v {s : Sem Value} {x : Value} {W W' : World} (h : s.run P W = .ok x W') : (do pure (Next.value (← s)) : Sem Next).run P W = .ok (.value x) W' := by
  simp only [Sem.run_bind, h, Result.andThen_ok, Sem.run_pure]
theorem info_of_pos {t : TypeId} (h : 0 < P.cellsOf t) : ∃ i, P.info? t = some i ∧ P.cellsOf t = i.size := by
  unfold Program.cellsOf at h ⊢
  cases hi : P.info? t with
  | none => simp [hi] at h
  | some i => exact ⟨i, rfl, rfl⟩
theorem shiftAddr_rel {ρ F} {x y : V} {v : Value} {k : Nat} (h : shiftAddr x k = some y) (hx : VRel ρ F x v) : ∃ ad, v = .pointer (some ad) ∧ VRel ρ F y (.pointer (some (ad.add k))) := by
  unfold shiftAddr at h
  split at h <;> cases h <;> simp only [VRel] at hx
  · obtain ⟨j, sz, n, w, h1, rfl⟩ := hx
    exact ⟨_, rfl, by simp only [VRel]; exact ⟨j, sz, n, w, h1, by rw [add_plain]⟩⟩
  · obtain ⟨j, sz, n, w, h1, rfl⟩ := hx
    exact ⟨_, rfl, by simp only [VRel]; exact ⟨j, sz, n, w, h1, by rw [add_plain, Nat.add_assoc]⟩⟩
  · obtain ⟨b, base, c, rfl, h2, h3⟩ := hx
    exact ⟨_, rfl, by simp only [VRel]; exact ⟨b, base, c, by rw [add_plain, Nat.add_assoc], h2, h3⟩⟩
theorem run_fieldAt {ρ F W} {t f : Nat} {fd : Field} {x y : V} {v : Value} (hf : fieldOf P t f = some fd) (hp : 0 < P.cellsOf fd.type) (h : shiftAddr x fd.offset = some y) (hx : VRel ρ F x v) :
    ∃ u, (Instr.fieldAt t v f).run P W = .ok u W ∧ VRel ρ F y u := by
  obtain ⟨ad, rfl, hy⟩ := shiftAddr_rel h hx
  unfold fieldOf at hf
  split at hf
  · rename_i fs hu
    obtain ⟨i, hi, hs⟩ := info_of_pos hp
    refine ⟨_, ?_, hy⟩
    have hne : ¬ i.size = 0 := by omega
    simp only [Instr.fieldAt, Instr.sureAddr, fieldPlace, Sem.run_bind, run_underlying hu, Result.andThen_ok, hf, Sem.run_pure, run_sizeOf hi, hne, if_false]
  · cases hf
theorem run_part {ρ F W} {t off : Nat} {cs : List V} {y : V} {a : Array Value} {d : TypeDesc} (hu : P.underlying t = some d) (h : partV P t cs off = some y) (hx : VRels ρ F cs a.toList) :
    ∃ u, (part t a off).run P W = .ok u W ∧ VRel ρ F y u := by
  unfold partV at h
  obtain ⟨i, hi, hs⟩ := cellsOf_info hu
  cases hb : Nat.ble (off + P.cellsOf t) cs.length with
  | false => simp only [hb, cond_false] at h; cases h
  | true =>
    simp only [hb, cond_true] at h
    have hle : off + P.cellsOf t ≤ cs.length := Nat.le_of_ble_eq_true hb
    have hl := hx.length
    cases ha : isAggB P t with
    | true =>
      rw [cellsVal_agg h ha]
      refine ⟨.agg (a.extract off (off + i.size)), ?_, ?_⟩
      · simp only [part, Sem.run_bind, run_isAgg hu, Result.andThen_ok, ha, if_true, run_sizeOf hi, Sem.run_pure]
      · simp only [VRel]
        refine ⟨_, rfl, ?_⟩
        have := (hx.drop off).take (P.cellsOf t)
        rw [hs] at this ⊢
        rw [Array.toList_extract]
        simpa [List.extract, List.take_drop] using this
    | false =>
      have hc := cellsVal_single h ha
      have h1 := (hx.drop off).take (P.cellsOf t)
      rw [hc] at h1
      simp only [VRels] at h1
      obtain ⟨u, r, g1, g2, rfl⟩ := h1
      refine ⟨u, ?_, g2⟩
      have hg : a[off]? = some u := by
        have h0 : ((a.toList.drop off).take (P.cellsOf t))[0]? = some u := by rw [g1]; rfl
        rw [List.getElem?_take] at h0
        split at h0
        · rw [List.getElem?_drop] at h0; simpa using h0
        · cases h0
      simp only [part, Sem.run_bind, run_isAgg hu, Result.andThen_ok, ha, hg]
      rfl
theorem run_field {ρ F W} {t f : Nat} {fd : Field} {cs : List V} {y : V} {v : Value} (hf : fieldOf P t f = some fd) {d : TypeDesc} (hd : P.underlying fd.type = some d) (h : partV P fd.type cs fd.offset = some y) (hx : VRel ρ F (.agg cs) v) :
    ∃ u, (Instr.field t v f).run P W = .ok u W ∧ VRel ρ F y u := by
  simp only [VRel] at hx
  obtain ⟨a, rfl, h1⟩ := hx
  unfold fieldOf at hf
  split at hf
  · rename_i fs hu
    obtain ⟨u, g1, g2⟩ := run_part (W := W) hd h h1
    exact ⟨u, by simp only [Instr.field, Sem.run_bind, run_underlying hu, Result.andThen_ok, hf, asAgg, Sem.run_pure, g1], g2⟩
  · cases hf
theorem run_extract {ρ F W} {vs : List V} {j : Nat} {y : V} {v : Value} (h : vs[j]? = some y) (hx : VRel ρ F (.tup vs) v) : ∃ u, (Instr.extract v j).run P W = .ok u W ∧ VRel ρ F y u := by
  simp only [VRel] at hx
  obtain ⟨a, rfl, h1⟩ := hx
  obtain ⟨u, g1, g2⟩ := h1.get h
  have : a[j]? = some u := by rw [← Array.getElem?_toList]; exact g1
  exact ⟨u, by simp only [Instr.extract, this]; rfl, g2⟩
theorem run_unary {ρ F W} {op : UnOp} {x y : V} {v : Value} (h : unV op x = some y) (hx : VRel ρ F x v) : ∃ u, (Op.unary op v).run P W = .ok u W ∧ VRel ρ F y u := by
  unfold unV at h
  split at h <;> cases h <;> simp only [VRel] at hx <;> subst hx
  · exact ⟨_, rfl, by simp only [VRel]⟩
  · exact ⟨_, rfl, by simp only [VRel]⟩
theorem run_convert {ρ F W} {s d : TypeId} {x y : V} {v : Value} (h : convV P s d x = some y) (hx : VRel ρ F x v) : ∃ u, (convert s d v).run P W = .ok u W ∧ VRel ρ F y u := by
  unfold convV at h
  split at h
  · rename_i k1 k2 k n h1 h2
    cases h
    simp only [VRel] at hx; subst hx
    exact ⟨.int k2 (k2.wrap n), by simp only [convert, Sem.run_bind, run_underlying h1, run_underlying h2, Result.andThen_ok]; rfl, by simp only [VRel]⟩
  · rename_i l h1 h2
    cases h
    simp only [VRel] at hx; subst hx
    exact ⟨_, by simp only [convert, Sem.run_bind, run_underlying h1, run_underlying h2, Result.andThen_ok]; rfl, by simp only [VRel]⟩
  · cases h
end Go.Mini
end
section
set_option linter.unusedVariables false
set_option linter.unusedSimpArgs false
namespace Go.Mini
open Go.RowKit
variable {P : Program}
theorem run_asIntOf (k : IntKind) (n : Int) (W : World) : (asIntOf (.int k n)).run P W = .ok (k, n) W := rfl
theorem add_mul_rel {T : List Ty} (o i w : Nat) : o + i * w = o + i * w := rfl
/-- An element's address. -/
theorem run_indexAt {ρ F H W} (hR : Rel ρ F H W) {t : TypeId} {x ix y : V} {c : Bool} (h : idxAddr P H t x ix = some (c, y)) (hc : c = true) {v vi : Value} (hx : VRel ρ F x v) (hi : VRel ρ F ix vi)
    (hk : ∀ e, P.underlying t = some (.slice e) → 0 < P.cellsOf e) (hk2 : ∀ n e, P.underlying t = some (.array n e) → 0 < P.cellsOf e) :
    ∃ u, (Instr.indexAt t v vi).run P W = .ok u W ∧ VRel ρ F y u := by
  unfold idxAddr at h
  split at h
  case h_2 => cases h
  rename_i k n
  simp only [VRel] at hi; subst hi
  split at h
  · rename_i e hu
    have hp := hk e hu
    obtain ⟨i, hie, hs⟩ := info_of_pos hp
    split at h
    · rename_i T l full
      cases hb : Nat.beq T.length (P.cellsOf e) with
      | false => rw [hb] at h; cases h
      | true =>
        rw [hb, cond_true] at h; cases h
        have hw := Nat.eq_of_beq_eq_true hb
        simp only [Bool.and_eq_true, decide_eq_true_eq] at hc
        obtain ⟨hc1, hc2⟩ := hc
        have hlt : n.toNat < l.length := by omega
        simp only [VRel, DRel] at hx
        obtain ⟨⟨a, cap, rfl, h1, h2⟩, h3⟩ := hx
        rcases h2 with h2 | ⟨ad, ca, rfl, h4, h5, h6⟩
        · have : l = [] := h2
          subst this; simp at hlt
        · refine ⟨.pointer (some (ad.add (n.toNat * i.size))), ?_, ?_⟩
          · have hc2' : n < ((List.length (α := Ty.R T) l : Nat) : Int) := hc2
            simp only [Instr.indexAt, Sem.run_bind, run_asIntOf, run_underlying hu, Result.andThen_ok, Sem.run_pure, Bool.and_false, hc1, hc2', and_self, if_true, run_sizeOf hie]
          · obtain ⟨b, o, sp⟩ := ad
            simp only at h4; subst h4
            rw [add_plain]
            simp only [VRel]
            exact ⟨b, o + n.toNat * i.size, ca, by rw [Nat.add_zero], h5, by have := h6 _ _ (getD_rel hlt); rw [hw, hs] at this; exact this⟩
    · rename_i m
      split at h
      · rename_i T l z hg
        cases hb : Nat.beq T.length (P.cellsOf e) with
        | false => rw [hb] at h; cases h
        | true =>
          rw [hb, cond_true] at h; cases h
          have hw := Nat.eq_of_beq_eq_true hb
          simp only [Bool.and_eq_true, decide_eq_true_eq] at hc
          obtain ⟨hc1, hc2⟩ := hc
          simp only [VRel] at hx
          rcases hx with ⟨h1, a, rfl⟩ | ⟨j, sz, n', w, cap, h1, rfl, h3, h4⟩
          · have hl0 : l = [] := by
              have := hR.blk m _ hg
              cases z with
              | false => rcases this.2 with g | ⟨j, c', g, _⟩
                         · exact g.1
                         · rw [h1] at g; cases g
              | true => rcases this.2 with g | ⟨j, c', g, _⟩
                        · exact g.1
                        · rw [h1] at g; cases g
            subst hl0; simp at hc2; omega
          · obtain ⟨ca, e', fr, rfl, rfl, rfl, _⟩ := Blk.r_lies (hR.blk m _ hg) hR.fz h1
            refine ⟨.pointer (some (Addr.add ⟨j, 0, none⟩ (n.toNat * i.size))), ?_, ?_⟩
            · simp only [Instr.indexAt, Sem.run_bind, run_asIntOf, run_underlying hu, Result.andThen_ok, Sem.run_pure, Bool.and_false, hc1, hc2, and_self, if_true, run_sizeOf hie]
            · rw [add_plain]
              simp only [VRel]
              exact ⟨j, _, _, _, h1, by rw [hw, hs, Nat.zero_add, Nat.add_zero]⟩
      · cases h
    · rename_i m o k'
      split at h
      · rename_i T l z hg
        cases hb : Nat.beq T.length (P.cellsOf e) with
        | false => rw [hb] at h; cases h
        | true =>
          rw [hb, cond_true] at h; cases h
          have hw := Nat.eq_of_beq_eq_true hb
          simp only [Bool.and_eq_true, decide_eq_true_eq] at hc
          obtain ⟨hc1, hc2⟩ := hc
          simp only [VRel] at hx
          rcases hx with ⟨rfl, a, rfl⟩ | ⟨j, sz, n', w, cap, h1, rfl, h3, h4⟩
          · omega
          · obtain ⟨ca, e', fr, rfl, rfl, rfl, _⟩ := Blk.r_lies (hR.blk m _ hg) hR.fz h1
            refine ⟨.pointer (some (Addr.add ⟨j, o * T.length, none⟩ (n.toNat * i.size))), ?_, ?_⟩
            · simp only [Instr.indexAt, Sem.run_bind, run_asIntOf, run_underlying hu, Result.andThen_ok, Sem.run_pure, Bool.and_false, hc1, hc2, and_self, if_true, run_sizeOf hie]
            · rw [add_plain]
              simp only [VRel]
              exact ⟨j, _, _, _, h1, by rw [hw, hs, Nat.add_mul, Nat.add_zero]⟩
      · cases h
    · rename_i m o k' w'
      cases hb : Nat.beq w' (P.cellsOf e) with
      | false => rw [hb] at h; cases h
      | true =>
        rw [hb, cond_true] at h; cases h
        have hw := Nat.eq_of_beq_eq_true hb
        simp only [Bool.and_eq_true, decide_eq_true_eq] at hc
        obtain ⟨hc1, hc2⟩ := hc
        simp only [VRel] at hx
        rcases hx with ⟨rfl, a, cap, rfl⟩ | ⟨j, sz, n', w, cap, h1, rfl, h2⟩
        · omega
        refine ⟨.pointer (some (Addr.add ⟨j, o, none⟩ (n.toNat * i.size))), ?_, ?_⟩
        · simp only [Instr.indexAt, Sem.run_bind, run_asIntOf, run_underlying hu, Result.andThen_ok, Sem.run_pure, Bool.and_false, hc1, hc2, and_self, if_true, run_sizeOf hie]
        · rw [add_plain]
          simp only [VRel]
          exact ⟨j, _, _, _, h1, by rw [hw, hs]⟩
    · cases h
  · rename_i k' e hu
    have hp := hk2 k' e hu
    obtain ⟨i, hie, hs⟩ := info_of_pos hp
    split at h
    · rename_i y' hy
      cases h
      simp only [Bool.and_eq_true, decide_eq_true_eq] at hc
      obtain ⟨hc1, hc2⟩ := hc
      obtain ⟨ad, rfl, hr⟩ := shiftAddr_rel hy hx
      refine ⟨_, ?_, hr⟩
      rw [hs]
      simp only [Instr.indexAt, Instr.sureAddr, Sem.run_bind, run_asIntOf, run_underlying hu, Result.andThen_ok, Sem.run_pure, hc1, hc2, and_self, if_true, run_sizeOf hie]
    · cases h
  · cases h
theorem run_max2 {ρ F W} {x y z : V} {v u : Value} (h : maxV x y = some z) (hx : VRel ρ F x v) (hy : VRel ρ F y u) : ∃ r, (Builtin.max2 v u).run P W = .ok r W ∧ VRel ρ F z r := by
  unfold maxV at h
  split at h
  · rename_i j m k n
    split at h
    · cases h
      simp only [VRel] at hx hy; subst hx hy
      exact ⟨_, rfl, by simp only [VRel]⟩
    · cases h
  · cases h
theorem run_min2 {ρ F W} {x y z : V} {v u : Value} (h : minV x y = some z) (hx : VRel ρ F x v) (hy : VRel ρ F y u) : ∃ r, (Builtin.min2 v u).run P W = .ok r W ∧ VRel ρ F z r := by
  unfold minV at h
  split at h
  · rename_i j m k n
    split at h
    · cases h
      simp only [VRel] at hx hy; subst hx hy
      exact ⟨_, rfl, by simp only [VRel]⟩
    · cases h
  · cases h
theorem run_fold {ρ F W} {f : V → V → Option V} {g : Value → Value → Sem Value} (hf : ∀ x y z v u, f x y = some z → VRel ρ F x v → VRel ρ F y u → ∃ r, (g v u).run P W = .ok r W ∧ VRel ρ F z r) :
    ∀ (l : List V) (vs : List Value) (x z : V) (v : Value), foldV f x l = some z → VRel ρ F x v → VRels ρ F l vs → ∃ r, (vs.foldlM g v).run P W = .ok r W ∧ VRel ρ F z r
  | [], vs, x, z, v, h, hx, hl => by
    simp only [foldV, Option.some.injEq] at h; subst h
    simp only [VRels] at hl; subst hl
    exact ⟨v, rfl, hx⟩
  | y :: l, vs, x, z, v, h, hx, hl => by
    simp only [foldV] at h
    simp only [VRels] at hl
    obtain ⟨u, r, rfl, h1, h2⟩ := hl
    split at h
    · rename_i w hw
      obtain ⟨q, g1, g2⟩ := hf _ _ _ _ _ hw hx h1
      obtain ⟨r', g3, g4⟩ := run_fold hf l r w z q h g2 h2
      exact ⟨r', by simp only [List.foldlM_cons, Sem.run_bind, g1, Result.andThen_ok, g3], g4⟩
    · cases h
end Go.Mini
end
section
set_option linter.unusedVariables false
set_option linter.unusedSimpArgs false
namespace Go.Mini
open Go.RowKit
variable {P : Program}
theorem bytes_toList (x : List UInt8) : (⟨x.toArray⟩ : ByteArray).toList = x := by rw [ByteArray.toList_eq]
theorem partV_known {t off : Nat} {cs : List V} {y : V} (h : partV P t cs off = some y) : ∃ d, P.underlying t = some d := by
  unfold partV at h
  cases hb : Nat.ble (off + P.cellsOf t) cs.length with
  | false => simp only [hb, cond_false] at h; cases h
  | true => simp only [hb, cond_true] at h; exact cellsVal_known h
/-- '==' -/
theorem run_equalIn {ρ F} : ∀ (d : Nat) (t : TypeId) (x y : V) (b : Bool) (v u : Value) (D : Nat) (W : World), eqV P d t x y = some b → VRel ρ F x v → VRel ρ F y u → d ≤ D → (Op.equalIn D t v u).run P W = .ok b W := by
  intro d
  induction d with
  | zero => intro t x y b v u D W h; cases h
  | succ d ih =>
    intro t x y b v u D W h hx hy hD
    obtain ⟨D, rfl⟩ : ∃ D', D = D' + 1 := ⟨D - 1, by omega⟩
    simp only [eqV] at h
    split at h
    · rename_i hu
      split at h
      · cases h; simp only [VRel] at hx hy; subst hx hy
        exact run_equalIn_bool' W D t _ _ hu
      · cases h
    · rename_i k hu
      split at h
      · split at h
        · cases h; simp only [VRel] at hx hy; subst hx hy; rename_i hjk; subst hjk
          exact run_equalIn_int W D t _ _ _ _ hu
        · cases h
      · cases h
    · rename_i hu
      split at h
      · cases h; simp only [VRel] at hx hy; subst hx hy
        rw [run_equalIn_string W D t _ _ hu, bytes_toList, bytes_toList]
      · cases h
    · rename_i fs hu
      split at h
      · rename_i xs ys
        cases hp : P.stoodInHeld t with
        | true => rw [hp, cond_true] at h; cases h
        | false =>
          rw [hp, cond_false] at h
          simp only [VRel] at hx hy
          obtain ⟨xa, rfl, hxs⟩ := hx
          obtain ⟨ya, rfl, hys⟩ := hy
          have hfo : P.fieldsOf t = fs := by simp [Program.fieldsOf, hu]
          rw [run_equalIn_struct W D t xa ya (by rw [hfo]; exact hu) hp, hfo]
          clear hfo hu
          generalize fs.toList = l at h
          induction l generalizing b with
          | nil => simp only [List.foldr_nil, Option.some.injEq] at h; subst h; rfl
          | cons f l ihl =>
            simp only [List.foldr_cons] at h
            split at h
            · cases h
            · rename_i r hr
              have hrest := ihl r hr
              simp only [Op.eqFields]
              cases hn : (f.name == "_") with
              | true =>
                rw [hn, cond_true] at h; cases h
                have : f.name = "_" := by simpa using hn
                rw [if_neg (by simpa using this)]; exact hrest
              | false =>
                rw [hn, cond_false] at h
                have hne : f.name ≠ "_" := by simpa using hn
                rw [if_pos hne]
                split at h
                · rename_i p q hp1 hq1
                  split at h
                  · rename_i e he
                    cases h
                    obtain ⟨df, hdf⟩ := partV_known hp1
                    obtain ⟨pv, g1, g2⟩ := run_part (W := W) hdf hp1 hxs
                    obtain ⟨qv, g3, g4⟩ := run_part (W := W) hdf hq1 hys
                    have := ih f.type p q e pv qv D W he g2 g4 (by omega)
                    simp only [Sem.run_bind, g1, g3, Result.andThen_ok, this]
                    cases e
                    · simp
                    · simpa using hrest
                  · cases h
                · cases h
      · cases h
    · rename_i n e hu
      split at h
      · rename_i xs ys
        simp only [VRel] at hx hy
        obtain ⟨xa, rfl, hxs⟩ := hx
        obtain ⟨ya, rfl, hys⟩ := hy
        cases hinf : (P.info? e).isSome with
        | false => rw [hinf] at h; simp at h
        | true =>
          rw [hinf, Bool.not_true, cond_false] at h
          obtain ⟨i, hi⟩ := Option.isSome_iff_exists.1 hinf
          rw [run_equalIn_array (w := W) D xa ya hu hi]
          generalize List.range n = l at h
          induction l generalizing b with
          | nil => simp only [List.foldr_nil, Option.some.injEq] at h; subst h; rfl
          | cons j l ihl =>
            simp only [List.foldr_cons] at h
            split at h
            · cases h
            · rename_i r hr
              have hrest := ihl r hr
              simp only [Op.eqItems]
              split at h
              · rename_i p q hp1 hq1
                split at h
                · rename_i e' he
                  cases h
                  obtain ⟨df, hdf⟩ := partV_known hp1
                  obtain ⟨pv, g1, g2⟩ := run_part (W := W) hdf hp1 hxs
                  obtain ⟨qv, g3, g4⟩ := run_part (W := W) hdf hq1 hys
                  have := ih e p q e' pv qv D W he g2 g4 (by omega)
                  simp only [Sem.run_bind, g1, g3, Result.andThen_ok, this]
                  cases e'
                  · simp
                  · simpa using hrest
                · cases h
              · cases h
      · cases h
    · rename_i e hu
      cases hg : ((P.info? e).isSome && !Nat.beq (P.cellsOf e) 0) with
      | false => rw [hg] at h; cases h
      | true =>
        rw [hg, cond_true] at h
        simp only [Bool.and_eq_true, Bool.not_eq_true'] at hg
        obtain ⟨i, hi⟩ := Option.isSome_iff_exists.1 hg.1
        have hsz : i.size ≠ 0 := by
          intro e0
          have h0 : P.cellsOf e = 0 := by simp [Program.cellsOf, hi, e0]
          have := hg.2
          rw [h0] at this; cases this
        unfold ptrEq at h
        split at h
        · cases h; simp only [VRel] at hx hy; subst hx hy
          simp [Op.equalIn, run_underlying hu]
        · cases h; simp only [VRel] at hx hy
          obtain ⟨_, _, _, _, _, rfl⟩ := hy
          subst hx
          simp [Op.equalIn, run_underlying hu]
        · cases h; simp only [VRel] at hx hy
          obtain ⟨_, _, _, _, _, rfl⟩ := hx
          subst hy
          simp [Op.equalIn, run_underlying hu]
        · rename_i m o m' o'
          cases hm : (Nat.beq m m' && Nat.beq o o') with
          | false => rw [hm] at h; cases h
          | true =>
            rw [hm, cond_true] at h; cases h
            simp only [Bool.and_eq_true] at hm
            obtain rfl := Nat.eq_of_beq_eq_true hm.1
            obtain rfl := Nat.eq_of_beq_eq_true hm.2
            simp only [VRel] at hx hy
            obtain ⟨j, s1, n1, w1, q1, rfl⟩ := hx
            obtain ⟨j', s2, n2, w2, q2, rfl⟩ := hy
            rw [q1] at q2; cases q2
            simp [Op.equalIn, run_underlying hu, sizeOf, typeInfo, hi, hsz, sameAddr]
        · cases h
    · cases h
end Go.Mini
end
section
set_option linter.unusedVariables false
set_option linter.unusedSimpArgs false
namespace Go.Mini
open Go.RowKit
variable {P : Program}
theorem run_eqGuard {op : BinOp} {t : TypeId} {ox oy : Operand} {a b : Value} {W : World} (h : ∀ xs ys, a = .agg xs → b = .agg ys → P.eqGuardType P.depth t = false) (hn : a ≠ .nilIface ∨ b ≠ .nilIface) :
    (eqGuard op t ox oy a b).run P W = .ok () W := by
  have hagg : ∀ xs ys, a = .agg xs → b = .agg ys → (eqGuard op t ox oy a b).run P W = .ok () W := by
    rintro xs ys rfl rfl
    have := h _ _ rfl rfl
    have e : ∀ o : BinOp, (eqGuard o t ox oy (.agg xs) (.agg ys)).run P W = .ok () W := by
      intro o
      cases o <;> first | rfl | (simp only [eqGuard, Bool.not_true, Bool.false_eq_true, if_false, Sem.run_bind, run_program, Result.andThen_ok, this, Bool.not_false, if_true, Sem.run_pure]; done) | (simp [eqGuard, run_program, this])
    exact e op
  cases a
  case agg xs =>
    cases b
    case agg ys => exact hagg _ _ rfl rfl
    all_goals (cases op <;> rfl)
  case nilIface =>
    cases b
    case nilIface => rcases hn with h | h <;> exact absurd rfl h
    all_goals (cases op <;> rfl)
  all_goals (cases op <;> rfl)
theorem size_bytes (m : List UInt8) : (⟨m.toArray⟩ : ByteArray).size = m.length := by simp [ByteArray.size]
theorem append_bytes (m n : List UInt8) : (⟨m.toArray⟩ : ByteArray) ++ ⟨n.toArray⟩ = ⟨(m ++ n).toArray⟩ := by
  apply ByteArray.ext
  simp [ByteArray.data_append]
theorem eqV_forms {ρ F} {d : Nat} {t : TypeId} {x y : V} {e : Bool} {v u : Value} (hni : ∀ j m k n, x = .i j m → y = .i k n → False) (hns : ∀ m n, x = .s m → y = .s n → False) (he : eqV P (d + 1) t x y = some e) (hx : VRel ρ F x v) (hy : VRel ρ F y u) :
    (v ≠ .nilIface ∨ u ≠ .nilIface) ∧ ((∃ a b, v = .bool a ∧ u = .bool b) ∨ (∃ a b, v = .agg a ∧ u = .agg b) ∨ (∃ a b, v = .pointer a ∧ u = .pointer b)) := by
  simp only [eqV] at he
  split at he
  · split at he
    · simp only [VRel] at hx hy; subst hx hy
      exact ⟨.inl (by simp), .inl ⟨_, _, rfl, rfl⟩⟩
    · cases he
  · cases he
  · cases he
  · split at he
    · simp only [VRel] at hx hy
      obtain ⟨a, rfl, _⟩ := hx
      obtain ⟨b, rfl, _⟩ := hy
      exact ⟨.inl (by simp), .inr (.inl ⟨_, _, rfl, rfl⟩)⟩
    · cases he
  · split at he
    · simp only [VRel] at hx hy
      obtain ⟨a, rfl, _⟩ := hx
      obtain ⟨b, rfl, _⟩ := hy
      exact ⟨.inl (by simp), .inr (.inl ⟨_, _, rfl, rfl⟩)⟩
    · cases he
  · rename_i e hu
    cases hg : ((P.info? e).isSome && !Nat.beq (P.cellsOf e) 0) with
    | false => rw [hg] at he; cases he
    | true =>
      rw [hg, cond_true] at he
      unfold ptrEq at he
      split at he <;> first | (cases he; done) | skip
      all_goals simp only [VRel] at hx hy
      · subst hx hy; exact ⟨.inl (by simp), .inr (.inr ⟨_, _, rfl, rfl⟩)⟩
      · obtain ⟨_, _, _, _, _, rfl⟩ := hy
        subst hx; exact ⟨.inl (by simp), .inr (.inr ⟨_, _, rfl, rfl⟩)⟩
      · obtain ⟨_, _, _, _, _, rfl⟩ := hx
        subst hy; exact ⟨.inl (by simp), .inr (.inr ⟨_, _, rfl, rfl⟩)⟩
      · obtain ⟨_, _, _, _, _, rfl⟩ := hx
        obtain ⟨_, _, _, _, _, rfl⟩ := hy
        exact ⟨.inl (by simp), .inr (.inr ⟨_, _, rfl, rfl⟩)⟩
  · cases he
theorem run_bin {ρ F W} {op : BinOp} {t : TypeId} {x y z : V} {c : Bool} {v u : Value} {ox oy : Operand} (h : binV P op t x y = some (c, z)) (hc : c = true) (hx : VRel ρ F x v) (hy : VRel ρ F y u) :
    ∃ r, (do eqGuard op t ox oy v u; binOp op t v u : Sem Value).run P W = .ok r W ∧ VRel ρ F z r := by
  unfold binV at h
  split at h
  · rename_i j m k n
    simp only [VRel] at hx hy; subst hx hy
    split at h
    · rename_i hjk; subst hjk
      have hg := run_eqGuard (P := P) (op := op) (t := t) (ox := ox) (oy := oy) (a := .int j m) (b := .int j n) (W := W) (fun _ _ h => by cases h) (.inl (by simp))
      simp only [Sem.run_bind, hg, Result.andThen_ok]
      split at h <;> cases h
      case h_4 =>
        have hn : ¬ n = 0 := by simpa using hc
        exact ⟨_, by simp only [binOp, ne_eq, not_true, if_false, Op.intDiv, hn]; rfl, by simp only [VRel]⟩
      case h_5 =>
        have hn : ¬ n = 0 := by simpa using hc
        exact ⟨_, by simp only [binOp, ne_eq, not_true, if_false, Op.intDiv, hn]; rfl, by simp only [VRel]⟩
      all_goals exact ⟨_, by simp only [binOp, ne_eq, not_true, if_false]; rfl, by simp only [VRel]⟩
    · cases h
  · rename_i m n
    simp only [VRel] at hx hy; subst hx hy
    have hg := run_eqGuard (P := P) (op := op) (t := t) (ox := ox) (oy := oy) (a := .string ⟨m.toArray⟩) (b := .string ⟨n.toArray⟩) (W := W) (fun _ _ h => by cases h) (.inl (by simp))
    simp only [Sem.run_bind, hg, Result.andThen_ok]
    split at h <;> cases h
    · have hle : ((m.length + n.length : Nat) : Int) ≤ 9223372036854775807 := by simpa using hc
      refine ⟨.string ⟨(m ++ n).toArray⟩, ?_, by simp only [VRel]⟩
      have hmx : IntKind.i64.max = 9223372036854775807 := by decide
      have hsz : ¬ ((((⟨m.toArray⟩ : ByteArray).size + (⟨n.toArray⟩ : ByteArray).size : Nat) : Int) > IntKind.i64.max) := by rw [size_bytes, size_bytes, hmx]; omega
      have hrun : Op.stringOp .add ⟨m.toArray⟩ ⟨n.toArray⟩ = pure (.string ((⟨m.toArray⟩ : ByteArray) ++ ⟨n.toArray⟩)) := by
        unfold Op.stringOp
        exact if_neg hsz
      have hb : binOp .add t (.string ⟨m.toArray⟩) (.string ⟨n.toArray⟩) = Op.stringOp .add ⟨m.toArray⟩ ⟨n.toArray⟩ := rfl
      rw [hb, hrun, append_bytes]; rfl
    · exact ⟨.bool (m == n), by simp only [binOp, Op.stringOp, bytes_toList]; rfl, by simp only [VRel]⟩
    · exact ⟨.bool (!(m == n)), by simp only [binOp, Op.stringOp, bytes_toList]; rfl, by simp only [VRel]⟩
  · rename_i hni hns
    cases hgt : P.eqGuardType P.depth t with
    | true => rw [hgt, cond_true] at h; cases h
    | false =>
      rw [hgt, cond_false] at h
      have key : ∀ e, eqV P 9 t x y = some e → (op = .eql ∨ op = .neq) → (eqGuard op t ox oy v u).run P W = .ok () W ∧ (binOp op t v u).run P W = .ok (.bool (if op = .eql then e else !e)) W := by
        intro e he hop
        have hrun := run_equalIn 9 t x y e v u Op.maxDepth W he hx hy (by unfold Op.maxDepth; omega)
        have hq : (Op.equal t v u).run P W = .ok e W := hrun
        have hnot := eqV_forms hni hns he hx hy
        refine ⟨run_eqGuard (fun _ _ _ _ => hgt) hnot.1, ?_⟩
        rcases hnot.2 with ⟨a, b, rfl, rfl⟩ | ⟨a, b, rfl, rfl⟩ | ⟨a, b, rfl, rfl⟩ <;> rcases hop with rfl | rfl <;> simp only [binOp, Sem.run_bind, hq, Result.andThen_ok, Sem.run_pure] <;> simp
      split at h
      · split at h
        · rename_i e he
          cases h
          obtain ⟨k1, k2⟩ := key e he (.inl rfl)
          exact ⟨.bool e, by simp only [Sem.run_bind, k1, Result.andThen_ok, k2, if_true], by simp only [VRel]⟩
        · cases h
      · split at h
        · rename_i e he
          cases h
          obtain ⟨k1, k2⟩ := key e he (.inr rfl)
          exact ⟨.bool (!e), by simp only [Sem.run_bind, k1, Result.andThen_ok, k2]; simp, by simp only [VRel]⟩
        · cases h
      · cases h
end Go.Mini
end
section
set_option linter.unusedVariables false
set_option linter.unusedSimpArgs false
namespace Go.Mini
open Go.RowKit
variable {P : Program}
theorem run_idxVal {ρ F W} {t : TypeId} {x ix y : V} {c : Bool} (h : idxVal P t x ix = some (c, y)) (hc : c = true) {v vi : Value} (hx : VRel ρ F x v) (hi : VRel ρ F ix vi) :
    ∃ u, (Instr.index t v vi).run P W = .ok u W ∧ VRel ρ F y u := by
  unfold idxVal at h
  split at h
  case h_2 => cases h
  rename_i k n
  simp only [VRel] at hi; subst hi
  split at h
  · rename_i k' e cs hu
    split at h
    · rename_i y' hy
      cases h
      simp only [Bool.and_eq_true, decide_eq_true_eq] at hc
      obtain ⟨hc1, hc2⟩ := hc
      simp only [VRel] at hx
      obtain ⟨a, rfl, h1⟩ := hx
      obtain ⟨d, hd⟩ := partV_known hy
      obtain ⟨i, hie, hs⟩ := cellsOf_info hd
      obtain ⟨u, g1, g2⟩ := run_part (W := W) hd hy h1
      refine ⟨u, ?_, g2⟩
      rw [hs] at g1
      simp only [Instr.index, Sem.run_bind, run_asIntOf, run_underlying hu, Result.andThen_ok, hc1, hc2, and_self, if_true, run_sizeOf hie, g1]
    · cases h
  · rename_i l hu
    cases h
    simp only [Bool.and_eq_true, decide_eq_true_eq] at hc
    obtain ⟨hc1, hc2⟩ := hc
    simp only [VRel] at hx; subst hx
    have hlt : n.toNat < l.length := by omega
    refine ⟨.int .u8 ((l.getD n.toNat 0).toNat : Int), ?_, by simp only [VRel]⟩
    have hg : (⟨l.toArray⟩ : ByteArray)[n.toNat]? = some (l.getD n.toNat 0) := by
      rw [List.getD_eq_getElem?_getD, List.getElem?_eq_getElem hlt]
      have hs : n.toNat < (⟨l.toArray⟩ : ByteArray).size := by rw [size_bytes]; exact hlt
      rw [getElem?_pos (⟨l.toArray⟩ : ByteArray) n.toNat hs]
      rfl
    simp only [Instr.index, Sem.run_bind, run_asIntOf, run_underlying hu, Result.andThen_ok, hc1, if_true, hg, Sem.run_pure]
  · cases h
theorem run_len {ρ F H W} (hR : Rel ρ F H W) {t ty : TypeId} {x y : V} {ts : Array TypeId} (ht : ts[0]? = some t) (h : lenV P H t x = some y) {v : Value} (hx : VRel ρ F x v) :
    ∃ u, (Builtin.len_ ts ty #[v]).run P W = .ok u W ∧ VRel ρ F y u := by
  have hv : (#[v] : Array Value)[0]? = some v := rfl
  unfold lenV at h
  split at h
  · rename_i e T l full hu
    cases h
    simp only [VRel, DRel] at hx
    obtain ⟨⟨a, cap, rfl, _⟩, _⟩ := hx
    exact ⟨_, by simp only [Builtin.len_, ht, hv, Sem.run_bind, run_underlying hu, Result.andThen_ok, Sem.run_pure]; rfl, by simp only [VRel, goInt]⟩
  · rename_i e hu
    cases h
    simp only [VRel] at hx; subst hx
    exact ⟨_, by simp only [Builtin.len_, ht, hv, Sem.run_bind, run_underlying hu, Result.andThen_ok, Sem.run_pure]; rfl, by simp only [VRel]; rfl⟩
  · rename_i e m hu
    split at h
    · rename_i T l z hg
      cases h
      simp only [VRel] at hx
      have hl : ∃ a cap, v = .slice a l.length cap := by
        rcases hx with ⟨h1, a, rfl⟩ | ⟨j, sz, n', w, cap, h1, rfl, _⟩
        · have hl0 : l = [] := by
            have := hR.blk m _ hg
            cases z with
            | false => rcases this.2 with g | ⟨j, c', g, _⟩
                       · exact g.1
                       · rw [h1] at g; cases g
            | true => rcases this.2 with g | ⟨j, c', g, _⟩
                      · exact g.1
                      · rw [h1] at g; cases g
          subst hl0; exact ⟨a, 0, rfl⟩
        · obtain ⟨ca, e', fr, rfl, rfl, rfl, _⟩ := Blk.r_lies (hR.blk m _ hg) hR.fz h1
          exact ⟨_, cap, rfl⟩
      obtain ⟨a, cap, rfl⟩ := hl
      exact ⟨_, by simp only [Builtin.len_, ht, hv, Sem.run_bind, run_underlying hu, Result.andThen_ok, Sem.run_pure]; rfl, by simp only [VRel, goInt]⟩
    · cases h
  · rename_i e m o k hu
    cases h
    simp only [VRel] at hx
    have hl : ∃ a cap, v = .slice a k cap := by
      rcases hx with ⟨rfl, a, rfl⟩ | ⟨j, sz, n', w, cap, h1, rfl, _⟩
      · exact ⟨a, 0, rfl⟩
      · exact ⟨_, cap, rfl⟩
    obtain ⟨a, cap, rfl⟩ := hl
    exact ⟨_, by simp only [Builtin.len_, ht, hv, Sem.run_bind, run_underlying hu, Result.andThen_ok, Sem.run_pure]; rfl, by simp only [VRel, goInt]⟩
  · rename_i e m o k w hu
    cases h
    simp only [VRel] at hx
    have hl : ∃ a cap, v = .slice a k cap := by
      rcases hx with ⟨rfl, a, cap, rfl⟩ | ⟨j, sz, n', w, cap, h1, rfl, _⟩
      · exact ⟨a, cap, rfl⟩
      · exact ⟨_, cap, rfl⟩
    obtain ⟨a, cap, rfl⟩ := hl
    exact ⟨_, by simp only [Builtin.len_, ht, hv, Sem.run_bind, run_underlying hu, Result.andThen_ok, Sem.run_pure]; rfl, by simp only [VRel, goInt]⟩
  · rename_i l hu
    cases h
    simp only [VRel] at hx; subst hx
    exact ⟨_, by simp only [Builtin.len_, ht, hv, Sem.run_bind, run_underlying hu, Result.andThen_ok, Sem.run_pure]; rfl, by simp only [VRel, goInt, size_bytes]⟩
  · rename_i n e hu
    cases h
    exact ⟨_, by simp only [Builtin.len_, ht, hv, Sem.run_bind, run_underlying hu, Result.andThen_ok, Sem.run_pure]; rfl, by simp only [VRel, goInt]⟩
  · cases h
def ORel (ρ : Rho) (F : Fz) : Option V → Option Value → Prop
  | none, v => v = none
  | some x, v => ∃ u, v = some u ∧ VRel ρ F x u
theorem run_sliceBound (k : IntKind) {n : Int} {y : Nat} (code : BoundsCode) (h0 : 0 ≤ n) (h1 : n ≤ y) (W : World) : (Instr.sliceBound (.int k n) y code).run P W = .ok n.toNat W := by
  simp only [Instr.sliceBound, Sem.run_bind, run_asIntOf, Result.andThen_ok, h0, h1, and_self, if_true, Sem.run_pure]
theorem run_bounds {ρ F W} {b : Bool} {len cap : Nat} {lo hi : Option V} {a : Option Nat} {h : Nat} {c : Bool} (hb : bounds len lo hi = some (c, a, h)) (hc : c = true) {lv hv : Option Value} (h1 : ORel ρ F lo lv) (h2 : ORel ρ F hi hv) (hle : len ≤ cap) :
    (Instr.sliceBounds b len cap lv hv none).run P W = .ok (a.getD 0, h, cap) W ∧ a.getD 0 ≤ h ∧ h ≤ len := by
  unfold bounds at hb
  split at hb
  · simp only [ORel] at h2; subst h2
    split at hb
    · simp only [ORel] at h1; subst h1
      cases hb
      exact ⟨rfl, Nat.zero_le _, Nat.le_refl _⟩
    · rename_i k n
      cases hb
      simp only [ORel, VRel] at h1
      obtain ⟨u, rfl, rfl⟩ := h1
      simp only [Bool.and_eq_true, decide_eq_true_eq] at hc
      refine ⟨?_, by simp only [Option.getD_some]; omega, Nat.le_refl _⟩
      simp only [Instr.sliceBounds, Sem.run_bind, Sem.run_pure, Result.andThen_ok, run_sliceBound k _ hc.1 hc.2, Option.getD_some, Option.isSome_none, Bool.false_eq_true, if_false]
    · cases hb
  · rename_i k2 n2
    simp only [ORel, VRel] at h2
    obtain ⟨u2, rfl, rfl⟩ := h2
    split at hb
    · simp only [ORel] at h1; subst h1
      cases hb
      simp only [Bool.and_eq_true, decide_eq_true_eq] at hc
      refine ⟨?_, Nat.zero_le _, by omega⟩
      have : n2 ≤ (cap : Int) := by omega
      simp only [Instr.sliceBounds, Sem.run_bind, Sem.run_pure, Result.andThen_ok, run_sliceBound k2 _ hc.1 this, Option.getD_none]
    · rename_i k n
      cases hb
      simp only [ORel, VRel] at h1
      obtain ⟨u, rfl, rfl⟩ := h1
      simp only [Bool.and_eq_true, decide_eq_true_eq] at hc
      refine ⟨?_, by simp only [Option.getD_some]; omega, by omega⟩
      have g1 : n2 ≤ (cap : Int) := by omega
      have g2 : n ≤ (n2.toNat : Int) := by omega
      simp only [Instr.sliceBounds, Sem.run_bind, Sem.run_pure, Result.andThen_ok, run_sliceBound k2 _ hc.1.1 g1, run_sliceBound k _ hc.2.1 g2, Option.getD_some, Option.isSome_none, Bool.false_eq_true, if_false]
    · cases hb
  · cases hb
end Go.Mini
end
section
set_option linter.unusedVariables false
set_option linter.unusedSimpArgs false
namespace Go.Mini
open Go.RowKit
variable {P : Program}
theorem cutL_len {α : Type} (l : List α) (a : Option Nat) (h : Nat) (hh : h ≤ l.length) : (cutL l a (some h)).length = h - a.getD 0 := by
  cases a with
  | none => simp only [cutL, List.length_take, Option.getD_none]; omega
  | some a => simp only [cutL, List.length_drop, List.length_take, Option.getD_some]; omega
theorem cutL_get {α : Type} (l : List α) (a : Option Nat) (h : Nat) (i : Nat) (x : α) (hx : (cutL l a (some h))[i]? = some x) : l[a.getD 0 + i]? = some x := by
  cases a with
  | none =>
    simp only [cutL, List.getElem?_take, Option.getD_none, Nat.zero_add] at hx ⊢
    split at hx
    · exact hx
    · cases hx
  | some a =>
    simp only [cutL, List.getElem?_drop, List.getElem?_take, Option.getD_some] at hx ⊢
    split at hx
    · exact hx
    · cases hx
theorem cutL_none {α : Type} (l : List α) (a : Option Nat) : cutL l a none = cutL l a (some l.length) := by
  cases a <;> simp [cutL]
theorem slice_cell {F : Fz} {T : List Ty} {l : List (Ty.R T)} {ad : Addr} {c : Array Value} (hs : ad.spot = none) (h : ∀ i x, l[i]? = some x → RRel F T x (fun k => c[ad.off + i * T.length + k]?)) (a n m : Nat) (hn : n - a ≤ m - a) (r : List (Ty.R T)) (hr : ∀ i x, r[i]? = some x → l[a + i]? = some x) (hrl : r.length = n - a) (hF : F ad.block = some c) :
    r = [] ∨ ∃ ad' c', (if m = a then some ad else (some ad).map (·.add (a * T.length))) = some ad' ∧ ad'.spot = none ∧ F ad'.block = some c' ∧ ∀ i x, r[i]? = some x → RRel F T x (fun k => c'[ad'.off + i * T.length + k]?) := by
  by_cases hm : m = a
  · left
    have : r.length = 0 := by omega
    exact List.eq_nil_of_length_eq_zero this
  · right
    rw [if_neg hm]
    obtain ⟨b, o, sp⟩ := ad
    simp only at hs; subst hs
    refine ⟨⟨b, o + a * T.length, none⟩, c, by simp only [Option.map_some, add_plain], rfl, hF, fun i x hx => ?_⟩
    have := h _ x (hr i x hx)
    simpa only [Nat.add_mul, Nat.add_assoc] using this
theorem slice_run {t e : TypeId} {i : TypeInfo} (hu : P.underlying t = some (.slice e)) (hi : P.info? e = some i) {a : Option Addr} {len cap l h m : Nat} {lv hv mv : Option Value} {W : World}
    (hb : (Instr.sliceBounds true len cap lv hv mv).run P W = .ok (l, h, m) W) :
    (Instr.sliceAt t (.slice a len cap) lv hv mv).run P W = .ok (.slice (if m = l then a else a.map (·.add (l * i.size))) (h - l) (m - l)) W := by
  simp only [Instr.sliceAt, Sem.run_bind, run_underlying hu, Result.andThen_ok, Instr.slice, hb, run_sizeOf hi, Sem.run_pure]
theorem run_bounds3 {ρ F W} {len cap : Nat} {lo hi : Option V} {a : Option Nat} {h : Nat} {m : Int} {km : IntKind} {c : Bool} (hb : bounds len lo hi = some (c, a, h)) (hc : c = true) {lv hv : Option Value} (h1 : ORel ρ F lo lv) (h2 : ORel ρ F hi hv) (hhi : ∃ x, hi = some x) (hm : m = (h : Int)) (hle : len ≤ cap) :
    (Instr.sliceBounds true len cap lv hv (some (.int km m))).run P W = .ok (a.getD 0, h, h) W ∧ a.getD 0 ≤ h ∧ h ≤ len := by
  unfold bounds at hb
  obtain ⟨x, rfl⟩ := hhi
  split at hb
  · rename_i e; cases e
  · rename_i k2 n2 e
    cases e
    simp only [ORel, VRel] at h2
    obtain ⟨u2, rfl, rfl⟩ := h2
    split at hb
    · simp only [ORel] at h1; subst h1
      cases hb
      simp only [Bool.and_eq_true, decide_eq_true_eq] at hc
      have g0 : 0 ≤ m := by omega
      have g1 : m ≤ (cap : Int) := by omega
      have g2 : n2 ≤ (n2.toNat : Int) := by omega
      refine ⟨?_, Nat.zero_le _, by omega⟩
      have g3 : m.toNat = n2.toNat := by omega
      simp only [Instr.sliceBounds, Sem.run_bind, Sem.run_pure, Result.andThen_ok, if_true, run_sliceBound km _ g0 g1, run_sliceBound k2 _ hc.1 g2, Option.getD_none, g3]
    · rename_i k n
      cases hb
      simp only [ORel, VRel] at h1
      obtain ⟨u, rfl, rfl⟩ := h1
      simp only [Bool.and_eq_true, decide_eq_true_eq] at hc
      have g0 : 0 ≤ m := by omega
      have g1 : m ≤ (cap : Int) := by omega
      have g2 : n2 ≤ (n2.toNat : Int) := by omega
      have g4 : n ≤ (n2.toNat : Int) := by omega
      refine ⟨?_, by simp only [Option.getD_some]; omega, by omega⟩
      have g3 : m.toNat = n2.toNat := by omega
      simp only [Instr.sliceBounds, Sem.run_bind, Sem.run_pure, Result.andThen_ok, if_true, run_sliceBound km _ g0 g1, run_sliceBound k2 _ hc.1.1 g2, run_sliceBound k _ hc.2.1 g4, Option.getD_some, Option.isSome_some, g3]
    · cases hb
  · cases hb
theorem own_cut {F : Fz} {ρ : Rho} {m j sz nn w cap : Nat} (h1 : ρ m = some (.lies j sz nn w)) (o a h len : Nat) (hah : a ≤ h) (hl : h ≤ len) (hlen : o + len ≤ nn) (hcap : len ≤ cap) (hfit : (o + cap) * w ≤ sz) :
    VRel ρ F (.ss m (o + a) (h - a)) (.slice (if cap = a then some ⟨j, o * w, none⟩ else (some (⟨j, o * w, none⟩ : Addr)).map (·.add (a * w))) (h - a) (cap - a)) := by
  simp only [VRel]
  by_cases hc : cap = a
  · left
    rw [if_pos hc]
    have e1 : h - a = 0 := by omega
    have e2 : cap - a = 0 := by omega
    rw [e1, e2]
    exact ⟨rfl, _, rfl⟩
  · right
    rw [if_neg hc]
    refine ⟨j, sz, nn, w, cap - a, h1, ?_, by omega, by omega, ?_⟩
    · simp only [Option.map_some, add_plain, Nat.add_mul]
    · have : o + a + (cap - a) = o + cap := by omega
      rw [this]; exact hfit
/-- A cut. -/
theorem run_cut {ρ F H W} (hR : Rel ρ F H W) {t : TypeId} {x y : V} {lo hi mx : Option V} {c : Bool} (h : cutV P H t x lo hi mx = some (c, y)) (hc : c = true) {v : Value} {lv hv mv : Option Value} (hx : VRel ρ F x v)
    (h1 : ORel ρ F lo lv) (h2 : ORel ρ F hi hv) (h3 : ORel ρ F mx mv) (hk : 0 < elemSz P t ∨ P.underlying t = some .string) :
    ∃ u, (Instr.sliceAt t v lv hv mv).run P W = .ok u W ∧ VRel ρ F y u := by
  have hinf : ∀ e, P.underlying t = some (.slice e) → ∃ i, P.info? e = some i ∧ P.cellsOf e = i.size := fun e hu => by
    rcases hk with hk | hk
    · simp only [elemSz, hu] at hk; exact info_of_pos hk
    · rw [hu] at hk; cases hk
  unfold cutV at h
  split at h
  · rename_i T l full
    split at h
    · rename_i e hu
      obtain ⟨i, hi', hs⟩ := hinf e hu
      cases hb : Nat.beq T.length (P.cellsOf e) with
      | false => rw [hb] at h; cases h
      | true =>
        rw [hb, cond_true] at h
        have hw := Nat.eq_of_beq_eq_true hb
        have hlw : i.size = T.length := by omega
        split at h
        case h_2 => cases h
        rename_i c0 a n hbd
        simp only [VRel, DRel] at hx
        obtain ⟨⟨A, cap, rfl, hle, hrows⟩, hfull⟩ := hx
        split at h
        · -- no bounds above
          cases h
          simp only [ORel] at h2 h3; subst h2 h3
          obtain ⟨g1, g2, g3⟩ := run_bounds (P := P) (W := W) (b := true) (cap := cap) hbd hc h1 rfl hle
          refine ⟨_, slice_run hu hi' g1, ?_⟩
          have hn : n = l.length := by
            unfold bounds at hbd
            simp only at hbd
            split at hbd <;> first | (cases hbd; rfl) | cases hbd
          subst hn
          have hlen : (cutL l a none).length = l.length - a.getD 0 := by rw [cutL_none]; exact cutL_len l a _ (Nat.le_refl _)
          simp only [VRel, DRel]
          refine ⟨⟨_, _, by rw [hlw]; exact congrArg (fun z => Value.slice _ z _) hlen.symm, by rw [hlen]; omega, ?_⟩, fun hf => ?_⟩
          · rcases hrows with hr | ⟨ad, ca, rfl, q1, q2, q3⟩
            · left
              have : l = [] := hr
              subst this
              cases a <;> simp [cutL]
            · exact slice_cell q1 q3 (a.getD 0) l.length cap (by omega) _ (fun i x hx => by rw [cutL_none] at hx; exact cutL_get l a _ i x hx) hlen q2
          · obtain ⟨A', n', hA⟩ := hfull hf
            cases hA
            exact ⟨_, _, rfl⟩
        · rename_i hv0
          cases h
          simp only [ORel] at h3; subst h3
          obtain ⟨g1, g2, g3⟩ := run_bounds (P := P) (W := W) (b := true) (cap := cap) hbd hc h1 h2 hle
          refine ⟨_, slice_run hu hi' g1, ?_⟩
          have hlen : (cutL l a (some n)).length = n - a.getD 0 := cutL_len l a n g3
          simp only [VRel, DRel]
          refine ⟨⟨_, _, by rw [hlw]; exact congrArg (fun z => Value.slice _ z _) hlen.symm, by rw [hlen]; omega, ?_⟩, fun hf => ?_⟩
          · rcases hrows with hr | ⟨ad, ca, rfl, q1, q2, q3⟩
            · left
              have : l = [] := hr
              subst this
              cases a <;> simp [cutL]
            · exact slice_cell q1 q3 (a.getD 0) n cap (by omega) _ (fun i x hx => cutL_get l a n i x hx) hlen q2
          · simp only [Bool.and_eq_true] at hf
            obtain ⟨A', n', hA⟩ := hfull hf.1
            cases hA
            have := Nat.eq_of_beq_eq_true hf.2
            subst this
            exact ⟨_, _, rfl⟩
        · rename_i km m hv0
          cases h
          simp only [Bool.and_eq_true, decide_eq_true_eq] at hc
          obtain ⟨hc0, hmh⟩ := hc
          simp only [ORel, VRel] at h3
          obtain ⟨um, rfl, rfl⟩ := h3
          obtain ⟨g1, g2, g3⟩ := run_bounds3 (P := P) (W := W) (km := km) hbd hc0 h1 h2 ⟨_, rfl⟩ hmh hle
          refine ⟨_, slice_run hu hi' g1, ?_⟩
          have hlen : (cutL l a (some n)).length = n - a.getD 0 := cutL_len l a n g3
          simp only [VRel, DRel]
          refine ⟨⟨_, _, by rw [hlw]; exact congrArg (fun z => Value.slice _ z _) hlen.symm, by rw [hlen]; omega, ?_⟩, fun hf => ⟨_, _, rfl⟩⟩
          rcases hrows with hr | ⟨ad, ca, rfl, q1, q2, q3⟩
          · left
            have : l = [] := hr
            subst this
            cases a <;> simp [cutL]
          · exact slice_cell q1 q3 (a.getD 0) n n (by omega) _ (fun i x hx => cutL_get l a n i x hx) hlen q2
        · cases h
    · cases h
  · rename_i m
    split at h
    · rename_i e te T l z hu hg
      obtain ⟨i, hi', hs⟩ := hinf e hu
      cases hb : Nat.beq T.length (P.cellsOf e) with
      | false => rw [hb] at h; cases h
      | true =>
        rw [hb, cond_true] at h
        have hw := Nat.eq_of_beq_eq_true hb
        have hlw : i.size = T.length := by omega
        simp only [ORel] at h3; subst h3
        split at h
        · rename_i c0 a n hbd
          cases h
          simp only [VRel] at hx
          rcases hx with ⟨h4, A, rfl⟩ | ⟨j, sz, n', w, cap, h4, rfl, h5, h6⟩
          · have hl0 : l = [] := by
              have := hR.blk m _ hg
              cases z with
              | false => rcases this.2 with g | ⟨j, c', g, _⟩
                         · exact g.1
                         · rw [h4] at g; cases g
              | true => rcases this.2 with g | ⟨j, c', g, _⟩
                        · exact g.1
                        · rw [h4] at g; cases g
            subst hl0
            obtain ⟨g1, g2, g3⟩ := run_bounds (P := P) (W := W) (b := true) (cap := 0) hbd hc h1 h2 (Nat.le_refl _)
            refine ⟨_, slice_run hu hi' g1, ?_⟩
            simp only [VRel]
            left
            have : n = 0 := by simpa using g3
            subst this
            have ha : a.getD 0 = 0 := by omega
            rw [ha]
            exact ⟨rfl, _, rfl⟩
          · obtain ⟨ca, e', fr, rfl, rfl, rfl, _⟩ := Blk.r_lies (hR.blk m _ hg) hR.fz h4
            obtain ⟨g1, g2, g3⟩ := run_bounds (P := P) (W := W) (b := true) (cap := cap) hbd hc h1 h2 h5
            refine ⟨_, slice_run hu hi' g1, ?_⟩
            rw [hlw]
            have := own_cut (F := F) h4 0 (a.getD 0) n l.length g2 g3 (by omega) h5 (by rw [Nat.zero_add]; exact h6)
            rwa [Nat.zero_add, Nat.zero_mul] at this
        · cases h
    · cases h
  · rename_i m o k
    split at h
    · rename_i e te T l z hu hg
      obtain ⟨i, hi', hs⟩ := hinf e hu
      cases hb : Nat.beq T.length (P.cellsOf e) with
      | false => rw [hb] at h; cases h
      | true =>
        rw [hb, cond_true] at h
        have hw := Nat.eq_of_beq_eq_true hb
        have hlw : i.size = T.length := by omega
        simp only [ORel] at h3; subst h3
        split at h
        · rename_i c0 a n hbd
          cases h
          simp only [VRel] at hx
          rcases hx with ⟨rfl, A, rfl⟩ | ⟨j, sz, n', w, cap, h4, rfl, h5, h6, h7⟩
          · obtain ⟨g1, g2, g3⟩ := run_bounds (P := P) (W := W) (b := true) (cap := 0) hbd hc h1 h2 (Nat.le_refl _)
            refine ⟨_, slice_run hu hi' g1, ?_⟩
            simp only [VRel]
            left
            have : n = 0 := by omega
            subst this
            have ha : a.getD 0 = 0 := by omega
            rw [ha]
            exact ⟨rfl, _, rfl⟩
          · obtain ⟨ca, e', fr, rfl, rfl, rfl, _⟩ := Blk.r_lies (hR.blk m _ hg) hR.fz h4
            obtain ⟨g1, g2, g3⟩ := run_bounds (P := P) (W := W) (b := true) (cap := cap) hbd hc h1 h2 h6
            refine ⟨_, slice_run hu hi' g1, ?_⟩
            rw [hlw]
            exact own_cut (F := F) h4 o (a.getD 0) n k g2 g3 h5 h6 h7
        · cases h
    · cases h
  · rename_i m o
    split at h
    · rename_i k e hu
      cases hb : Nat.ble 2 k with
      | false => rw [hb] at h; cases h
      | true =>
        rw [hb, cond_true] at h
        simp only [ORel] at h3; subst h3
        split at h
        · rename_i c0 a n hbd
          cases h
          have hp : 0 < P.cellsOf e := by
            rcases hk with hk | hk
            · simpa only [elemSz, hu] using hk
            · rw [hu] at hk; cases hk
          obtain ⟨i, hi', hs⟩ := info_of_pos hp
          simp only [VRel] at hx
          obtain ⟨j, sz, n', w, h4, rfl⟩ := hx
          obtain ⟨g1, g2, g3⟩ := run_bounds (P := P) (W := W) (b := false) (cap := k) hbd hc h1 h2 (Nat.le_refl _)
          refine ⟨_, by simp only [Instr.sliceAt, Sem.run_bind, run_underlying hu, Result.andThen_ok, Instr.sureAddr, Sem.run_pure, g1, run_sizeOf hi']; rfl, ?_⟩
          rw [hs]
          simp only [VRel]
          by_cases hka : k = a.getD 0
          · left
            have : n - a.getD 0 = 0 := by omega
            exact ⟨this, _, _, by rw [this]⟩
          · right
            rw [if_neg hka, add_plain]
            exact ⟨j, sz, n', w, _, h4, rfl, by omega⟩
        · cases h
    · cases h
  · rename_i l
    split at h
    · rename_i hu
      simp only [ORel] at h3; subst h3
      split at h
      · rename_i c0 a n hbd
        cases h
        simp only [VRel] at hx; subst hx
        obtain ⟨g1, g2, g3⟩ := run_bounds (P := P) (W := W) (b := false) (cap := l.length) hbd hc h1 h2 (Nat.le_refl _)
        refine ⟨.string ((⟨l.toArray⟩ : ByteArray).extract (a.getD 0) n), ?_, ?_⟩
        · simp only [Instr.sliceAt, Sem.run_bind, run_underlying hu, Result.andThen_ok, Instr.slice, size_bytes, Option.isSome_none, Bool.false_eq_true, if_false, Sem.run_pure, g1]
        · have hext : ((⟨l.toArray⟩ : ByteArray).extract (a.getD 0) n) = ⟨(cutL l a (some n)).toArray⟩ := by
            apply ByteArray.ext
            rw [ByteArray.data_extract]
            apply Array.ext'
            rw [Array.toList_extract]
            cases a with
            | none => simp [cutL, List.extract, List.take_drop]
            | some x =>
              have : x + (n - x) = n := by simp only [Option.getD_some] at g2; omega
              simp [cutL, List.extract, List.take_drop, this]
          simp only [VRel]
          rw [hext]
          cases hi with
          | none =>
            have hn : n = l.length := by
              unfold bounds at hbd
              simp only at hbd
              split at hbd <;> first | (cases hbd; rfl) | cases hbd
            subst hn; simp only [cutL_none]
          | some x => rfl
      · cases h
    · cases h
  · cases h
end Go.Mini
end
section
set_option linter.unusedVariables false
set_option linter.unusedSimpArgs false
namespace Go.Mini
open Go.RowKit
variable {P : Program}
theorem setRow_heapEq {W : World} {g : Nat} {cur : Array Value} {e : TypeId} (hg : W.heap[g]? = some (.cells cur e (0, 0))) (cs : Array Value) : (W.setRow g cs).heap = W.heap.setIfInBounds g (.cells cs e (0, 0)) := by
  simp only [World.setRow]
  apply Array.ext_getElem?
  intro i
  rw [Array.getElem?_modify, Array.getElem?_setIfInBounds]
  by_cases h : g = i
  · subst h
    have hlt := (Array.getElem?_eq_some_iff.1 hg).1
    rw [if_pos rfl, if_pos rfl, if_pos hlt, hg]; rfl
  · rw [if_neg h, if_neg h]
/-- The zero value of a type. -/
theorem zeroCells_rel {ρ F} {t : TypeId} {cs : List V} (h : zeroCells P t = some cs) : ∃ i z, P.info? t = some i ∧ i.zero = some z ∧ VRels ρ F cs z.cells.toList := by
  unfold zeroCells at h
  split at h
  · rename_i z hz
    obtain ⟨i, hi, hz⟩ := Option.bind_eq_some_iff.1 hz
    refine ⟨i, z, hi, hz, ?_⟩
    split at h
    · rename_i v hv
      have hr := asT_rel (P := P) (t := t) (ofVal_rel (ρ := ρ) (F := F) hv)
      have hb : (asT P t v).boxable = true := by
        have hv' : v.boxable = true := by
          unfold ofVal at hv
          split at hv
          · split at hv
            · cases hv; rfl
            · cases hv
          · unfold ofCell at hv
            split at hv <;> first | (cases hv; rfl) | cases hv
        unfold asT
        split
        · split
          · unfold coT; split <;> rfl
          · rfl
        · split <;> rfl
        · exact hv'
      have := VRel.cells hb hr
      split at h
      · rename_i l hl
        cases h
        rw [hl] at this; exact this
      · rename_i hn
        cases h
        cases hx : asT P t v with
        | agg l => exact absurd hx (hn l)
        | _ => rw [hx] at this; exact this
    · split at h
      · cases h
        simp only [VRels, VRel]
        exact ⟨_, _, rfl, trivial, rfl⟩
      · cases h
  · cases h
theorem run_zeroValue {t : TypeId} {i : TypeInfo} {z : Value} (hi : P.info? t = some i) (hz : i.zero = some z) (W : World) : (zeroValue t).run P W = .ok z W := by
  simp only [zeroValue, typeInfo, Sem.run_bind, run_program, Result.andThen_ok, hi, Sem.run_pure, hz]
theorem run_newVar (t : TypeId) (v : Value) (W : World) : (newVar t v).run P W = .ok ⟨W.heap.size, 0, none⟩ (W.alloc (.cells v.cells t)) := rfl
theorem run_alloc {t : TypeId} {i : TypeInfo} {z : Value} (hi : P.info? t = some i) (hz : i.zero = some z) (W : World) : (Instr.alloc t true (.tuple #[])).run P W = .ok (.pointer (some ⟨W.heap.size, 0, none⟩)) (W.alloc (.cells z.cells t)) := by
  simp only [Instr.alloc, Sem.run_bind, run_zeroValue hi hz, Result.andThen_ok, run_newVar, Sem.run_pure]
theorem run_box (t : TypeId) (v : Value) (W : World) : (Instr.box t v).run P W = .ok (.pointer (some ⟨W.heap.size, 0, none⟩)) (W.alloc (.cells v.cells t)) := by
  simp only [Instr.box, Sem.run_bind, run_newVar, Result.andThen_ok, Sem.run_pure]
/-- A variable's new block. -/
theorem Rel.newVar {ρ F H W} (h : Rel ρ F H W) {slot : Nat} (hs : Free H slot) {cs : List V} {c : Array Value} (hc : VRels ρ F cs c.toList) (e : TypeId) :
    ∃ ρ', VRel ρ' F (.p slot 0) (.pointer (some ⟨W.heap.size, 0, none⟩)) ∧ (∀ m L, ρ m = some L → ρ' m = some L) ∧ Rel ρ' F (putAt H slot (.c e cs)) (W.alloc (.cells c e)) ∧ Grew ρ F H W ρ' F (putAt H slot (.c e cs)) (W.alloc (.cells c e)) [] := by
  have hn := Free.none h hs
  have hA : ∀ m L, ρ m = some L → upd ρ slot (.lies W.heap.size c.size 0 0) m = some L := fun m L hm => by
    rw [upd_ne]; exact hm
    intro e'; subst e'; rw [hn] at hm; cases hm
  have hsz : c.size = cs.length := by simpa using hc.length
  have hFn : F W.heap.size = none := by
    cases hF : F W.heap.size with
    | none => rfl
    | some x => have := h.flt hF; omega
  obtain ⟨g1, g2⟩ := h.new hs c e (.c e cs) 0 0 rfl ⟨W.heap.size, 0, 0, c, by rw [upd_self, hsz], heap_alloc_at W _, hFn, VRels.mono (Q := fun _ => True) (fun m L hm _ => hA m L hm) (FLe.refl _) (V.ons_all _) hc⟩
  refine ⟨upd ρ slot (.lies W.heap.size c.size 0 0), ?_, hA, g1, g2⟩
  simp only [VRel]
  exact ⟨W.heap.size, _, _, _, upd_self _ _ _, rfl⟩
/-- A new row of elements. -/
theorem Rel.newRow {ρ F H W} (h : Rel ρ F H W) {slot : Nat} (hs : Free H slot) {T : List Ty} {l : List (Ty.R T)} {c : Array Value} (hT : 0 < T.length) (hc : l.length * T.length ≤ c.size) (hr : RowsRel F T l c 0) (e : TypeId) :
    ∃ ρ', (∀ n cap, n = l.length → n ≤ cap → cap * T.length ≤ c.size → VRel ρ' F (.sl slot) (.slice (some ⟨W.heap.size, 0, none⟩) n cap)) ∧ (∀ m L, ρ m = some L → ρ' m = some L) ∧ Rel ρ' F (putAt H slot (.r e T l false)) (W.alloc (.cells c e)) ∧ Grew ρ F H W ρ' F (putAt H slot (.r e T l false)) (W.alloc (.cells c e)) [] := by
  have hn := Free.none h hs
  have hA : ∀ m L, ρ m = some L → upd ρ slot (.lies W.heap.size c.size l.length T.length) m = some L := fun m L hm => by
    rw [upd_ne]; exact hm
    intro e'; subst e'; rw [hn] at hm; cases hm
  have hFn : F W.heap.size = none := by
    cases hF : F W.heap.size with
    | none => rfl
    | some x => have := h.flt hF; omega
  obtain ⟨g1, g2⟩ := h.new hs c e (.r e T l false) l.length T.length rfl ⟨hT, .inr ⟨W.heap.size, c, by rw [upd_self], heap_alloc_at W _, hFn, hc, hr⟩⟩
  refine ⟨upd ρ slot (.lies W.heap.size c.size l.length T.length), fun n cap hn' h1 h2 => ?_, hA, g1, g2⟩
  simp only [VRel]
  exact .inr ⟨W.heap.size, _, _, _, cap, upd_self _ _ _, by rw [hn'], by omega, h2⟩
theorem setCs_length (vs : List V) : ∀ (cs : List V) (off : Nat), (setCs cs off vs).length = cs.length := by
  induction vs with
  | nil => intro cs off; rfl
  | cons v vs ih => intro cs off; simp only [setCs, ih, List.length_set]
theorem setCs_rel {ρ F} : ∀ {vs : List V} {ws : List Value} {cs : List V} {xs : List Value} {off : Nat}, VRels ρ F vs ws → VRels ρ F cs xs → off + vs.length ≤ cs.length → VRels ρ F (setCs cs off vs) (xs.take off ++ ws ++ xs.drop (off + ws.length))
  | [], ws, cs, xs, off, h, hc, hl => by
    simp only [VRels] at h; subst h
    simpa [setCs] using hc
  | v :: vs, ws, cs, xs, off, h, hc, hl => by
    have h0 := h
    simp only [VRels] at h
    obtain ⟨w, r, rfl, h1, h2⟩ := h
    have hx := hc.length
    simp only [setCs]
    have hlt : off < xs.length := by simp at hl; omega
    have := setCs_rel (off := off + 1) h2 (VRels.set hc (k := off) h1) (by rw [List.length_set]; simp at hl; omega)
    have e1 : (xs.set off w).take (off + 1) = xs.take off ++ [w] := by
      rw [List.take_succ_eq_append_getElem (by rw [List.length_set]; exact hlt)]
      simp [List.take_set_of_le]
    have e2 : (xs.set off w).drop (off + 1 + r.length) = xs.drop (off + 1 + r.length) := by
      rw [List.drop_set_of_lt (by omega)]
    rw [e1, e2] at this
    have e3 : xs.take off ++ (w :: r) ++ xs.drop (off + (w :: r).length) = xs.take off ++ [w] ++ r ++ xs.drop (off + 1 + r.length) := by
      have : off + (w :: r).length = off + 1 + r.length := by simp only [List.length_cons]; omega
      rw [this]; simp
    rw [e3]; exact this
end Go.Mini
end
section
set_option linter.unusedVariables false
set_option linter.unusedSimpArgs false
namespace Go.Mini
open Go.RowKit
variable {P : Program}
theorem hget_hset' {H : Heap} {m : Nat} {b b' : Blk} (hg : hget H m = some b) (k : Nat) : hget (hset H m b') k = if k = m then some b' else hget H k := by
  rw [hget_hset, if_pos (hget_lt hg)]
  by_cases hk : m = k
  · subst hk; simp
  · rw [if_neg hk, if_neg (fun e => hk e.symm)]
def fupd (F : Fz) (j : Nat) (c : Array Value) : Fz := fun k => if k = j then some c else F k
theorem fupd_le {F : Fz} {j : Nat} {c : Array Value} (h : F j = none) : FLe F (fupd F j c) := fun k x hk => by
  unfold fupd
  by_cases e : k = j
  · subst e; rw [h] at hk; cases hk
  · rw [if_neg e]; exact hk
/-- A row is given up: nobody writes it any more. -/
theorem Rel.freeze {ρ F H W} (h : Rel ρ F H W) {m : Nat} {te : TypeId} {T : List Ty} {l : List (Ty.R T)} {z : Bool} (hg : hget H m = some (.r te T l z)) :
    ∃ F', FLe F F' ∧ Rel ρ F' (hset H m (.r te T l true)) W ∧ Grew ρ F H W ρ F' (hset H m (.r te T l true)) W [] ∧
      (∀ v, VRel ρ F (.sl m) v → VRel ρ F' (.ls T l false) v) ∧ (∀ o n v, VRel ρ F (.ss m o n) v → VRel ρ F' (.ls T ((l.drop o).take n) false) v) := by
  have hb := h.blk m _ hg
  have hget' := fun k => hget_hset' (b' := .r te T l true) hg k
  have hlen : hlen (hset H m (.r te T l true)) = hlen H := hlen_hset _ _ _
  have howns : ∀ j', Own ρ (hset H m (.r te T l true)) j' → Own ρ H j' := by
    rintro j' ⟨k, x, s', n', w', h1, h2, h3⟩
    rw [hget'] at h1
    by_cases hk : k = m
    · subst hk; rw [if_pos rfl] at h1; cases h1; cases h2
    · rw [if_neg hk] at h1; exact ⟨k, x, s', n', w', h1, h2, h3⟩
  have hinj : ∀ k k' x x' j s n w s' n' w', hget (hset H m (.r te T l true)) k = some x → x.own = true → hget (hset H m (.r te T l true)) k' = some x' → x'.own = true → ρ k = some (.lies j s n w) → ρ k' = some (.lies j s' n' w') → k = k' := by
    intro k k' x x' j s n w s' n' w' h1 o1 h2 o2 r1 r2
    rw [hget'] at h1 h2
    have e1 : k ≠ m := fun e => by subst e; rw [if_pos rfl] at h1; cases h1; cases o1
    have e2 : k' ≠ m := fun e => by subst e; rw [if_pos rfl] at h2; cases h2; cases o2
    rw [if_neg e1] at h1; rw [if_neg e2] at h2
    exact h.inj k k' x x' j _ _ _ _ _ _ h1 o1 h2 o2 r1 r2
  -- where it lies, and the new F
  have key : ∃ F', FLe F F' ∧ (∀ j, F j = none → F' j ≠ none → Own ρ H j) ∧ BRel ρ F' W m (.r te T l true) ∧ (∀ j c, F' j = some c → ∃ e fr, W.heap[j]? = some (.cells c e fr)) ∧ (∀ j, F j = none → F' j ≠ none → ∃ s n w, ρ m = some (.lies j s n w) ∧ z = false) := by
    cases z with
    | true => exact ⟨F, FLe.refl _, fun _ a b => absurd a b, hb, h.fz, fun _ a b => absurd a b⟩
    | false =>
      rcases hb.2 with ⟨hl, hr⟩ | ⟨j, c, hr, hw, hF, hsz, hrow⟩
      · exact ⟨F, FLe.refl _, fun _ a b => absurd a b, ⟨hb.1, .inl ⟨hl, hr⟩⟩, h.fz, fun _ a b => absurd a b⟩
      · refine ⟨fupd F j c, fupd_le hF, fun k hk hk' => ?_, ⟨hb.1, .inr ⟨j, c, hr, by simp [fupd], hsz, hrow.mono (fupd_le hF)⟩⟩, fun k c' hk => ?_, fun k hk hk' => ?_⟩
        · have : k = j := by
            by_cases e : k = j
            · exact e
            · rw [fupd, if_neg e] at hk'; exact absurd hk hk'
          subst this; exact ⟨m, _, _, _, _, hg, rfl, hr⟩
        · by_cases e' : k = j
          · subst e'; rw [fupd, if_pos rfl] at hk; cases hk; exact ⟨te, _, hw⟩
          · rw [fupd, if_neg e'] at hk; exact h.fz k c' hk
        · have : k = j := by
            by_cases e : k = j
            · exact e
            · rw [fupd, if_neg e] at hk'; exact absurd hk hk'
          subst this; exact ⟨_, _, _, hr, rfl⟩
  obtain ⟨F', hle, hnew, hbm, hfz, hat⟩ := key
  have hrel : Rel ρ F' (hset H m (.r te T l true)) W := by
    refine ⟨fun k x hx => ?_, fun k L hk => by rw [hlen]; exact h.dom k L hk, hinj, hfz⟩
    rw [hget'] at hx
    by_cases hk : k = m
    · subst hk; rw [if_pos rfl] at hx; cases hx; exact hbm
    · rw [if_neg hk] at hx
      by_cases hd : x = .dead
      · subst hd; exact h.blk k _ hx
      · refine (h.blk k x hx).mono hd (fun _ _ a => a) hle (fun j ho ⟨s, n, w, hr⟩ hj => ?_) (fun _ _ _ => rfl)
        by_cases hn : F' j = none
        · exact hn
        · obtain ⟨s', n', w', hr', hz⟩ := hat j hj hn
          subst hz
          exact absurd (h.inj k m x _ j _ _ _ _ _ _ hx ho hg rfl hr hr') hk
  refine ⟨F', hle, hrel, ⟨fun _ _ a _ => a, by rw [hlen]; exact Nat.le_refl _, hle, fun j a b => .inl (hnew j a b), fun _ _ _ => rfl, fun j a => .inl (howns j a), Nat.le_refl _, rfl, rfl, rfl⟩, fun v hv => ?_, fun o n v hv => ?_⟩
  · simp only [VRel] at hv ⊢
    refine ⟨?_, fun e => by cases e⟩
    simp only [DRel]
    rcases hv with ⟨h1, a, rfl⟩ | ⟨j, sz, n, w, cap, h1, rfl, h3, h4⟩
    · have hl : l = [] := by
        rcases hbm.2 with g | ⟨j, c, g, _⟩
        · exact g.1
        · rw [h1] at g; cases g
      subst hl
      exact ⟨a, 0, rfl, Nat.le_refl _, .inl rfl⟩
    · rcases hbm.2 with g | ⟨j', c, g, g2, g3, g4⟩
      · rw [h1] at g; cases g.2
      · rw [h1] at g; cases g
        refine ⟨_, cap, rfl, h3, .inr ⟨⟨j, 0, none⟩, c, rfl, rfl, g2, fun i x hx => ?_⟩⟩
        exact g4 i x hx
  · simp only [VRel] at hv ⊢
    refine ⟨?_, fun e => by cases e⟩
    simp only [DRel]
    rcases hv with ⟨rfl, a, rfl⟩ | ⟨j, sz, n', w, cap, h1, rfl, h3, h4, h5⟩
    · exact ⟨a, 0, by simp, by simp, .inl (by simp)⟩
    · rcases hbm.2 with g | ⟨j', c, g, g2, g3, g4⟩
      · rw [h1] at g; cases g.2
      · rw [h1] at g; cases g
        have hl : ((l.drop o).take n).length = n := by rw [List.length_take, List.length_drop]; omega
        refine ⟨_, cap, by rw [hl], by rw [hl]; exact h4, .inr ⟨⟨j, o * T.length, none⟩, c, rfl, rfl, g2, fun i x hx => ?_⟩⟩
        have hx' : l[o + i]? = some x := by
          have hx2 : ((l.drop o).take n)[i]? = some x := hx
          rw [List.getElem?_take] at hx2
          split at hx2
          · rwa [List.getElem?_drop] at hx2
          · cases hx2
        have := g4 _ x hx'
        simpa only [Nat.zero_add, Nat.add_mul] using this
mutual
theorem frz_rel {ρ F H W} (h : Rel ρ F H W) : ∀ {v v' : V} {H' : Heap} {x : Value}, v.frz H = some (v', H') → VRel ρ F v x → ∃ F', FLe F F' ∧ v'.closed = true ∧ VRel ρ F' v' x ∧ Rel ρ F' H' W ∧ Grew ρ F H W ρ F' H' W []
  | .sl j, v', H', x, hf, hx => by
    simp only [V.frz] at hf
    split at hf
    · rename_i T l z hg
      cases hf
      obtain ⟨F', h1, h2, h3, h4, h5⟩ := h.freeze hg
      exact ⟨F', h1, rfl, h4 _ hx, h2, h3⟩
    · cases hf
  | .ss j o n, v', H', x, hf, hx => by
    simp only [V.frz] at hf
    split at hf
    · rename_i T l z hg
      cases hf
      obtain ⟨F', h1, h2, h3, h4, h5⟩ := h.freeze hg
      exact ⟨F', h1, rfl, h5 _ _ _ hx, h2, h3⟩
    · cases hf
  | .agg l, v', H', x, hf, hx => by
    simp only [V.frz] at hf
    split at hf
    · rename_i l' H1 hl
      cases hf
      simp only [VRel] at hx
      obtain ⟨a, rfl, hx⟩ := hx
      obtain ⟨F', h1, h2, h3, h4, h5⟩ := frzs_rel h hl hx
      exact ⟨F', h1, by simp only [V.closed]; exact h2, by simp only [VRel]; exact ⟨a, rfl, h3⟩, h4, h5⟩
    · cases hf
  | .tup l, v', H', x, hf, hx => by
    simp only [V.frz] at hf
    split at hf
    · rename_i l' H1 hl
      cases hf
      simp only [VRel] at hx
      obtain ⟨a, rfl, hx⟩ := hx
      obtain ⟨F', h1, h2, h3, h4, h5⟩ := frzs_rel h hl hx
      exact ⟨F', h1, by simp only [V.closed]; exact h2, by simp only [VRel]; exact ⟨a, rfl, h3⟩, h4, h5⟩
    · cases hf
  | .u, v', H', x, hf, hx | .b _, v', H', x, hf, hx | .i _ _, v', H', x, hf, hx | .s _, v', H', x, hf, hx | .np, v', H', x, hf, hx | .nil, v', H', x, hf, hx | .pe _ _ _, v', H', x, hf, hx | .ls _ _ _, v', H', x, hf, hx => by
    simp only [V.frz, V.closed, cond_true] at hf
    cases hf
    exact ⟨F, FLe.refl _, rfl, hx, h, Grew.refl _ _ _ _ _⟩
  | .p _ _, v', H', x, hf, hx | .pr _ _ _, v', H', x, hf, hx | .sc _ _ _ _, v', H', x, hf, hx => by
    simp only [V.frz, V.closed, cond_false] at hf
    cases hf
  | .fn f a b, v', H', x, hf, hx => by
    simp only [V.frz] at hf
    cases hc : (V.fn f a b).closed with
    | false => rw [hc] at hf; cases hf
    | true => rw [hc, cond_true] at hf; cases hf; exact ⟨F, FLe.refl _, hc, hx, h, Grew.refl _ _ _ _ _⟩
theorem frzs_rel {ρ F H W} (h : Rel ρ F H W) : ∀ {l l' : List V} {H' : Heap} {xs : List Value}, V.frzs l H = some (l', H') → VRels ρ F l xs → ∃ F', FLe F F' ∧ V.closeds l' = true ∧ VRels ρ F' l' xs ∧ Rel ρ F' H' W ∧ Grew ρ F H W ρ F' H' W []
  | [], l', H', xs, hf, hx => by
    simp only [V.frzs] at hf; cases hf
    exact ⟨F, FLe.refl _, rfl, hx, h, Grew.refl _ _ _ _ _⟩
  | v :: l, l', H', xs, hf, hx => by
    simp only [V.frzs] at hf
    simp only [VRels] at hx
    obtain ⟨x, r, rfl, h1, h2⟩ := hx
    split at hf
    · rename_i v1 H1 hv
      split at hf
      · rename_i l1 H2 hl
        cases hf
        obtain ⟨F1, a1, a2, a3, a4, a5⟩ := frz_rel h hv h1
        obtain ⟨F2, b1, b2, b3, b4, b5⟩ := frzs_rel a4 hl (VRels.mono (Q := fun _ => True) (fun _ _ a _ => a) a1 (V.ons_all _) h2)
        refine ⟨F2, a1.trans b1, by simp only [V.closeds, a2, b2, Bool.and_self], ?_, b4, a5.trans b5 (fun _ a _ => a) (fun _ a _ => a) h.dom⟩
        simp only [VRels]
        exact ⟨x, r, rfl, VRel.mono (Q := fun _ => True) (fun _ _ a _ => a) b1 (V.on_all _) a3, b3⟩
      · cases hf
    · cases hf
end
end Go.Mini
end
section
set_option linter.unusedVariables false
set_option linter.unusedSimpArgs false
namespace Go.Mini
open Go.RowKit
variable {P : Program}
/-- A value kept as_ typed data. -/
theorem toD_rel {ρ F} : ∀ {t : Ty} {v : V} {d : t.D} {x : Value}, toD t v = some d → VRel ρ F v x → DRel F t d x
  | .i k, v, d, x, h, hx => by
    cases v <;> simp only [toD] at h <;> try cases h
    split at h
    · rename_i hk; subst hk; cases h; simp only [VRel] at hx; simpa only [DRel] using hx
    · cases h
  | .b, v, d, x, h, hx => by
    cases v <;> simp only [toD] at h <;> try cases h
    simp only [VRel] at hx; simpa only [DRel] using hx
  | .s, v, d, x, h, hx => by
    cases v <;> simp only [toD] at h <;> try cases h
    simp only [VRel] at hx; simpa only [DRel] using hx
  | .sl r, v, d, x, h, hx => by
    cases v <;> simp only [toD] at h <;> try cases h
    case nil =>
      simp only [VRel] at hx; subst hx
      simp only [DRel]
      exact ⟨none, 0, rfl, Nat.le_refl _, Or.inl trivial⟩
    case ls T l full =>
      split at h
      · rename_i hT
        cases h
        have := Ty.beqs_eq hT
        subst this
        simp only [VRel] at hx
        exact hx.1
      · cases h
theorem toR_rel {ρ F} : ∀ {T : List Ty} {vs : List V} {r : Ty.R T} {xs : List Value}, toR T vs = some r → VRels ρ F vs xs → RRel F T r (fun k => xs[k]?)
  | [], vs, r, xs, h, hx => by simp only [RRel]
  | t :: T, [], r, xs, h, hx => by simp only [toR] at h; cases h
  | t :: T, v :: vs, r, xs, h, hx => by
    simp only [toR] at h
    split at h
    · rename_i a b ha hb
      cases h
      simp only [VRels] at hx
      obtain ⟨x, ys, rfl, h1, h2⟩ := hx
      simp only [RRel]
      exact ⟨⟨x, rfl, toD_rel ha h1⟩, by simpa using toR_rel hb h2⟩
    · cases h
theorem RRel.congr {F : Fz} : ∀ {T : List Ty} {r : Ty.R T} {g g' : Nat → Option Value}, RRel F T r g → (∀ k, k < T.length → g k = g' k) → RRel F T r g'
  | [], _, _, _, _, _ => by simp only [RRel]
  | t :: T, r, g, g', h, hg => by
    simp only [RRel] at h ⊢
    obtain ⟨⟨x, h1, h2⟩, h3⟩ := h
    exact ⟨⟨x, by rw [← hg 0 (by simp)]; exact h1, h2⟩, RRel.congr h3 (fun k hk => hg (k + 1) (by simpa using hk))⟩
theorem toR_length : ∀ {T : List Ty} {vs : List V} {r : Ty.R T}, toR T vs = some r → vs.length = T.length
  | [], [], _, _ => rfl
  | [], _ :: _, _, h => by simp only [toR] at h; cases h
  | _ :: _, [], _, h => by simp only [toR] at h; cases h
  | t :: T, v :: vs, r, h => by
    simp only [toR] at h
    split at h
    · rename_i a b ha hb; simp [toR_length hb]
    · cases h
theorem setR_rel {ρ F} : ∀ {T : List Ty} {r r' : Ty.R T} {n : Nat} {v : V} {x : Value} {g g' : Nat → Option Value}, setR T r n v = some r' → VRel ρ F v x → RRel F T r g → (∀ k, k ≠ n → g' k = g k) → g' n = some x → RRel F T r' g'
  | [], _, _, _, _, _, _, _, h, _, _, _, _ => by simp only [setR] at h; cases h
  | t :: T, r, r', 0, v, x, g, g', h, hx, hr, h1, h2 => by
    simp only [setR] at h
    split at h
    · rename_i y hy
      cases h
      simp only [RRel] at hr ⊢
      exact ⟨⟨x, h2, toD_rel hy hx⟩, RRel.congr hr.2 (fun k _ => (h1 (k + 1) (by omega)).symm)⟩
    · cases h
  | t :: T, r, r', n + 1, v, x, g, g', h, hx, hr, h1, h2 => by
    simp only [setR] at h
    split at h
    · rename_i y hy
      cases h
      simp only [RRel] at hr ⊢
      obtain ⟨⟨z, a1, a2⟩, a3⟩ := hr
      exact ⟨⟨z, by rw [h1 0 (by omega)]; exact a1, a2⟩, setR_rel hy hx a3 (fun k hk => h1 (k + 1) (by omega)) h2⟩
    · cases h
theorem setRs_rel {ρ F} {T : List Ty} : ∀ {vs : List V} {ws : List Value} {r r' : Ty.R T} {off : Nat} {g g' : Nat → Option Value}, setRs T r off vs = some r' → VRels ρ F vs ws → RRel F T r g →
    (∀ k, k < off ∨ off + ws.length ≤ k → g' k = g k) → (∀ j u, ws[j]? = some u → g' (off + j) = some u) → RRel F T r' g'
  | [], ws, r, r', off, g, g', h, hx, hr, h1, h2 => by
    simp only [setRs, Option.some.injEq] at h; subst h
    simp only [VRels] at hx; subst hx
    exact RRel.congr hr (fun k _ => (h1 k (by simp; omega)).symm)
  | v :: vs, ws, r, r', off, g, g', h, hx, hr, h1, h2 => by
    simp only [setRs] at h
    simp only [VRels] at hx
    obtain ⟨w, ws, rfl, hx1, hx2⟩ := hx
    split at h
    · rename_i y hy
      have hy' : RRel F T y (fun k => if k = off then some w else g k) := setR_rel hy hx1 hr (fun k hk => if_neg hk) (if_pos rfl)
      refine setRs_rel h hx2 hy' (fun k hk => ?_) (fun j u hj => ?_)
      · by_cases e : k = off
        · subst e; rw [if_pos rfl]; exact h2 0 w rfl
        · rw [if_neg e]; exact h1 k (by simp; omega)
      · have := h2 (j + 1) u (by simpa using hj)
        rwa [show off + (j + 1) = off + 1 + j by omega] at this
    · cases h
theorem splice_get (c ws : List Value) (o k : Nat) (h : o + ws.length ≤ c.length) : ((c.take o ++ ws ++ c.drop (o + ws.length)).toArray)[k]? = if k < o then c[k]? else if k < o + ws.length then ws[k - o]? else c[k]? := by
  rw [List.getElem?_toArray, List.append_assoc, List.getElem?_append, List.length_take, Nat.min_eq_left (by omega)]
  split
  · rw [List.getElem?_take, if_pos (by assumption)]
  · rw [List.getElem?_append]
    by_cases h2 : k < o + ws.length
    · rw [if_pos (by omega), if_pos h2]
    · rw [if_neg (by omega), if_neg h2, List.getElem?_drop]
      congr 1; omega
/-- Cells are written. -/
theorem writeAt_rel {ρ F H W} (h : Rel ρ F H W) {x : V} {v : Value} {vs : List V} {c : Bool} {H' : Heap} {m : Nat} (hw : writeAt H x vs = some (c, H', m)) (hc : c = true) (hx : VRel ρ F x v) {ws : List Value} (hv : VRels ρ F vs ws) (h1 : ∀ u ∈ ws, u.oneCell' = true) :
    ∃ ad W', v = .pointer (some ad) ∧ (storeCells ad ws).run P W = .ok () W' ∧ Rel ρ F H' W' ∧ Grew ρ F H W ρ F H' W' [] := by
  have hws := hv.length
  unfold writeAt at hw
  split at hw
  · rename_i m' off
    split at hw
    · rename_i te cs hg
      cases hb : Nat.ble (off + vs.length) cs.length with
      | false => rw [hb] at hw; cases hw
      | true =>
        rw [hb, cond_true] at hw; cases hw
        have hle : off + vs.length ≤ cs.length := Nat.le_of_ble_eq_true hb
        simp only [VRel] at hx
        obtain ⟨j, sz, n', w', hr, rfl⟩ := hx
        obtain ⟨j', n2, w2, ca, g1, g2, g3, g4⟩ := h.blk _ _ hg
        rw [hr] at g1; cases g1
        have hcs := g4.length
        have hst := run_storeCells_at (P := P) j off te ws 0 ca W g2 (by simp only [Array.length_toList] at hcs; omega) h1
        simp only [Nat.add_zero] at hst
        have hca : ca.size = cs.length := by simpa using hcs
        obtain ⟨k1, k2⟩ := h.write (b' := .c te (setCs cs off vs)) hg rfl rfl hr te _ (W.setRow j (ca.toList.take off ++ ws ++ ca.toList.drop (off + ws.length)).toArray) (setRow_heapEq g2 _) rfl rfl rfl (fun q1 q2 => ⟨j, _, _, _, by rw [setCs_length]; exact hr, q1, q2, setCs_rel hv g4 hle⟩)
        exact ⟨_, _, rfl, hst, k1, k2⟩
    · cases hw
  · rename_i m' row off
    split at hw
    · rename_i te T l hg
      cases hb : Nat.ble (off + vs.length) T.length with
      | false => rw [hb] at hw; cases hw
      | true =>
      rw [hb, cond_true] at hw
      have hle : off + vs.length ≤ T.length := Nat.le_of_ble_eq_true hb
      split at hw
      · rename_i y hy
        cases hw
        have hrow : row < l.length := by simpa using hc
        simp only [VRel] at hx
        obtain ⟨j, sz, n', w', hr, rfl⟩ := hx
        rcases h.blk _ _ hg with ⟨hT, ⟨g, g'⟩ | ⟨j', ca, g1, g2, g3, g4, g5⟩⟩
        · rw [hr] at g'; cases g'
        · rw [hr] at g1; cases g1
          have hmul : (row + 1) * T.length ≤ ca.size := Nat.le_trans (Nat.mul_le_mul_right _ hrow) g4
          rw [Nat.add_mul, Nat.one_mul] at hmul
          have hfit : row * T.length + off + ws.length ≤ ca.size := by omega
          have hst := run_storeCells_at (P := P) j (row * T.length + off) te ws 0 ca W g2 (by simpa using hfit) h1
          simp only [Nat.add_zero] at hst
          have hsize : ((ca.toList.take (row * T.length + off) ++ ws ++ ca.toList.drop (row * T.length + off + ws.length)).toArray).size = ca.size := by
            simp only [List.size_toArray, List.length_append, List.length_take, List.length_drop, Array.length_toList]; omega
          have hrows : RowsRel F T (l.set row y) (ca.toList.take (row * T.length + off) ++ ws ++ ca.toList.drop (row * T.length + off + ws.length)).toArray 0 := by
            intro i z hz
            have hget := fun k => splice_get ca.toList ws (row * T.length + off) k (by simpa using hfit)
            have hold : ∀ i, i < l.length → ∀ k, k < T.length → i ≠ row → ((ca.toList.take (row * T.length + off) ++ ws ++ ca.toList.drop (row * T.length + off + ws.length)).toArray)[0 + i * T.length + k]? = ca[0 + i * T.length + k]? := by
              intro i hi k hk hne
              rw [hget]
              rcases Nat.lt_or_gt_of_ne hne with hlt | hgt
              · have : (i + 1) * T.length ≤ row * T.length := Nat.mul_le_mul_right _ hlt
                rw [Nat.add_mul, Nat.one_mul] at this
                rw [if_pos (by omega), Array.getElem?_toList]
              · have : (row + 1) * T.length ≤ i * T.length := Nat.mul_le_mul_right _ hgt
                rw [Nat.add_mul, Nat.one_mul] at this
                rw [if_neg (by omega), if_neg (by omega), Array.getElem?_toList]
            have hil : i < l.length := by
              have := (List.getElem?_eq_some_iff.1 hz).1
              rwa [List.length_set] at this
            by_cases hir : i = row
            · subst hir
              have : z = y := by
                rw [List.getElem?_set_self hil] at hz; exact (Option.some.inj hz).symm
              subst this
              refine setRs_rel hy hv (g5 i _ (getD_rel hrow)) (fun k hk => ?_) (fun q u hq => ?_)
              · rw [hget]
                rcases hk with hk | hk
                · rw [if_pos (by omega), Array.getElem?_toList]
                · rw [if_neg (by omega), if_neg (by omega), Array.getElem?_toList]
              · have hqlt := (List.getElem?_eq_some_iff.1 hq).1
                rw [hget, if_neg (by omega), if_pos (by omega), ← hq]
                congr 1; omega
            · rw [List.getElem?_set_ne (fun e => hir e.symm)] at hz
              exact RRel.congr (g5 i z hz) (fun k hk => (hold i hil k hk hir).symm)
          obtain ⟨k1, k2⟩ := h.write (b' := .r te T (l.set row y) false) hg rfl rfl hr te _ (W.setRow j (ca.toList.take (row * T.length + off) ++ ws ++ ca.toList.drop (row * T.length + off + ws.length)).toArray) (setRow_heapEq g2 _) rfl rfl rfl (fun q1 q2 => ⟨hT, .inr ⟨j, _, by rw [hsize, List.length_set]; exact hr, q1, q2, by rw [hsize, List.length_set]; exact g4, hrows⟩⟩)
          exact ⟨_, _, rfl, hst, k1, k2⟩
      · cases hw
    · cases hw
  · cases hw
end Go.Mini
end
section
set_option linter.unusedVariables false
set_option linter.unusedSimpArgs false
namespace Go.Mini
open Go.RowKit
variable {P : Program}
/-- Parts of a literal. -/
def PRel (ρ : Rho) (F : Fz) : List (Nat × V) → List (Nat × Value) → Prop
  | [], ps => ps = []
  | e :: r, ps => ∃ v q, ps = (e.1, v) :: q ∧ VRel ρ F e.2 v ∧ PRel ρ F r q
theorem partsV_rel {ρ F get a t} (h : GetRel ρ F get a) : ∀ {ps : List (Nat × Operand)} {vs : List (Nat × V)}, partsV P get t ps = some vs → PRel ρ F vs (ps.map fun p => (p.1, a.eval p.2))
  | [], vs, hp => by simp only [partsV, Option.some.injEq] at hp; subst hp; simp [PRel]
  | (j, x) :: ps, vs, hp => by
    simp only [partsV] at hp
    split at hp
    · rename_i v ws hv hws
      cases hp
      simp only [List.map_cons, PRel]
      exact ⟨_, _, rfl, asT_rel (h _ _ hv), partsV_rel h hws⟩
    · cases hp
theorem foldl_set (off : Nat) : ∀ (l : List Value) (i : Nat) (a : Array Value), off + i + l.length ≤ a.size → ((l.zipIdx i).foldl (fun cs (p : Value × Nat) => cs.setIfInBounds (off + p.2) p.1) a).toList = a.toList.take (off + i) ++ l ++ a.toList.drop (off + i + l.length)
  | [], i, a, h => by simp
  | x :: l, i, a, h => by
    simp only [List.zipIdx_cons, List.foldl_cons]
    have hlt : off + i < a.toList.length := by simp at h ⊢; omega
    rw [foldl_set off l (i + 1) _ (by rw [Array.size_setIfInBounds]; simp at h; omega)]
    rw [Array.toList_setIfInBounds]
    have e1 : (a.toList.set (off + i) x).take (off + (i + 1)) = a.toList.take (off + i) ++ [x] := by
      rw [← Nat.add_assoc, List.take_succ_eq_append_getElem (by rw [List.length_set]; exact hlt)]
      simp [List.take_set_of_le]
    have e2 : (a.toList.set (off + i) x).drop (off + (i + 1) + l.length) = a.toList.drop (off + (i + 1) + l.length) := by
      rw [List.drop_set_of_lt (by omega)]
    rw [e1, e2]
    have : off + i + (x :: l).length = off + (i + 1) + l.length := by simp only [List.length_cons]; omega
    rw [this]; simp
theorem fill_rel {ρ F} {place : Nat → Option (Nat × Nat)} : ∀ {ps : List (Nat × V)} {qs : List (Nat × Value)} {cs r : List V} {a : Array Value}, setParts cs place ps = some r → (∀ e ∈ ps, e.2.boxable = true) → PRel ρ F ps qs → VRels ρ F cs a.toList →
    ∃ a', Instr.fill place a qs = some a' ∧ VRels ρ F r a'.toList
  | [], qs, cs, r, a, h, hb, hp, hc => by
    simp only [setParts, Option.some.injEq] at h; subst h
    simp only [PRel] at hp; subst hp
    exact ⟨a, rfl, hc⟩
  | (j, v) :: ps, qs, cs, r, a, h, hb, hp, hc => by
    simp only [PRel] at hp
    obtain ⟨x, q, rfl, h1, h2⟩ := hp
    simp only [setParts] at h
    split at h
    · rename_i off n hpl
      cases hok : Nat.beq v.cells.length n && Nat.ble (off + n) cs.length with
      | false => rw [hok] at h; cases h
      | true =>
        rw [hok, cond_true] at h
        simp only [Bool.and_eq_true] at hok
        have hn := Nat.eq_of_beq_eq_true hok.1
        have hle : off + n ≤ cs.length := Nat.le_of_ble_eq_true hok.2
        have hx := VRel.cells (hb (j, v) (by simp)) h1
        have hxl := hx.length
        have hcl := hc.length
        have hsz : x.cells.size = n := by rw [← hn, ← hxl]; simp
        have hcs : a.size = cs.length := by simpa using hcl
        have hfold : (x.cells.zipIdx.foldl (fun cs (p : Value × Nat) => cs.setIfInBounds (off + p.2) p.1) a).toList = a.toList.take off ++ x.cells.toList ++ a.toList.drop (off + x.cells.toList.length) := by
          rw [← Array.foldl_toList, Array.toList_zipIdx]
          have := foldl_set off x.cells.toList 0 a (by simp; omega)
          simpa using this
        have hr := setCs_rel hx hc (by rw [hn]; exact hle)
        rw [← hfold] at hr
        obtain ⟨a', g1, g2⟩ := fill_rel h (fun e he => hb e (by simp [he])) h2 hr
        refine ⟨a', ?_, g2⟩
        simp only [Instr.fill, hpl]
        rw [if_neg]
        · exact g1
        · simp only [hsz, ne_eq, not_true_eq_false, decide_false, Bool.false_or, decide_eq_true_eq, Bool.or_eq_true]
          omega
    · cases h
theorem boxAll_mem : ∀ {ps : List (Nat × V)}, boxAll ps = true → ∀ e ∈ ps, e.2.boxable = true
  | [], _, _, h => by cases h
  | e :: r, h, x, hx => by
    simp only [boxAll, Bool.and_eq_true] at h
    rcases List.mem_cons.1 hx with rfl | hx
    · exact h.1
    · exact boxAll_mem h.2 x hx
theorem places_eq : ∀ (fs : List Field), (fs.all fun f => (P.info? f.type).isSome) = true → (fs.mapM fun f => (P.info? f.type).map fun i => (f.offset, i.size)) = some (fs.map fun (f : Field) => (f.offset, P.cellsOf f.type))
  | [], _ => rfl
  | f :: fs, h => by
    simp only [List.all_cons, Bool.and_eq_true] at h
    obtain ⟨i, hi⟩ := Option.isSome_iff_exists.1 h.1
    have hs : P.cellsOf f.type = i.size := by simp [Program.cellsOf, hi]
    rw [List.mapM_cons, places_eq fs h.2]
    simp [hi, hs]
theorem run_build {ρ F W} {t : TypeId} {ps : List (Nat × V)} {qs : List (Nat × Value)} {y : V} (h : buildV P t ps = some y) (hp : PRel ρ F ps qs) : ∃ u, (Instr.build t qs.toArray).run P W = .ok u W ∧ VRel ρ F y u := by
  unfold buildV at h
  cases hb : boxAll ps with
  | false => rw [hb] at h; cases h
  | true =>
    rw [hb, Bool.not_true, cond_false] at h
    split at h
    · rename_i fs z hu hz
      cases ha : fs.toList.all (fun f => (P.info? f.type).isSome) with
      | false => rw [ha] at h; cases h
      | true =>
        rw [ha, Bool.not_true, cond_false] at h
        split at h
        · rename_i cs hcs
          cases h
          obtain ⟨i, zv, hi, hzv, hzr⟩ := zeroCells_rel (ρ := ρ) (F := F) hz
          have hcs' : setParts z (fun j => (fs.toList.map fun (f : Field) => (f.offset, P.cellsOf f.type)).toArray[j]?) ps = some cs := by
            rw [← hcs]
            congr 1
            funext j
            rw [List.getElem?_toArray, List.getElem?_map, Array.getElem?_toList]
            cases fs[j]? <;> rfl
          obtain ⟨a', g1, g2⟩ := fill_rel hcs' (boxAll_mem hb) hp hzr
          refine ⟨.agg a', ?_, by simp only [VRel]; exact ⟨a', rfl, g2⟩⟩
          have g1' : Instr.fill (fun x => Option.map (fun (f : Field) => (f.offset, P.cellsOf f.type)) fs[x]?) zv.cells qs = some a' := by simpa using g1
          simp [Instr.build, run_underlying hu, typeInfo, zeroValue, hi, hzv, Array.mapM_eq_mapM_toList, Go.run_places W _ _ (places_eq fs.toList ha), g1']
        · cases h
    · rename_i n e z hu hz
      cases ha : (P.info? e).isSome with
      | false => rw [ha] at h; cases h
      | true =>
        rw [ha, Bool.not_true, cond_false] at h
        split at h
        · rename_i cs hcs
          cases h
          obtain ⟨i, zv, hi, hzv, hzr⟩ := zeroCells_rel (ρ := ρ) (F := F) hz
          obtain ⟨ie, hie⟩ := Option.isSome_iff_exists.1 ha
          have hs : P.cellsOf e = ie.size := by simp [Program.cellsOf, hie]
          rw [hs] at hcs
          obtain ⟨a', g1, g2⟩ := fill_rel hcs (boxAll_mem hb) hp hzr
          refine ⟨.agg a', ?_, by simp only [VRel]; exact ⟨a', rfl, g2⟩⟩
          simp only [Instr.build, Sem.run_bind, run_zeroValue hi hzv, Result.andThen_ok, run_underlying hu, run_sizeOf hie, g1, Sem.run_pure]
        · cases h
    · cases h
end Go.Mini
end
section
set_option linter.unusedVariables false
set_option linter.unusedSimpArgs false
namespace Go.Mini
open Go.RowKit
variable {P : Program}
theorem flatN_rel {ρ F} {z : List V} {zs : List Value} (h : VRels ρ F z zs) : ∀ n, VRels ρ F (flatN n z) (List.replicate n zs).flatten
  | 0 => by simp [flatN, VRels]
  | n + 1 => by
    have := flatN_rel h n
    simp only [flatN, List.replicate_succ, List.flatten_cons] at this ⊢
    exact h.append this
theorem flat_get {α : Type} (l : List α) (s : Nat) (hl : l.length = s) : ∀ (n i k : Nat), i < n → k < s → ((List.replicate n l).flatten)[i * s + k]? = l[k]?
  | 0, i, k, h, _ => by omega
  | n + 1, i, k, h, hk => by
    simp only [List.replicate_succ, List.flatten_cons]
    cases i with
    | zero => rw [Nat.zero_mul, Nat.zero_add, List.getElem?_append_left (by omega)]
    | succ i =>
      rw [Nat.add_mul, Nat.one_mul, List.getElem?_append_right (by omega)]
      rw [show i * s + s + k - l.length = i * s + k by omega]
      exact flat_get l s hl n i k (by omega) hk
theorem flat_length {α : Type} (l : List α) (n : Nat) : ((List.replicate n l).flatten).length = n * l.length := by
  induction n with
  | zero => simp
  | succ n ih => rw [List.replicate_succ, List.flatten_cons, List.length_append, ih, Nat.add_mul, Nat.one_mul]; omega
theorem range_zero (zc : Array Value) (n : Nat) (h : 0 < zc.size) : ((Array.range (n * zc.size)).map (fun i => zc[i % zc.size]!)).toList = (List.replicate n zc.toList).flatten := by
  apply List.ext_getElem?
  intro i
  rw [Array.toList_map, List.getElem?_map, Array.toList_range]
  by_cases hi : i < n * zc.size
  · rw [List.getElem?_range hi, Option.map_some]
    have hm := Nat.div_add_mod i zc.size
    have hlt := Nat.mod_lt i h
    have hd : i / zc.size < n := (Nat.div_lt_iff_lt_mul h).2 hi
    have : i = i / zc.size * zc.size + i % zc.size := by rw [Nat.mul_comm]; omega
    rw [show ((List.replicate n zc.toList).flatten)[i]? = ((List.replicate n zc.toList).flatten)[i / zc.size * zc.size + i % zc.size]? by rw [← this]]
    rw [flat_get zc.toList zc.size (by simp) n _ _ hd hlt, Array.getElem?_toList, getElem!_pos zc _ hlt, Array.getElem?_eq_getElem hlt]
  · rw [List.getElem?_eq_none (by simpa using hi), List.getElem?_eq_none (by rw [flat_length]; simpa using hi)]; rfl
theorem toRows_rel {ρ F} {T : List Ty} : ∀ {n : Nat} {cs : List V} {l : List (Ty.R T)} {xs : List Value}, toRows T n cs = some l → VRels ρ F cs xs → l.length = n ∧ ∀ i x, l[i]? = some x → RRel F T x (fun k => xs[i * T.length + k]?)
  | 0, cs, l, xs, h, hx => by simp only [toRows, Option.some.injEq] at h; subst h; exact ⟨rfl, by simp⟩
  | n + 1, cs, l, xs, h, hx => by
    simp only [toRows] at h
    split at h
    · rename_i x l' h1 h2
      cases h
      obtain ⟨g1, g2⟩ := toRows_rel h2 (hx.drop T.length)
      refine ⟨by simp [g1], fun i y hy => ?_⟩
      cases i with
      | zero =>
        simp only [List.getElem?_cons_zero, Option.some.injEq] at hy; subst hy
        have := toR_rel h1 (hx.take T.length)
        refine RRel.congr this (fun k hk => ?_)
        rw [List.getElem?_take, if_pos hk, Nat.zero_mul, Nat.zero_add]
      | succ i =>
        have := g2 i y (by simpa using hy)
        refine RRel.congr this (fun k hk => ?_)
        rw [List.getElem?_drop]; congr 1; rw [Nat.add_mul, Nat.one_mul]; omega
    · cases h
theorem toRows_fit {T : List Ty} : ∀ {n : Nat} {cs : List V} {l : List (Ty.R T)}, toRows T n cs = some l → n * T.length ≤ cs.length
  | 0, _, _, _ => by simp
  | n + 1, cs, l, h => by
    simp only [toRows] at h
    split at h
    · rename_i x l' h1 h2
      have := toRows_fit h2
      have h3 := toR_length h1
      rw [List.length_take] at h3
      rw [List.length_drop] at this
      rw [Nat.add_mul, Nat.one_mul]; omega
    · cases h
theorem setParts_length {place : Nat → Option (Nat × Nat)} : ∀ {ps : List (Nat × V)} {cs r : List V}, setParts cs place ps = some r → r.length = cs.length
  | [], cs, r, h => by simp only [setParts, Option.some.injEq] at h; rw [h]
  | (j, v) :: ps, cs, r, h => by
    simp only [setParts] at h
    split at h
    · rename_i off n _
      cases hok : Nat.beq v.cells.length n && Nat.ble (off + n) cs.length with
      | false => rw [hok] at h; cases h
      | true => rw [hok, cond_true] at h; rw [setParts_length h, setCs_length]
    · cases h
theorem frz_boxable : ∀ {v v' : V} {H H' : Heap}, v.frz H = some (v', H') → v.boxable = true → v'.boxable = true := by
  intro v v' H H' h hb
  cases v <;> simp only [V.frz] at h
  case sl j => split at h <;> cases h; rfl
  case ss j o n => split at h <;> cases h; rfl
  case agg l => split at h <;> cases h; rfl
  case tup l => simp [V.boxable, V.one] at hb
  case fn f a b =>
    cases hc : (V.fn f a b).closed with
    | false => rw [hc] at h; cases h
    | true => rw [hc, cond_true] at h; cases h; rfl
  all_goals (simp only [V.closed, cond_true, cond_false] at h; first | (cases h; done) | (cases h; first | rfl | exact hb))
theorem frzParts_rel {ρ F H W} (h : Rel ρ F H W) : ∀ {ps ps' : List (Nat × V)} {H' : Heap} {qs : List (Nat × Value)}, frzParts ps H = some (ps', H') → boxAll ps = true → PRel ρ F ps qs → ∃ F', FLe F F' ∧ boxAll ps' = true ∧ PRel ρ F' ps' qs ∧ Rel ρ F' H' W ∧ Grew ρ F H W ρ F' H' W []
  | [], ps', H', qs, hf, _, hp => by
    simp only [frzParts] at hf; cases hf
    exact ⟨F, FLe.refl _, rfl, hp, h, Grew.refl _ _ _ _ _⟩
  | (j, v) :: ps, ps', H', qs, hf, hb, hp => by
    simp only [frzParts] at hf
    simp only [boxAll, Bool.and_eq_true] at hb
    simp only [PRel] at hp
    obtain ⟨x, q, rfl, h1, h2⟩ := hp
    split at hf
    · rename_i v1 H1 hv
      split at hf
      · rename_i l1 H2 hl
        cases hf
        obtain ⟨F1, a1, a2, a3, a4, a5⟩ := frz_rel h hv h1
        have hmono : ∀ {ps : List (Nat × V)} {qs : List (Nat × Value)}, PRel ρ F ps qs → PRel ρ F1 ps qs := by
          intro ps
          induction ps with
          | nil => intro qs h; simpa only [PRel] using h
          | cons e r ih =>
            intro qs h
            simp only [PRel] at h ⊢
            obtain ⟨v, q, h1, h2, h3⟩ := h
            exact ⟨v, q, h1, VRel.mono (Q := fun _ => True) (fun _ _ a _ => a) a1 (V.on_all _) h2, ih h3⟩
        obtain ⟨F2, b1, b2, b3, b4, b5⟩ := frzParts_rel a4 hl hb.2 (hmono h2)
        refine ⟨F2, a1.trans b1, by simp only [boxAll, frz_boxable hv hb.1, b2, Bool.and_self], ?_, b4, a5.trans b5 (fun _ a _ => a) (fun _ a _ => a) h.dom⟩
        simp only [PRel]
        exact ⟨x, q, rfl, VRel.mono (Q := fun _ => True) (fun _ _ a _ => a) b1 (V.on_all _) a3, b3⟩
      · cases hf
    · cases hf
theorem free_hset {H : Heap} {slot j : Nat} {b b' : Blk} (hf : Free H slot) (hg : hget H j = some b) (hb : b ≠ .dead) : Free (hset H j b') slot := by
  rcases hf with h | h
  · left; rw [hlen_hset]; exact h
  · right
    rw [hget_hset' hg]
    rw [if_neg]
    · exact h
    · intro e; subst e; rw [hg] at h; cases h; exact hb rfl
mutual
theorem frz_free {slot : Nat} : ∀ {v v' : V} {H H' : Heap}, v.frz H = some (v', H') → Free H slot → Free H' slot
  | .sl j, v', H, H', h, hf => by
    simp only [V.frz] at h
    split at h
    · rename_i T l z hg; cases h; exact free_hset hf hg (by simp)
    · cases h
  | .ss j o n, v', H, H', h, hf => by
    simp only [V.frz] at h
    split at h
    · rename_i T l z hg; cases h; exact free_hset hf hg (by simp)
    · cases h
  | .agg l, v', H, H', h, hf => by
    simp only [V.frz] at h
    split at h
    · rename_i l' H1 hl; cases h; exact frzs_free hl hf
    · cases h
  | .tup l, v', H, H', h, hf => by
    simp only [V.frz] at h
    split at h
    · rename_i l' H1 hl; cases h; exact frzs_free hl hf
    · cases h
  | .u, v', H, H', h, hf | .b _, v', H, H', h, hf | .i _ _, v', H, H', h, hf | .s _, v', H, H', h, hf | .np, v', H, H', h, hf | .nil, v', H, H', h, hf | .pe _ _ _, v', H, H', h, hf | .ls _ _ _, v', H, H', h, hf => by
    simp only [V.frz, V.closed, cond_true] at h; cases h; exact hf
  | .p _ _, v', H, H', h, hf | .pr _ _ _, v', H, H', h, hf | .sc _ _ _ _, v', H, H', h, hf => by
    simp only [V.frz, V.closed, cond_false] at h; cases h
  | .fn f a b, v', H, H', h, hf => by
    simp only [V.frz] at h
    cases hc : (V.fn f a b).closed with
    | false => rw [hc] at h; cases h
    | true => rw [hc, cond_true] at h; cases h; exact hf
theorem frzs_free {slot : Nat} : ∀ {l l' : List V} {H H' : Heap}, V.frzs l H = some (l', H') → Free H slot → Free H' slot
  | [], l', H, H', h, hf => by simp only [V.frzs] at h; cases h; exact hf
  | v :: l, l', H, H', h, hf => by
    simp only [V.frzs] at h
    split at h
    · rename_i v1 H1 hv
      split at h
      · rename_i l1 H2 hl; cases h; exact frzs_free hl (frz_free hv hf)
      · cases h
    · cases h
end
theorem frzParts_free {slot : Nat} : ∀ {ps ps' : List (Nat × V)} {H H' : Heap}, frzParts ps H = some (ps', H') → Free H slot → Free H' slot
  | [], ps', H, H', h, hf => by simp only [frzParts] at h; cases h; exact hf
  | (j, v) :: l, l', H, H', h, hf => by
    simp only [frzParts] at h
    split at h
    · rename_i v1 H1 hv
      split at h
      · rename_i l1 H2 hl; cases h; exact frzParts_free hl (frz_free hv hf)
      · cases h
    · cases h
/-- What is left behind an operation. -/
def Left (ρ : Rho) (F : Fz) (H : Heap) (W : World) (e : Eff) (u : Value) (W' : World) : Prop :=
  ∃ ρ' F', VRel ρ' F' e.v u ∧ Rel ρ' F' e.hp W' ∧ Grew ρ F H W ρ' F' e.hp W' e.pg
/-- A literal of a slice. -/
theorem run_buildSl {ρ F W} {H0 : Heap} {slot : Nat} {t : TypeId} {n : Nat} {ps : List (Nat × V)} {qs : List (Nat × Value)} {res : Eff} (h : buildSl P H0 slot t n ps = some res) (hR : Rel ρ F H0 W) (hs : Free H0 slot) (hp : PRel ρ F ps qs) :
    ∃ W' u, (Instr.buildSlice t n qs.toArray).run P W = .ok u W' ∧ Left ρ F H0 W res u W' := by
  unfold buildSl at h
  split at h
  case h_2 => cases h
  rename_i e hu
  split at h
  case h_2 => cases h
  rename_i z hz
  cases hc : (Nat.beq z.length (P.cellsOf e) && Nat.blt 0 z.length && Nat.ble (n * z.length) 16777216 && boxAll ps) with
  | false => rw [hc] at h; cases h
  | true =>
    rw [hc, cond_true] at h
    simp only [Bool.and_eq_true] at hc
    obtain ⟨⟨⟨c1, c2⟩, c3⟩, c4⟩ := hc
    have hzl := Nat.eq_of_beq_eq_true c1
    have hz0 : 0 < z.length := by simpa using c2
    have hmax : n * z.length ≤ 16777216 := Nat.le_of_ble_eq_true c3
    obtain ⟨i, zv, hi, hzv, hzr⟩ := zeroCells_rel (ρ := ρ) (F := F) hz
    have hzs : zv.cells.size = z.length := by simpa using hzr.length
    have hsz : P.cellsOf e = i.size := by simp [Program.cellsOf, hi]
    have hzi : zv.cells.size = i.size := by omega
    have hbig : ¬ (n * i.size > 2 ^ 24) := by
      have : n * i.size ≤ 16777216 := by rw [← hzi, hzs]; exact hmax
      omega
    have hflat := flatN_rel hzr n
    rw [← range_zero zv.cells n (by omega)] at hflat
    have hrun : ∀ (a' : Array Value), Instr.fill (fun j => some (j * i.size, i.size)) ((Array.range (n * i.size)).map (fun k => zv.cells[k % zv.cells.size]!)) qs = some a' →
        (Instr.buildSlice t n qs.toArray).run P W = .ok (.slice (some ⟨W.heap.size, 0, none⟩) n n) (W.alloc (.cells a' e)) := by
      intro a' hf
      by_cases h0 : n * i.size = 0
      · have hn : n = 0 := by
          rcases Nat.mul_eq_zero.1 h0 with h | h
          · exact h
          · omega
        subst hn
        simp only [Nat.zero_mul] at hf
        have hmap : ∀ f : Nat → Value, (Array.range 0).map f = #[] := fun f => by apply Array.eq_empty_of_size_eq_zero; simp
        rw [hmap] at hf
        simp only [Instr.buildSlice, Sem.run_bind, run_underlying hu, Result.andThen_ok, run_sizeOf hi, Nat.zero_mul, Sem.run_pure, if_true]
        rw [if_neg (by omega)]
        simp [hf, newRow, hmap]
      · simp only [Instr.buildSlice, Sem.run_bind, run_underlying hu, Result.andThen_ok, run_sizeOf hi]
        rw [if_neg hbig]
        simp only [h0, if_false, Sem.run_bind, run_zeroValue hi hzv, Result.andThen_ok, Sem.run_pure, hf]
        simp [newRow]
    split at h
    · rename_i T hT
      cases hTl : Nat.beq T.length z.length with
      | false => rw [hTl] at h; cases h
      | true =>
        rw [hTl, cond_true] at h
        have hTl' := Nat.eq_of_beq_eq_true hTl
        split at h
        case h_2 => cases h
        rename_i ps' H hfz
        split at h
        case h_2 => cases h
        rename_i cs hcs
        split at h
        case h_2 => cases h
        rename_i l hl
        cases h
        obtain ⟨F1, a1, a2, a3, a4, a5⟩ := frzParts_rel hR hfz c4 hp
        rw [hsz] at hcs
        rw [hzi] at hflat
        obtain ⟨a', g1, g2⟩ := fill_rel hcs (boxAll_mem a2) a3 (VRels.mono (Q := fun _ => True) (fun _ _ a _ => a) a1 (V.ons_all _) hflat)
        obtain ⟨q1, q2⟩ := toRows_rel hl g2
        have hfree : Free H slot := frzParts_free hfz hs
        have hlen : cs.length = n * z.length := by rw [setParts_length hcs, flatN, flat_length]
        have hal : a'.size = n * z.length := by have := g2.length; simp only [Array.length_toList] at this; rw [this, hlen]
        obtain ⟨ρ', k1, k2, k3, k4⟩ := a4.newRow (T := T) (l := l) hfree (c := a') (by omega) (by rw [q1, hTl', hal]; exact Nat.le_refl _) (fun i' x hx => by
          have := q2 i' x hx
          refine RRel.congr this (fun k _ => ?_)
          rw [Nat.zero_add, Array.getElem?_toList]) e
        refine ⟨_, _, hrun a' (by rw [← hzi] at g1 ⊢; exact g1), ρ', F1, k1 n n q1.symm (Nat.le_refl _) (by rw [hTl', hal]; exact Nat.le_refl _), k3, a5.trans k4 (fun _ a _ => a) (fun _ a _ => a) hR.dom⟩
    · rename_i hT
      split at h
      case h_2 => cases h
      rename_i cs hcs
      cases h
      rw [hsz] at hcs
      rw [hzi] at hflat
      obtain ⟨a', g1, g2⟩ := fill_rel hcs (boxAll_mem c4) hp hflat
      obtain ⟨ρ', k1, k2, k3, k4⟩ := hR.newVar hs g2 e
      refine ⟨_, _, hrun a' (by rw [← hzi] at g1 ⊢; exact g1), ρ', F, ?_, k3, k4⟩
      simp only [VRel] at k1 ⊢
      obtain ⟨j, sz, n', w, r1, r2⟩ := k1
      right
      cases r2
      exact ⟨_, _, _, _, n, r1, rfl, Nat.le_refl _⟩
end Go.Mini
end
section
set_option linter.unusedVariables false
set_option linter.unusedSimpArgs false
namespace Go.Mini
open Go.RowKit
variable {P : Program}
theorem run_makeSl {ρ F W} {H : Heap} {slot : Nat} {t : TypeId} {n c : V} {vn vc : Value} {res : Eff} (h : makeSl P H slot t n c = some res) (hc : res.c = true) (hR : Rel ρ F H W) (hs : Free H slot) (hn : VRel ρ F n vn) (hcv : VRel ρ F c vc) :
    ∃ W' u, (Instr.makeSlice t vn vc).run P W = .ok u W' ∧ Left ρ F H W res u W' := by
  unfold makeSl at h
  split at h
  case h_2 => cases h
  rename_i e kn n kc c hu
  simp only [VRel] at hn hcv; subst hn hcv
  simp only at h
  split at h
  case h_2 => cases h
  rename_i z hz
  cases hb : (Nat.beq z.length (P.cellsOf e) && Nat.blt 0 z.length) with
  | false => rw [hb] at h; cases h
  | true =>
    rw [hb, cond_true] at h
    simp only [Bool.and_eq_true] at hb
    have hzl := Nat.eq_of_beq_eq_true hb.1
    have hz0 : 0 < z.length := by simpa using hb.2
    obtain ⟨i, zv, hi, hzv, hzr⟩ := zeroCells_rel (ρ := ρ) (F := F) hz
    have hzs : zv.cells.size = z.length := by simpa using hzr.length
    have hsz : P.cellsOf e = i.size := by simp [Program.cellsOf, hi]
    have hzi : zv.cells.size = i.size := by omega
    have hby : P.bytesOf e = i.bytes := by simp [Program.bytesOf, hi]
    have hrun : (0 ≤ n ∧ n ≤ c) → (c * (P.bytesOf e : Int) ≤ 140737488355328 ∧ c ≤ 9223372036854775807) →
        (Instr.makeSlice t (.int kn n) (.int kc c)).run P W = .ok (.slice (some ⟨W.heap.size, 0, none⟩) n.toNat c.toNat) (W.alloc (.cells (madeCells zv.cells (c.toNat * i.size)) e)) := by
      rintro ⟨h1, h2⟩ ⟨h3, h4⟩
      rw [hby] at h3
      exact run_make (P := P) W t e i zv hu hi hzv kn kc n c h1 h2 (by rw [Int.mul_comm]; omega) h4
    have hmade : ∀ k, (madeCells zv.cells (k * i.size)).toList = (List.replicate k zv.cells.toList).flatten := fun k => by
      rw [← hzi]; exact range_zero zv.cells k (by omega)
    have hsize : ∀ k, (madeCells zv.cells (k * i.size)).size = k * i.size := fun k => size_madeCells _ _
    split at h
    · rename_i T hT
      split at h
      case h_2 => cases h
      rename_i r hr
      cases h
      simp only [Bool.and_eq_true, decide_eq_true_eq] at hc
      have hTz := toR_length hr
      have hrr := toR_rel hr hzr
      obtain ⟨ρ', k1, k2, k3, k4⟩ := hR.newRow (T := T) (l := List.replicate n.toNat r) hs (c := madeCells zv.cells (c.toNat * i.size)) (by omega) (by rw [List.length_replicate, hsize, ← hzi, hzs, hTz]; exact Nat.mul_le_mul_right _ (by omega)) (fun q x hx => by
        have hq : q < n.toNat := by
          have := (List.getElem?_eq_some_iff.1 hx).1
          rwa [List.length_replicate] at this
        have hxr : x = r := by
          rw [List.getElem?_replicate, if_pos hq] at hx; exact (Option.some.inj hx).symm
        subst hxr
        refine RRel.congr hrr (fun k hk => ?_)
        rw [Nat.zero_add, ← Array.getElem?_toList, hmade]
        exact (flat_get zv.cells.toList T.length (by simp; omega) c.toNat q k (by omega) hk).symm) e
      exact ⟨_, _, hrun hc.1 hc.2, ρ', F, k1 n.toNat c.toNat (by simp) (by omega) (by rw [hsize, ← hzi, hzs, hTz]; exact Nat.le_refl _), k3, k4⟩
    · cases h
      simp only [Bool.and_eq_true, decide_eq_true_eq] at hc
      obtain ⟨⟨h1, h2⟩, h3⟩ := hc
      subst h3
      have hflat := flatN_rel hzr n.toNat
      rw [← hmade] at hflat
      obtain ⟨ρ', k1, k2, k3, k4⟩ := hR.newVar hs hflat e
      refine ⟨_, _, hrun h1 h2, ρ', F, ?_, k3, k4⟩
      simp only [VRel] at k1 ⊢
      obtain ⟨j, sz, n', w, r1, r2⟩ := k1
      right
      cases r2
      exact ⟨_, _, _, _, _, r1, rfl, Nat.le_refl _⟩
end Go.Mini
end
section
set_option linter.unusedVariables false
set_option linter.unusedSimpArgs false
namespace Go.Mini
open Go.RowKit
variable {P : Program}
theorem rowV_ones : ∀ (T : List Ty) (x : Ty.R T), V.ones (rowV T x) = true
  | [], _ => rfl
  | t :: T, x => by
    simp only [rowV, V.ones, rowV_ones T x.2, Bool.and_true]
    cases t <;> rfl
/-- The cells of typed rows. -/
theorem rows_cells {F : Fz} {T : List Ty} {c : Array Value} : ∀ (l : List (Ty.R T)) (off : Nat), RowsRel F T l c off → ∃ news : List Value, news.length = l.length * T.length ∧ (∀ j u, news[j]? = some u → c[off + j]? = some u) ∧ (∀ u ∈ news, u.oneCell' = true) ∧ (∀ i x, l[i]? = some x → RRel F T x (fun k => news[i * T.length + k]?))
  | [], off, _ => ⟨[], by simp, by simp, by simp, by simp⟩
  | x :: l, off, h => by
    obtain ⟨vs, a1, a2, a3⟩ := RRel.cells (ρ := fun _ => none) T x _ (h 0 x rfl)
    have hl : RowsRel F T l c (off + T.length) := fun i y hy => by
      have := h (i + 1) y (by simpa using hy)
      refine RRel.congr this (fun k _ => ?_)
      congr 1; rw [Nat.add_mul, Nat.one_mul]; omega
    obtain ⟨ns, b1, b2, b3, b4⟩ := rows_cells l (off + T.length) hl
    refine ⟨vs ++ ns, by rw [List.length_append, a2, b1, List.length_cons, Nat.add_mul, Nat.one_mul]; omega, fun j u hj => ?_, fun u hu => ?_, fun i y hy => ?_⟩
    · rw [List.getElem?_append] at hj
      split at hj
      · have := a3 j u hj
        rwa [Nat.zero_mul, Nat.add_zero] at this
      · have := b2 _ u hj
        rw [← this]; congr 1; omega
    · rcases List.mem_append.1 hu with hu | hu
      · exact ones_cells (rowV_ones T x) a1 u hu
      · exact b3 u hu
    · cases i with
      | zero =>
        simp only [List.getElem?_cons_zero, Option.some.injEq] at hy; subst hy
        refine RRel.congr (h 0 x rfl) (fun k hk => ?_)
        have hk' : k < vs.length := by omega
        rw [Nat.zero_mul, Nat.zero_add, Nat.add_zero, List.getElem?_append_left hk', List.getElem?_eq_getElem hk']
        have := a3 k _ (List.getElem?_eq_getElem hk')
        rwa [Nat.zero_mul, Nat.add_zero] at this
      | succ i =>
        refine RRel.congr (b4 i y (by simpa using hy)) (fun k hk => ?_)
        rw [List.getElem?_append_right (by rw [a2, Nat.add_mul]; omega)]
        congr 1; rw [a2, Nat.add_mul]; omega
theorem castL_eq {T : List Ty} (h : Ty.beqs T T = true) (l : List (Ty.R T)) : castL h l = l := rfl
/-- What is appended. -/
theorem rowsOf_src {ρ F H W} (hR : Rel ρ F H W) {T : List Ty} {y : V} {v : Value} {t2 e2 : TypeId} {new : List (Ty.R T)} (hu : P.underlying t2 = some (.slice e2)) (h : rowsOf H T y = some new) (hy : VRel ρ F y v) :
    ∃ news, Src P T.length t2 v new.length news W ∧ ∀ i x, new[i]? = some x → RRel F T x (fun k => news[i * T.length + k]?) := by
  have addr : ∀ {l : List (Ty.R T)} {b o cap : Nat} {c : Array Value} {e fr}, W.heap[b]? = some (.cells c e fr) → RowsRel F T l c o → ∃ news, Src P T.length t2 (.slice (some ⟨b, o, none⟩) l.length cap) l.length news W ∧ ∀ i x, l[i]? = some x → RRel F T x (fun k => news[i * T.length + k]?) := by
    intro l b o cap c e fr hw hr
    obtain ⟨news, h1, h2, h3, h4⟩ := rows_cells l o hr
    exact ⟨news, Src.ofSlice W hu ⟨b, o, none⟩ l.length cap news h1 (fun j u hj => by rw [add_plain, cell_of hw]; exact h2 j u hj) h3, h4⟩
  have empty : ∀ a cap, ∃ news, Src P T.length t2 (.slice a 0 cap) 0 news W ∧ news = [] := by
    intro a cap
    cases a with
    | none => exact ⟨[], Src.ofNil W hu cap, rfl⟩
    | some a => exact ⟨[], Src.ofSlice W hu a 0 cap [] (by simp) (by simp) (by simp), rfl⟩
  unfold rowsOf at h
  split at h
  · cases h
    simp only [VRel] at hy; subst hy
    obtain ⟨news, g, rfl⟩ := empty none 0
    exact ⟨[], g, by simp⟩
  · rename_i T' l full
    split at h
    · rename_i hT
      have := Ty.beqs_eq hT
      subst this
      cases h
      simp only [VRel, DRel] at hy
      obtain ⟨⟨a, cap, rfl, hle, hrows⟩, _⟩ := hy
      rcases hrows with hl | ⟨ad, c, rfl, h1, h2, h3⟩
      · have : l = [] := hl
        subst this
        obtain ⟨news, g, rfl⟩ := empty a cap
        exact ⟨[], g, by simp [castL_eq]⟩
      · obtain ⟨e, fr, hw⟩ := hR.fz _ _ h2
        obtain ⟨b, o, sp⟩ := ad
        simp only at h1; subst h1
        exact addr hw h3
    · cases h
  · rename_i m
    split at h
    · rename_i T' l z hg
      split at h
      · rename_i hT
        have := Ty.beqs_eq hT
        subst this
        cases h
        simp only [VRel] at hy
        rcases hy with ⟨h1, a, rfl⟩ | ⟨j, sz, n, w, cap, h1, rfl, h3, h4⟩
        · have hl0 : l = [] := by
            have := hR.blk m _ hg
            cases z with
            | false => rcases this.2 with g | ⟨j, c', g, _⟩
                       · exact g.1
                       · rw [h1] at g; cases g
            | true => rcases this.2 with g | ⟨j, c', g, _⟩
                      · exact g.1
                      · rw [h1] at g; cases g
          subst hl0
          obtain ⟨news, g, rfl⟩ := empty a 0
          exact ⟨[], g, by simp [castL_eq]⟩
        · obtain ⟨c, e, fr, rfl, rfl, rfl, hw, _, hr⟩ := Blk.r_lies (hR.blk m _ hg) hR.fz h1
          exact addr hw hr
      · cases h
    · cases h
  · rename_i m o k
    split at h
    · rename_i T' l z hg
      split at h
      · rename_i hT
        have := Ty.beqs_eq hT
        subst this
        cases h
        simp only [VRel] at hy
        rcases hy with ⟨rfl, a, rfl⟩ | ⟨j, sz, n, w, cap, h1, rfl, h3, h4, h5⟩
        · obtain ⟨news, g, rfl⟩ := empty a 0
          exact ⟨[], by simpa [castL_eq] using g, by simp [castL_eq]⟩
        · obtain ⟨c, e, fr, rfl, rfl, rfl, hw, _, hr⟩ := Blk.r_lies (hR.blk m _ hg) hR.fz h1
          have hl : ((l.drop o).take k).length = k := by rw [List.length_take, List.length_drop]; omega
          have hr' : RowsRel F T' ((l.drop o).take k) c (o * T'.length) := fun i x hx => by
            have hx' : l[o + i]? = some x := by
              rw [List.getElem?_take] at hx
              split at hx
              · rwa [List.getElem?_drop] at hx
              · cases hx
            have := hr _ x hx'
            simpa only [Nat.zero_add, Nat.add_mul] using this
          have := addr (cap := cap) hw hr'
          rw [castL_eq]
          rw [hl] at this ⊢
          exact this
      · cases h
    · cases h
  · cases h
theorem strRows_src {ρ F W} {T : List Ty} {y : V} {v : Value} {t2 : TypeId} {new : List (Ty.R T)} (hu : P.underlying t2 = some .string) (h : strRows T y = some new) (hy : VRel ρ F y v) :
    ∃ news, Src P T.length t2 v new.length news W ∧ ∀ i x, new[i]? = some x → RRel F T x (fun k => news[i * T.length + k]?) := by
  unfold strRows at h
  split at h
  · rename_i l
    split at h
    · rename_i hT
      have := Ty.beqs_eq hT
      subst this
      cases h
      simp only [VRel] at hy; subst hy
      have := Src.ofString (P := P) W hu ⟨l.toArray⟩
      rw [size_bytes] at this
      rw [castL_eq]
      have hlen : (byteRows l).length = l.length := List.length_map _
      refine ⟨byteCells ⟨l.toArray⟩, by rw [hlen]; exact this, fun i x hx => ?_⟩
      have hx' : (l.map byteRow)[i]? = some x := hx
      rw [List.getElem?_map] at hx'
      obtain ⟨b, hb, rfl⟩ := Option.map_eq_some_iff.1 hx'
      simp only [RRel, DRel, and_true, byteRow]
      refine ⟨_, ?_, rfl⟩
      simp [byteCells, hb]
    · cases h
  · cases h
end Go.Mini
end
section
set_option linter.unusedVariables false
set_option linter.unusedSimpArgs false
namespace Go.Mini
open Go.RowKit
variable {P : Program}
theorem hget_purge (k : Nat) : ∀ (H : Heap) (m : Nat), hget (hpPurge k H) m = (hget H m).map (Blk.purge k)
  | [], m => by simp [hpPurge, hget]
  | b :: r, 0 => by simp [hpPurge, hget]
  | b :: r, m + 1 => by simp [hpPurge, hget, hget_purge k r m]
theorem hlen_purge (k : Nat) : ∀ (H : Heap), hlen (hpPurge k H) = hlen H
  | [] => rfl
  | b :: r => by simp [hpPurge, hlen, hlen_purge k r]
theorem own_purge (k : Nat) (b : Blk) : (b.purge k).own = b.own := by cases b <;> rfl
theorem eget_purge (k : Nat) : ∀ (env : List (Nat × V)) (d : Nat), eget (envPurge k env) d = (eget env d).map (V.purge k)
  | [], d => by simp [envPurge, eget]
  | e :: r, d => by
    simp only [envPurge, eget]
    cases Nat.beq e.1 d with
    | true => rfl
    | false => simp only [cond_false]; exact eget_purge k r d
theorem EnvRel.purge {ρ ρ' F F' env a} (h : EnvRel ρ F env a) {m : Nat} (hA : ∀ k L, ρ k = some L → k ≠ m → ρ' k = some L) (hF : FLe F F') : EnvRel ρ' F' (envPurge m env) a := by
  intro k v hk
  rw [eget_purge] at hk
  obtain ⟨w, hw, rfl⟩ := Option.map_eq_some_iff.1 hk
  exact VRel.mono hA hF (V.on_purge m w) (VRel.purge m (h k w hw))
/-- A row of elements that may lie elsewhere now. -/
theorem Rel.move {ρ F H W} (h : Rel ρ F H W) {m : Nat} {te : TypeId} {T : List Ty} {l0 l' : List (Ty.R T)} (hg : hget H m = some (.r te T l0 false)) (L : Loc) (W' : World)
    (hb : BRel (upd ρ m L) F W' m (.r te T l' false)) (hL : ∀ j s n w, L = .lies j s n w → (∃ s n w, ρ m = some (.lies j s n w)) ∨ W.heap.size ≤ j)
    (hw : ∀ j, j < W.heap.size → (∀ s n w, ρ m ≠ some (.lies j s n w)) → W'.heap[j]? = W.heap[j]?) (hsz : W.heap.size ≤ W'.heap.size) (e1 : W'.os = W.os) (e2 : W'.tape = W.tape) (e3 : W'.output = W.output) :
    Rel (upd ρ m L) F (hset (hpPurge m H) m (.r te T l' false)) W' ∧ Grew ρ F H W (upd ρ m L) F (hset (hpPurge m H) m (.r te T l' false)) W' [m] := by
  have hml := hget_lt hg
  have hg' : hget (hpPurge m H) m = some (.r te T l0 false) := by rw [hget_purge, hg]; rfl
  have hget' := fun k => hget_hset' (b' := .r te T l' false) hg' k
  have hA : ∀ k L', ρ k = some L' → k ≠ m → upd ρ m L k = some L' := fun k L' hk hne => by rw [upd_ne _ _ hne]; exact hk
  have orig : ∀ k x, k ≠ m → hget (hset (hpPurge m H) m (.r te T l' false)) k = some x → ∃ y, hget H k = some y ∧ x = y.purge m := by
    intro k x hk hx
    rw [hget', if_neg hk, hget_purge] at hx
    obtain ⟨y, hy, rfl⟩ := Option.map_eq_some_iff.1 hx
    exact ⟨y, hy, rfl⟩
  have hown : ∀ j, Own (upd ρ m L) (hset (hpPurge m H) m (.r te T l' false)) j → Own ρ H j ∨ W.heap.size ≤ j := by
    rintro j ⟨k, x, s, n, w, h1, h2, h3⟩
    by_cases hk : k = m
    · subst hk
      rw [upd_self] at h3
      rcases hL j s n w (Option.some.inj h3) with ⟨s', n', w', hr⟩ | hge
      · exact .inl ⟨k, _, s', n', w', hg, rfl, hr⟩
      · exact .inr hge
    · obtain ⟨y, hy, rfl⟩ := orig k x hk h1
      rw [upd_ne _ _ hk] at h3
      rw [own_purge] at h2
      exact .inl ⟨k, y, s, n, w, hy, h2, h3⟩
  refine ⟨⟨fun k x hx => ?_, fun k L' hk => ?_, ?_, fun j c hj => ?_⟩, ⟨fun k L' hk hne => hA k L' hk (by simpa using hne), by rw [hlen_hset, hlen_purge]; exact Nat.le_refl _, FLe.refl _, fun _ a b => absurd a b, fun j hj hn => hw j hj (fun s n w hr => hn ⟨m, _, s, n, w, hg, rfl, hr⟩), hown, hsz, e1, e2, e3⟩⟩
  · by_cases hk : k = m
    · subst hk; rw [hget', if_pos rfl] at hx; cases hx; exact hb
    · obtain ⟨y, hy, rfl⟩ := orig k x hk hx
      have hy' := h.blk k y hy
      have hsame : ∀ j, y.own = true → (∃ s n w, ρ k = some (.lies j s n w)) → W'.heap[j]? = W.heap[j]? := fun j ho ⟨s, n, w, hr⟩ =>
        hw j (h.lt ⟨k, y, s, n, w, hy, ho, hr⟩) (fun s' n' w' hr' => hk (h.inj k m y _ j _ _ _ _ _ _ hy ho hg rfl hr hr'))
      cases y with
      | c te' cs =>
        obtain ⟨j, n, w, c, g1, g2, g3, g4⟩ := hy'
        refine ⟨j, n, w, c, ?_, (hsame j rfl ⟨_, _, _, g1⟩).trans g2, g3, ?_⟩
        · have : (V.purges m cs).length = cs.length := by
            have a := (VRels.purge m g4).length
            have b := g4.length
            omega
          rw [this]; exact hA k _ g1 hk
        · exact VRels.mono hA (FLe.refl _) (V.ons_purge m cs) (VRels.purge m g4)
      | r te' T' l z =>
        cases z with
        | false =>
          refine ⟨hy'.1, hy'.2.imp (fun g => ⟨g.1, hA k _ g.2 hk⟩) ?_⟩
          rintro ⟨j, c, g1, g2, g3, g4, g5⟩
          exact ⟨j, c, hA k _ g1 hk, (hsame j rfl ⟨_, _, _, g1⟩).trans g2, g3, g4, g5⟩
        | true =>
          refine ⟨hy'.1, hy'.2.imp (fun g => ⟨g.1, hA k _ g.2 hk⟩) ?_⟩
          rintro ⟨j, c, g1, g2, g3, g4⟩
          exact ⟨j, c, hA k _ g1 hk, g2, g3, g4⟩
      | dead => simp only [BRel, Blk.purge] at hy' ⊢; rw [upd_ne _ _ hk]; exact hy'
  · rw [hlen_hset, hlen_purge]
    by_cases hkm : k = m
    · subst hkm; exact hml
    · rw [upd_ne _ _ hkm] at hk; exact h.dom k L' hk
  · intro k k' x x' j s1 n1 w1 s' n' w' h1 o1 h2 o2 r1 r2
    by_cases hk : k = m
    · by_cases hk' : k' = m
      · rw [hk, hk']
      · subst hk
        obtain ⟨y', hy', rfl⟩ := orig k' x' hk' h2
        rw [upd_self] at r1; rw [upd_ne _ _ hk'] at r2; rw [own_purge] at o2
        rcases hL j _ _ _ (Option.some.inj r1) with ⟨a, b, c, hr⟩ | hge
        · exact h.inj k k' _ y' j _ _ _ _ _ _ hg rfl hy' o2 hr r2
        · have := h.lt ⟨k', y', _, _, _, hy', o2, r2⟩; omega
    · obtain ⟨y, hy, rfl⟩ := orig k x hk h1
      rw [upd_ne _ _ hk] at r1; rw [own_purge] at o1
      by_cases hk' : k' = m
      · subst hk'
        rw [upd_self] at r2
        rcases hL j _ _ _ (Option.some.inj r2) with ⟨a, b, c, hr⟩ | hge
        · exact h.inj k k' y _ j _ _ _ _ _ _ hy o1 hg rfl r1 hr
        · have := h.lt ⟨k, y, _, _, _, hy, o1, r1⟩; omega
      · obtain ⟨y', hy', rfl⟩ := orig k' x' hk' h2
        rw [upd_ne _ _ hk'] at r2; rw [own_purge] at o2
        exact h.inj k k' y y' j _ _ _ _ _ _ hy o1 hy' o2 r1 r2
  · obtain ⟨e, fr, hx⟩ := h.fz j c hj
    have hlt := (Array.getElem?_eq_some_iff.1 hx).1
    refine ⟨e, fr, ?_⟩
    rw [hw j hlt (fun s n w hr => ?_)]
    · exact hx
    · have := h.ownF ⟨m, _, s, n, w, hg, rfl, hr⟩
      rw [this] at hj; cases hj
/-- An empty row that has no memory. -/
theorem Rel.newNo {ρ F H W} (h : Rel ρ F H W) {slot : Nat} (hs : Free H slot) {te : TypeId} {T : List Ty} (hT : 0 < T.length) :
    ∃ ρ', (∀ a, VRel ρ' F (.sl slot) (.slice a 0 0)) ∧ (∀ m L, ρ m = some L → ρ' m = some L) ∧ Rel ρ' F (putAt H slot (.r te T [] false)) W ∧ Grew ρ F H W ρ' F (putAt H slot (.r te T [] false)) W [] := by
  have hn := Free.none h hs
  have hA : ∀ m L, ρ m = some L → upd ρ slot .no m = some L := fun m L hm => by
    rw [upd_ne]; exact hm
    intro e'; subst e'; rw [hn] at hm; cases hm
  refine ⟨upd ρ slot .no, fun a => by simp only [VRel]; exact .inl ⟨upd_self _ _ _, a, rfl⟩, hA, ⟨fun m x hx => ?_, fun m L hm => ?_, ?_, h.fz⟩, ⟨fun m L hm _ => hA m L hm, (hlen_putAt _ hs).1, FLe.refl _, fun _ a b => absurd a b, fun _ _ _ => rfl, ?_, Nat.le_refl _, rfl, rfl, rfl⟩⟩
  · rw [hget_putAt _ hs] at hx
    by_cases hm : m = slot
    · subst hm; rw [if_pos rfl] at hx; cases hx; exact ⟨hT, .inl ⟨rfl, upd_self _ _ _⟩⟩
    · rw [if_neg hm] at hx
      by_cases hd : x = .dead
      · subst hd; have := h.blk m _ hx; simp only [BRel] at this ⊢; rw [upd_ne _ _ hm]; exact this
      · exact (h.blk m x hx).mono hd hA (FLe.refl _) (fun _ _ _ hf => hf) (fun _ _ _ => rfl)
  · by_cases hm' : m = slot
    · subst hm'; exact (hlen_putAt _ hs).2
    · rw [upd_ne _ _ hm'] at hm; exact Nat.lt_of_lt_of_le (h.dom m L hm) (hlen_putAt _ hs).1
  · intro m m' x x' j s n w s' n' w' h1 o1 h2 o2 r1 r2
    rw [hget_putAt _ hs] at h1 h2
    by_cases hm : m = slot
    · subst hm; rw [upd_self] at r1; cases r1
    · by_cases hm' : m' = slot
      · subst hm'; rw [upd_self] at r2; cases r2
      · rw [if_neg hm] at h1; rw [if_neg hm'] at h2; rw [upd_ne _ _ hm] at r1; rw [upd_ne _ _ hm'] at r2
        exact h.inj m m' x x' j _ _ _ _ _ _ h1 o1 h2 o2 r1 r2
  · rintro j ⟨k, x, s, n, w, h1, h2, h3⟩
    rw [hget_putAt _ hs] at h1
    by_cases hk : k = slot
    · subst hk; rw [upd_self] at h3; cases h3
    · rw [if_neg hk] at h1; rw [upd_ne _ _ hk] at h3; exact .inl ⟨k, x, s, n, w, h1, h2, h3⟩
end Go.Mini
end
section
set_option linter.unusedVariables false
set_option linter.unusedSimpArgs false
namespace Go.Mini
open Go.RowKit
variable {P : Program}
theorem setCells_row {W : World} {j o : Nat} {e : TypeId} {cur : Array Value} {vs : List Value} (hg : W.heap[j]? = some (.cells cur e (0, 0))) (hl : o + vs.length ≤ cur.size) (h1 : ∀ v ∈ vs, v.oneCell' = true) :
    W.setCells j o vs = W.setRow j (cur.toList.take o ++ vs ++ cur.toList.drop (o + vs.length)).toArray := by
  have a := run_storeCells_at (P := default) j o e vs 0 cur W hg (by simpa using hl) h1
  have b := run_storeCells_cells (P := default) j o vs 0 W (fun k hk => by
    rw [cell_of hg, Array.getElem?_eq_getElem (by omega)]; rfl) (fun k hk => by simp [World.frozen?, hg]) h1
  rw [a] at b
  simp only [Nat.add_zero] at b
  injection b with _ b
  exact b.symm
structure Elem (P : Program) (t e : TypeId) (T : List Ty) (i : TypeInfo) (z : Value) : Prop where
  hu : P.underlying t = some (.slice e)
  hi : P.info? e = some i
  hz : i.zero = some z
  size : i.size = T.length
  zsize : z.cells.size = T.length
  pos : 0 < T.length
  bpos : 0 < i.bytes
/-- The row that an append makes. -/
theorem rows_append {F : Fz} {T : List Ty} {l new : List (Ty.R T)} {olds news rest : List Value} (hl : olds.length = l.length * T.length) (h1 : ∀ i x, l[i]? = some x → RRel F T x (fun k => olds[i * T.length + k]?)) (h2 : ∀ i x, new[i]? = some x → RRel F T x (fun k => news[i * T.length + k]?)) (hn : news.length = new.length * T.length) :
    RowsRel F T (l ++ new) (olds ++ news ++ rest).toArray 0 := by
  intro i x hx
  rw [List.getElem?_append] at hx
  split at hx
  · rename_i hi
    have hm : (i + 1) * T.length ≤ l.length * T.length := Nat.mul_le_mul_right _ hi
    rw [Nat.add_mul, Nat.one_mul] at hm
    refine RRel.congr (h1 i x hx) (fun k hk => ?_)
    rw [Nat.zero_add, List.getElem?_toArray, List.append_assoc, List.getElem?_append_left (by omega)]
  · rename_i hi
    have hil : i - l.length < new.length := (List.getElem?_eq_some_iff.1 hx).1
    have hm : (i - l.length + 1) * T.length ≤ new.length * T.length := Nat.mul_le_mul_right _ hil
    rw [Nat.add_mul, Nat.one_mul] at hm
    have hsub : i * T.length = l.length * T.length + (i - l.length) * T.length := by rw [← Nat.add_mul]; congr 1; omega
    refine RRel.congr (h2 _ x hx) (fun k hk => ?_)
    rw [Nat.zero_add, List.getElem?_toArray, List.append_assoc, List.getElem?_append_right (by omega), List.getElem?_append_left (by omega)]
    congr 1; omega
/-- A row grows into a new block. -/
theorem run_grow {F : Fz} {W : World} {t t2 ty e : TypeId} {T : List Ty} {i : TypeInfo} {z : Value} (E : Elem P t e T i z) {l new : List (Ty.R T)} {base : Option Addr} {cap : Nat} {v : Value} {olds news : List Value}
    (hold : ∀ w : World, w.heap = W.heap → (Builtin.firstCells i.size l.length (.slice base l.length cap)).run P w = .ok olds.toArray w) (hol : olds.length = l.length * T.length) (h1 : ∀ q x, l[q]? = some x → RRel F T x (fun k => olds[q * T.length + k]?))
    (hs : Src P T.length t2 v new.length news W) (h2 : ∀ q x, new[q]? = some x → RRel F T x (fun k => news[q * T.length + k]?)) (hg : cap < l.length + new.length) (hb : (l.length + new.length) * i.bytes ≤ 140737488355328) :
    ∃ (cap' : Nat) (c : Array Value), (Builtin.append_ #[t, t2] ty #[.slice base l.length cap, v]).run P W = .ok (.slice (some ⟨W.heap.size, 0, none⟩) (l ++ new).length cap') (W.drew.alloc (.cells c e)) ∧
      (l ++ new).length ≤ cap' ∧ cap' * T.length ≤ c.size ∧ RowsRel F T (l ++ new) c 0 := by
  have hlen : l.length + new.length ≤ 140737488355328 := Nat.le_trans (Nat.le_mul_of_pos_right _ E.bpos) hb
  have hr := run_append_grow_src (P := P) W t t2 ty e i z E.hu E.hi E.hz base l.length cap olds (hold _ rfl) v new.length news (by rw [E.size]; exact hs) hg (by omega) (growslice_fits hg hb)
  have hge := grownCap_ge W (l.length + new.length) cap e
  refine ⟨grownCap W (l.length + new.length) cap e, _, by rw [List.length_append]; exact hr, by rw [List.length_append]; exact hge, ?_, ?_⟩
  · simp only [Array.size_append, List.size_toArray, List.length_append, size_zeroCells, E.zsize, hol, hs.newsLen]
    rw [← Nat.add_mul, ← Nat.add_mul]
    exact Nat.mul_le_mul_right _ (by omega)
  · have := rows_append (rest := (Builtin.zeroCells z.cells (grownCap W (l.length + new.length) cap e - (l.length + new.length))).toList) hol h1 h2 hs.newsLen
    have e1 : ((olds ++ news).toArray ++ Builtin.zeroCells z.cells (grownCap W (l.length + new.length) cap e - (l.length + new.length))) = (olds ++ news ++ (Builtin.zeroCells z.cells (grownCap W (l.length + new.length) cap e - (l.length + new.length))).toList).toArray := by
      apply Array.ext'
      simp
    rw [e1]; exact this
end Go.Mini
end
section
set_option linter.unusedVariables false
set_option linter.unusedSimpArgs false
namespace Go.Mini
open Go.RowKit
variable {P : Program}
/-- What an append to an own row leaves. -/
theorem run_appOwn {ρ F W} {H : Heap} {t t2 ty e : TypeId} {T : List Ty} {i : TypeInfo} {z : Value} (E : Elem P t e T i z) {m : Nat} {l0 l new : List (Ty.R T)} {x v : Value} {news : List Value}
    (hR : Rel ρ F H W) (hg : hget H m = some (.r e T l0 false))
    (hx : (l = [] ∧ ∃ A, x = .slice A 0 0) ∨ ∃ j cap ca, ρ m = some (.lies j ca.size l0.length T.length) ∧ W.heap[j]? = some (.cells ca e (0, 0)) ∧ F j = none ∧ x = .slice (some ⟨j, 0, none⟩) l.length cap ∧ l.length ≤ cap ∧ cap * T.length ≤ ca.size ∧ RowsRel F T l ca 0)
    (hs : Src P T.length t2 v new.length news W) (h2 : ∀ q x, new[q]? = some x → RRel F T x (fun k => news[q * T.length + k]?)) (hb : (l.length + new.length) * i.bytes ≤ 140737488355328) :
    ∃ ρ' W' u, (Builtin.append_ #[t, t2] ty #[x, v]).run P W = .ok u W' ∧ VRel ρ' F (.sl m) u ∧ Rel ρ' F (hset (hpPurge m H) m (.r e T (l ++ new) false)) W' ∧ Grew ρ F H W ρ' F (hset (hpPurge m H) m (.r e T (l ++ new) false)) W' [m] := by
  have hA : ∀ L, ∀ k L', ρ k = some L' → k ≠ m → upd ρ m L k = some L' := fun L k L' hk hne => by rw [upd_ne _ _ hne]; exact hk
  have hFn : F W.heap.size = none := by
    cases hF : F W.heap.size with
    | none => rfl
    | some x => have := hR.flt hF; omega
  -- into a new block
  have grown : ∀ (cap' : Nat) (c : Array Value), (l ++ new).length ≤ cap' → cap' * T.length ≤ c.size → RowsRel F T (l ++ new) c 0 →
      ∃ ρ', VRel ρ' F (.sl m) (.slice (some ⟨W.heap.size, 0, none⟩) (l ++ new).length cap') ∧ Rel ρ' F (hset (hpPurge m H) m (.r e T (l ++ new) false)) (W.drew.alloc (.cells c e)) ∧ Grew ρ F H W ρ' F (hset (hpPurge m H) m (.r e T (l ++ new) false)) (W.drew.alloc (.cells c e)) [m] := by
    intro cap' c k1 k2 k3
    have hmul : (l ++ new).length * T.length ≤ c.size := Nat.le_trans (Nat.mul_le_mul_right _ k1) k2
    obtain ⟨r1, r2⟩ := hR.move (l' := l ++ new) hg (.lies W.heap.size c.size (l ++ new).length T.length) (W.drew.alloc (.cells c e))
      ⟨E.pos, .inr ⟨W.heap.size, c, upd_self _ _ _, heap_alloc_at W.drew _, hFn, hmul, k3⟩⟩
      (fun j s n w hj => by cases hj; exact .inr (Nat.le_refl _)) (fun j hj _ => heap_alloc_lt W.drew _ hj) (by show W.heap.size ≤ (W.heap.push _).size; simp) rfl rfl rfl
    refine ⟨_, ?_, r1, r2⟩
    simp only [VRel]
    exact .inr ⟨W.heap.size, _, _, _, cap', upd_self _ _ _, rfl, k1, k2⟩
  rcases hx with ⟨rfl, A, rfl⟩ | ⟨j, cap, ca, hr, hw, hF, rfl, hcap, hfit, hrow⟩
  · by_cases hm : new.length = 0
    · have hnew : new = [] := List.eq_nil_of_length_eq_zero hm
      subst hnew
      have hnews : news = [] := List.eq_nil_of_length_eq_zero (by simpa using hs.newsLen)
      subst hnews
      have hrun := run_append_nothing (P := P) W t t2 ty e i E.hu E.hi A 0 0 (Nat.le_refl _) v (by rw [E.size]; exact hs)
      obtain ⟨r1, r2⟩ := hR.move (l' := ([] : List (Ty.R T))) hg .no W ⟨E.pos, .inl ⟨rfl, upd_self _ _ _⟩⟩ (fun j s n w hj => by cases hj) (fun _ _ _ => rfl) (Nat.le_refl _) rfl rfl rfl
      exact ⟨_, _, _, hrun, by simp only [VRel]; exact .inl ⟨upd_self _ _ _, A, rfl⟩, r1, r2⟩
    · obtain ⟨cap', c, g1, g2, g3, g4⟩ := run_grow (ty := ty) E (l := []) (new := new) (base := A) (cap := 0) (olds := []) (fun w _ => by
          cases A with
          | none => exact run_firstCells_none w i.size 0 0 0
          | some ad => exact run_firstCells_some w i.size 0 ad 0 0 [] (by simp) (by simp)) (by simp) (by simp) hs h2 (by simp; omega) hb
      obtain ⟨ρ', q1, q3, q4⟩ := grown cap' c g2 g3 g4
      exact ⟨ρ', _, _, g1, q1, q3, q4⟩
  · by_cases hroom : l.length + new.length ≤ cap
    · have hm := Nat.mul_le_mul_right T.length hroom
      rw [Nat.add_mul] at hm
      have hnl := hs.newsLen
      have hrun := run_append_room_src (P := P) W t t2 ty e i E.hu E.hi j 0 l.length cap v new.length news (by rw [E.size]; exact hs) hroom
        (fun q hq => by rw [cell_of hw, E.size, Array.getElem?_eq_getElem (by omega)]; rfl) (fun q hq => by simp [World.frozen?, hw])
      rw [Nat.zero_add, E.size, setCells_row hw (by omega) hs.one] at hrun
      have hmul : (l ++ new).length * T.length ≤ ca.size := by rw [List.length_append, Nat.add_mul]; omega
      have hsize : ((ca.toList.take (l.length * T.length) ++ news ++ ca.toList.drop (l.length * T.length + news.length)).toArray).size = ca.size := by
        simp only [List.size_toArray, List.length_append, List.length_take, List.length_drop, Array.length_toList]; omega
      have hrows : RowsRel F T (l ++ new) (ca.toList.take (l.length * T.length) ++ news ++ ca.toList.drop (l.length * T.length + news.length)).toArray 0 :=
        rows_append (by rw [List.length_take, show ca.toList.length = ca.size from Array.length_toList]; omega) (fun q x hq => by
          have hql := (List.getElem?_eq_some_iff.1 hq).1
          have hqm : (q + 1) * T.length ≤ l.length * T.length := Nat.mul_le_mul_right _ hql
          rw [Nat.add_mul, Nat.one_mul] at hqm
          refine RRel.congr (hrow q x hq) (fun k hk => ?_)
          rw [Nat.zero_add, List.getElem?_take, if_pos (by omega), Array.getElem?_toList]) h2 hnl
      obtain ⟨r1, r2⟩ := hR.move (l' := l ++ new) hg (.lies j ca.size (l ++ new).length T.length) (W.setRow j (ca.toList.take (l.length * T.length) ++ news ++ ca.toList.drop (l.length * T.length + news.length)).toArray)
        ⟨E.pos, .inr ⟨j, _, by rw [hsize]; exact upd_self _ _ _, setRow_heap W j ca _ e _ hw, hF, by rw [hsize]; exact hmul, hrows⟩⟩
        (fun j' s n w hj => by cases hj; exact .inl ⟨_, _, _, hr⟩) (fun j' _ hj => setRow_other W j j' _ (fun e => hj _ _ _ (e ▸ hr))) (by rw [setRow_heapEq hw, Array.size_setIfInBounds]; exact Nat.le_refl _) rfl rfl rfl
      refine ⟨_, _, _, hrun, ?_, r1, r2⟩
      simp only [VRel]
      exact .inr ⟨j, _, _, _, cap, upd_self _ _ _, by rw [List.length_append], by rw [List.length_append]; exact hroom, hfit⟩
    · have hol : (ca.toList.take (l.length * T.length)).length = l.length * T.length := by
        have := Nat.mul_le_mul_right T.length hcap
        rw [List.length_take, show ca.toList.length = ca.size from Array.length_toList]; omega
      have hcells : ∀ q x, l[q]? = some x → RRel F T x (fun k => (ca.toList.take (l.length * T.length))[q * T.length + k]?) := fun q x hq => by
        have hql := (List.getElem?_eq_some_iff.1 hq).1
        have hqm : (q + 1) * T.length ≤ l.length * T.length := Nat.mul_le_mul_right _ hql
        rw [Nat.add_mul, Nat.one_mul] at hqm
        refine RRel.congr (hrow q x hq) (fun k hk => ?_)
        rw [Nat.zero_add, List.getElem?_take, if_pos (by omega), Array.getElem?_toList]
      obtain ⟨cap', c, g1, g2, g3, g4⟩ := run_grow (ty := ty) E (l := l) (new := new) (base := some ⟨j, 0, none⟩) (cap := cap) (olds := ca.toList.take (l.length * T.length)) (fun w hweq => by
          rw [E.size]
          refine run_firstCells_some w T.length l.length ⟨j, 0, none⟩ l.length cap _ hol (fun q u hq => ?_)
          rw [add_plain, cell_of (by rw [hweq]; exact hw), Nat.zero_add]
          rw [List.getElem?_take] at hq
          split at hq
          · rw [← Array.getElem?_toList]; exact hq
          · cases hq) hol hcells hs h2 (by omega) hb
      obtain ⟨ρ', q1, q3, q4⟩ := grown cap' c g2 g3 g4
      exact ⟨ρ', _, _, g1, q1, q3, q4⟩
/-- An append to a row that is read alone: a new row. -/
theorem run_appNew {ρ F W} {H : Heap} {slot : Nat} (hfree : Free H slot) {t t2 ty e : TypeId} {T : List Ty} {i : TypeInfo} {z : Value} (E : Elem P t e T i z) {l new : List (Ty.R T)} {A : Option Addr} {v : Value} {news : List Value}
    (hR : Rel ρ F H W) (hl : l = [] ∨ new ≠ []) (hx : DRel F (.sl T) l (.slice A l.length l.length))
    (hs : Src P T.length t2 v new.length news W) (h2 : ∀ q x, new[q]? = some x → RRel F T x (fun k => news[q * T.length + k]?)) (hb : (l.length + new.length) * i.bytes ≤ 140737488355328) :
    ∃ ρ' W' u, (Builtin.append_ #[t, t2] ty #[.slice A l.length l.length, v]).run P W = .ok u W' ∧ VRel ρ' F (.sl slot) u ∧ Rel ρ' F (putAt H slot (.r e T (l ++ new) false)) W' ∧ Grew ρ F H W ρ' F (putAt H slot (.r e T (l ++ new) false)) W' [] := by
  by_cases hm : new = []
  · subst hm
    have hl0 : l = [] := hl.resolve_right (fun h => h rfl)
    subst hl0
    have hnews : news = [] := List.eq_nil_of_length_eq_zero (by simpa using hs.newsLen)
    subst hnews
    have hrun := run_append_nothing (P := P) W t t2 ty e i E.hu E.hi A 0 0 (Nat.le_refl _) v (by rw [E.size]; exact hs)
    obtain ⟨ρ', r1, r2, r3, r4⟩ := hR.newNo hfree E.pos
    exact ⟨ρ', _, _, hrun, r1 A, r3, r4⟩
  · have hpos : 0 < new.length := List.length_pos_iff.2 hm
    have hcells : ∃ olds : List Value, (∀ w : World, w.heap = W.heap → (Builtin.firstCells i.size l.length (.slice A l.length l.length)).run P w = .ok olds.toArray w) ∧ olds.length = l.length * T.length ∧ ∀ q x, l[q]? = some x → RRel F T x (fun k => olds[q * T.length + k]?) := by
      simp only [DRel] at hx
      obtain ⟨A', cap, hA, _, hrows⟩ := hx
      cases hA
      rcases hrows with hl0 | ⟨ad, c, rfl, q1, q2, q3⟩
      · have : l = [] := hl0
        subst this
        refine ⟨[], fun w _ => ?_, by simp, by simp⟩
        cases A with
        | none => exact run_firstCells_none w i.size 0 0 0
        | some ad => exact run_firstCells_some w i.size 0 ad 0 0 [] (by simp) (by simp)
      · obtain ⟨b, o, sp⟩ := ad
        simp only at q1; subst q1
        obtain ⟨e', fr, hw⟩ := hR.fz _ _ q2
        obtain ⟨olds, n1, n2, n3, n4⟩ := rows_cells l o q3
        refine ⟨olds, fun w hweq => ?_, n1, n4⟩
        rw [E.size]
        exact run_firstCells_some w T.length l.length ⟨b, o, none⟩ l.length l.length olds n1 (fun q u hq => by rw [add_plain, cell_of (by rw [hweq]; exact hw)]; exact n2 q u hq)
    obtain ⟨olds, o1, o2, o3⟩ := hcells
    obtain ⟨cap', c, g1, g2, g3, g4⟩ := run_grow (ty := ty) E o1 o2 o3 hs h2 (by omega) hb
    have hmul : (l ++ new).length * T.length ≤ c.size := Nat.le_trans (Nat.mul_le_mul_right _ g2) g3
    have hR' : Rel ρ F H W.drew := hR.same rfl
    obtain ⟨ρ', k1, k2, k3, k4⟩ := hR'.newRow hfree E.pos hmul g4 e
    exact ⟨ρ', _, _, g1, k1 _ cap' rfl g2 g3, k3, ⟨k4.agree, k4.len, k4.fle, k4.fnew, k4.frame, k4.own, k4.size, k4.os, k4.tape, k4.output⟩⟩
end Go.Mini
end
