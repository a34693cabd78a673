/-
  Own engine, part 3: what an operation does to a symbolic state, and the types that it asks about.
-/
import Derived.Test.YthknholdgnfkmaaVc2
import Derived.IntWalk
import Derived.KernelRfl
namespace Go.Vc
open Go.RowKit
set_option linter.unusedVariables false

structure Ty where
  kind : Nat
  agg : Bool
  size : Nat
  bytes : Nat
  zero : List Value
  offs : List (Nat × Nat × Bool)
  elem : Option TypeId

def isAggB (P : Program) (t : TypeId) : Bool :=
  match P.underlying t with
  | some (.struct _) => true
  | some (.array _ _) => true
  | _ => false

def kindOf : TypeDesc → Nat
  | .bool => 1
  | .int _ => 2
  | .string => 3
  | .slice _ => 4
  | .struct _ => 5
  | .pointer _ => 6
  | .func _ _ _ => 7
  | _ => 0

def cellsIn (P : Program) (t : TypeId) : Nat := if (P.underlying t).isSome then P.cellsOf t else 0
def offsOf (P : Program) : TypeDesc → List (Nat × Nat × Bool)
  | .struct fs => fs.toList.map fun f => (f.offset, cellsIn P f.type, isAggB P f.type)
  | _ => []
def elemIn : TypeDesc → Option TypeId
  | .slice e => some e
  | _ => none

def tyOf (P : Program) (t : TypeId) : Option Ty :=
  match P.info? t, P.underlying t with
  | some i, some d =>
    match i.zero with
    | some z => some ⟨kindOf d, isAggB P t, i.size, i.bytes, z.cells.toList, offsOf P d, elemIn d⟩
    | none => none
  | _, _ => none

/-- What an integer kind holds. -/
def InR : IntKind → Int → Prop
  | .i8, n => -128 ≤ n ∧ n ≤ 127
  | .i16, n => -32768 ≤ n ∧ n ≤ 32767
  | .i32, n => -2147483648 ≤ n ∧ n ≤ 2147483647
  | .i64, n => -9223372036854775808 ≤ n ∧ n ≤ 9223372036854775807
  | .u8, n => 0 ≤ n ∧ n ≤ 255
  | .u16, n => 0 ≤ n ∧ n ≤ 65535
  | .u32, n => 0 ≤ n ∧ n ≤ 4294967295
  | .u64, n => 0 ≤ n ∧ n ≤ 18446744073709551615

theorem wrap_in {k : IntKind} {n : Int} (h : InR k n) : k.wrap n = n := by
  cases k <;> simp only [InR] at h <;> simp [IntKind.wrap, IntKind.bits, IntKind.signed] <;> omega

def kEq : IntKind → IntKind → Bool := fun a b => a == b

def preP : Option Prop → Prop
  | none => True
  | some p => p

structure Out (D : Type) where
  pre : Option Prop
  val : Sl D
  blks : List (Nat × Option (Bk D))

abbrev Ct (D : Type) := List (Sl D) → Option (Option Prop × Sl D)

def ofLf {D : Type} : Value → Lf D
  | .int k n => .int k n
  | .string s => .str s.data.toList
  | v => .val v

def ofVal {D : Type} : Value → Sl D
  | .agg cs => .one (.agg (cs.toList.map ofLf))
  | v => .one (.lf (ofLf v))

/-- A bool, known or not. -/
def bOf {D : Type} : Sl D → Option Bool
  | .one (.lf (.bool b)) => some b
  | .one (.lf (.val (.bool b))) => some b
  | _ => none

def Lf.norm {D : Type} : Lf D → Lf D
  | .val (.bool b) => .bool b
  | x => x
def Sv.norm {D : Type} : Sv D → Sv D
  | .lf x => .lf x.norm
  | .agg xs => .agg (xs.map Lf.norm)
def Sl.norm {D : Type} : Sl D → Sl D
  | .one x => .one x.norm
  | .tup xs => .tup (xs.map Sv.norm)

def opnd {D : Type} (slot : Nat → Sl D) : Operand → Sl D
  | .tmp t => slot t
  | .const v => ofVal v
  | .func f => .one (.lf (.fn f []))
  | .global _ => .one (.lf .any)

def Sv.cells {D : Type} : Sv D → List (Lf D)
  | .lf x => [x]
  | .agg xs => xs

def putAt {D : Type} (cs : List (Lf D)) (o : Nat) (xs : List (Lf D)) : List (Lf D) := cs.take o ++ (xs ++ cs.drop (o + xs.length))

def Lf.storable {D : Type} : Lf D → Bool
  | .any => false
  | .val (.agg _) => false
  | .val (.tuple _) => false
  | _ => true

/-- As many cells as it has. -/
def Sv.whole {D : Type} : Sv D → Bool
  | .lf x => x.storable
  | .agg _ => true

section
variable {D : Type}

def lfO (pre : Option Prop) (x : Lf D) : Option (Out D) := some ⟨pre, .one (.lf x), []⟩

def xInt (op : BinOp) (k : IntKind) (a b : Int) : Option (Out D) :=
  match op with
  | .add => lfO (some (InR k (a + b))) (.int k (a + b))
  | .sub => lfO (some (InR k (a - b))) (.int k (a - b))
  | .mul => lfO (some (InR k (a * b))) (.int k (a * b))
  | .eql => lfO none (.bool (a == b))
  | .neq => lfO none (.bool (a != b))
  | .lss => lfO none (.bool (decide (a < b)))
  | .leq => lfO none (.bool (decide (a ≤ b)))
  | .gtr => lfO none (.bool (decide (b < a)))
  | .geq => lfO none (.bool (decide (b ≤ a)))
  | _ => none

def xStr (op : BinOp) (a b : List UInt8) : Option (Out D) :=
  match op with
  | .eql => lfO none (.bool (a == b))
  | .neq => lfO none (.bool (a != b))
  | .lss => lfO none (.bool (Op.bytesLess a b))
  | .leq => lfO none (.bool (Op.bytesLess a b || a == b))
  | .gtr => lfO none (.bool (!(Op.bytesLess a b || a == b)))
  | .geq => lfO none (.bool (!Op.bytesLess a b))
  | _ => none

def xBin (T : TypeId → Option Ty) (op : BinOp) (t : TypeId) (x y : Sl D) : Option (Out D) :=
  match x, y with
  | .one (.lf (.int k a)), .one (.lf (.int k' b)) => if kEq k k' then xInt op k a b else none
  | .one (.lf (.str a)), .one (.lf (.str b)) => xStr op a b
  | x, y =>
    match bOf x, bOf y with
    | some a, some b =>
      (match T t with
      | some ty => if ty.kind == 1 then (match op with
        | .eql => lfO none (.bool (a == b))
        | .neq => lfO none (.bool (a != b))
        | _ => none) else none
      | none => none)
    | _, _ => none

def xUn (op : UnOp) (x : Sl D) : Option (Out D) :=
  match op, x with
  | .not, .one (.lf (.bool b)) => lfO none (.bool (!b))
  | .not, .one (.lf (.val (.bool b))) => lfO none (.val (.bool (!b)))
  | .neg, .one (.lf (.int k n)) => lfO (some (InR k (-n))) (.int k (-n))
  | _, _ => none

def cellRun (S : Sh D) (d : D) (i : Nat) : Nat → Nat → List (Lf D)
  | _, 0 => []
  | j, n + 1 => S.cell d i j :: cellRun S d i (j + 1) n

def xLoad (T : TypeId → Option Ty) (S : Sh D) (blk : Nat → Option (Bk D)) (t : TypeId) (x : Sl D) : Option (Out D) :=
  match T t with
  | none => none
  | some ty =>
    match x with
    | .one (.lf (.ptr l o)) =>
      match blk l with
      | some (.cells cs) =>
        if ty.agg then (if Nat.ble (o + ty.size) cs.length then some ⟨none, .one (.agg ((cs.drop o).take ty.size)), []⟩ else none)
        else (match cs[o]? with
          | some y => lfO none y
          | none => none)
      | _ => none
    | .one (.lf (.elt d i j)) =>
      if ty.agg then (if Nat.ble (j + ty.size) (S.size d) then some ⟨none, .one (.agg (cellRun S d i j ty.size)), []⟩ else none)
      else (if Nat.blt j (S.size d) then lfO none (S.cell d i j) else none)
    | .one (.lf (.opt l i j sz)) =>
      match blk l with
      | some (.row e d) =>
        if ty.agg then (if Nat.ble (j + ty.size) (S.size d) && Nat.beq sz (S.size d) then some ⟨some (i < S.len d), .one (.agg (cellRun S d i j ty.size)), []⟩ else none)
        else (if Nat.blt j (S.size d) && Nat.beq sz (S.size d) then lfO (some (i < S.len d)) (S.cell d i j) else none)
      | _ => none
    | _ => none

def xStore (T : TypeId → Option Ty) (blk : Nat → Option (Bk D)) (t : TypeId) (x y : Sl D) : Option (Out D) :=
  match T t, x, y with
  | some ty, .one (.lf (.ptr l o)), .one u =>
    match blk l with
    | some (.cells cs) =>
      if Nat.beq u.cells.length ty.size && Nat.ble (o + u.cells.length) cs.length && u.cells.all Lf.storable then some ⟨none, .one (.lf .any), [(l, some (.cells (putAt cs o u.cells)))]⟩ else none
    | _ => none
  | _, _, _ => none

def xField (T : TypeId → Option Ty) (t : TypeId) (x : Sl D) (f : Nat) : Option (Out D) :=
  match T t with
  | none => none
  | some ty =>
    match ty.offs[f]?, x with
    | some (off, sz, _), .one (.lf (.ptr l o)) => if Nat.beq sz 0 then none else lfO none (.ptr l (o + off))
    | some (off, sz, _), .one (.lf (.elt d i j)) => if Nat.beq sz 0 then none else lfO none (.elt d i (j + off))
    | some (off, sz, _), .one (.lf (.opt l i j z)) => if Nat.beq sz 0 then none else lfO none (.opt l i (j + off) z)
    | _, _ => none

def xPart (T : TypeId → Option Ty) (t : TypeId) (x : Sl D) (f : Nat) : Option (Out D) :=
  match T t with
  | none => none
  | some ty =>
    match ty.offs[f]?, x with
    | some (off, sz, ag), .one (.agg cs) =>
      if Nat.beq sz 0 then none else if ag then (if Nat.ble (off + sz) cs.length then some ⟨none, .one (.agg ((cs.drop off).take sz)), []⟩ else none)
      else (match cs[off]? with
        | some y => lfO none y
        | none => none)
    | _, _ => none

def xIndex (T : TypeId → Option Ty) (S : Sh D) (blk : Nat → Option (Bk D)) (t : TypeId) (x i : Sl D) : Option (Out D) :=
  match T t with
  | none => none
  | some ty =>
    match ty.elem with
    | none => none
    | some e =>
      match T e with
      | none => none
      | some te =>
        match x, i with
        | .one (.lf (.dat d)), .one (.lf (.int _ n)) => if Nat.beq te.size (S.size d) && Nat.blt 0 te.size then lfO (some (0 ≤ n ∧ n < S.len d)) (.elt d n.toNat 0) else none
        | .one (.lf (.own l)), .one (.lf (.int _ n)) =>
          match blk l with
          | some (.row _ d) => if Nat.beq te.size (S.size d) && Nat.blt 0 te.size then lfO (some (0 ≤ n ∧ n < S.len d)) (.opt l n.toNat 0 te.size) else none
          | _ => none
        | _, _ => none

def xExtract (x : Sl D) (i : Nat) : Option (Out D) :=
  match x with
  | .tup xs => (match xs[i]? with
    | some y => some ⟨none, .one y, []⟩
    | none => none)
  | _ => none

def fillIn (ty : Ty) (slot : Nat → Sl D) : List (Nat × Operand) → List (Lf D) → Option (List (Lf D))
  | [], cs => some cs
  | (f, x) :: r, cs =>
    match ty.offs[f]?, opnd slot x with
    | some (off, sz, _), .one u => if u.whole && Nat.beq u.cells.length sz && Nat.ble (off + sz) cs.length then fillIn ty slot r (putAt cs off u.cells) else none
    | _, _ => none

def xBuild (T : TypeId → Option Ty) (slot : Nat → Sl D) (t : TypeId) (parts : Array (Nat × Operand)) : Option (Out D) :=
  match T t with
  | some ty =>
    if ty.kind == 5 && ty.offs.all (fun f => !Nat.beq f.2.1 0) then (match fillIn ty slot parts.toList (ty.zero.map ofLf) with
      | some cs => some ⟨none, .one (.agg cs), []⟩
      | none => none) else none
  | none => none

def fillRow (sz : Nat) (slot : Nat → Sl D) : List (Nat × Operand) → List (Lf D) → Option (List (Lf D))
  | [], cs => some cs
  | (i, x) :: r, cs =>
    match opnd slot x with
    | .one u => if u.whole && Nat.beq u.cells.length sz && Nat.ble (i * sz + sz) cs.length then fillRow sz slot r (putAt cs (i * sz) u.cells) else none
    | _ => none

def xRow (T : TypeId → Option Ty) (S : Sh D) (slot : Nat → Sl D) (t : TypeId) (len : Nat) (parts : Array (Nat × Operand)) : Option (Out D) :=
  match T t with
  | none => none
  | some ty =>
    match ty.elem with
    | none => none
    | some e =>
      match T e with
      | none => none
      | some te =>
        if Nat.ble (len * te.size) 16777216 && Nat.blt 0 te.size && Nat.beq te.zero.length te.size then (match fillRow te.size slot parts.toList ((List.range (len * te.size)).map fun k => ofLf ((te.zero[k % te.size]?).getD (.bool false))) with
          | some cs => (match S.make e len (cs.map Lf.norm) with
            | some d => lfO none (.dat d)
            | none => none)
          | none => none) else none

def xPick (slot : Nat → Sl D) (c a b : Operand) : Option (Out D) :=
  match opnd slot c with
  | .one (.lf (.val (.bool true))) => some ⟨none, opnd slot a, []⟩
  | .one (.lf (.val (.bool false))) => some ⟨none, opnd slot b, []⟩
  | .one (.lf (.bool t)) =>
    match bOf (opnd slot a), bOf (opnd slot b) with
    | some x, some y => lfO none (.bool (bif t then x else y))
    | _, _ => none
  | _ => none

def xLen (S : Sh D) (T : TypeId → Option Ty) (blk : Nat → Option (Bk D)) (ts : Array TypeId) (x : Sl D) : Option (Out D) :=
  match ts[0]? with
  | none => none
  | some t =>
    match T t with
    | none => none
    | some ty =>
      match x with
      | .one (.lf (.dat d)) => if ty.kind == 4 then lfO none (.int .i64 (S.len d)) else none
      | .one (.lf (.str s)) => if ty.kind == 3 then lfO none (.int .i64 s.length) else none
      | .one (.lf (.own l)) => (match blk l with
        | some (.row _ d) => if ty.kind == 4 then lfO none (.int .i64 (S.len d)) else none
        | _ => none)
      | _ => none

def xMin (b : Builtin) (x y : Sl D) : Option (Out D) :=
  match b, x, y with
  | .min, .one (.lf (.int k a)), .one (.lf (.int _ c)) => lfO none (.int k (min a c))
  | .max, .one (.lf (.int k a)), .one (.lf (.int _ c)) => lfO none (.int k (max a c))
  | _, _, _ => none

/-- No block of the call's own is named. -/
def Lf.closed : Lf D → Bool
  | .ptr _ _ | .own _ | .opt _ _ _ _ | .fn _ (_ :: _) => false
  | _ => true
def Sv.closed : Sv D → Bool
  | .lf x => x.closed
  | .agg xs => xs.all Lf.closed
def Sl.closed : Sl D → Bool
  | .one x => x.closed
  | .tup xs => xs.all Sv.closed

def xCall (Γ : FuncId → Option (Ct D)) (f : FuncId) (args : List (Sl D)) (fr : Nat) : Option (Out D) :=
  match Γ f with
  | none => none
  | some ct =>
    if args.all Sl.closed then (match ct (args.map Sl.norm) with
      | some (p, .one (.lf (.new e d))) => some ⟨p, .one (.lf (.own fr)), [(fr, some (.row e d))]⟩
      | some (p, r) => some ⟨p, r, []⟩
      | none => none) else none

def xOp (T : TypeId → Option Ty) (S : Sh D) (Γ : FuncId → Option (Ct D)) (slot : Nat → Sl D) (blk : Nat → Option (Bk D)) (fr : Nat) (o : Op) : Option (Out D) :=
  match o with
  | .move x => some ⟨none, opnd slot x, []⟩
  | .assign x => some ⟨none, opnd slot x, []⟩
  | .pick c a b => xPick slot c a b
  | .alloc t => (match T t with
    | some ty => some ⟨none, .one (.lf (.ptr fr 0)), [(fr, some (.cells (ty.zero.map ofLf)))]⟩
    | none => none)
  | .box _ x => (match opnd slot x with
    | .one u => if u.whole then some ⟨none, .one (.lf (.ptr fr 0)), [(fr, some (.cells u.cells))]⟩ else none
    | _ => none)
  | .build t parts => xBuild T slot t parts
  | .buildSlice t len parts => xRow T S slot t len parts
  | .load t x => xLoad T S blk t (opnd slot x)
  | .store t x y => xStore T blk t (opnd slot x) (opnd slot y)
  | .nilCheck x => (match opnd slot x with
    | .one (.lf (.ptr l o)) => lfO none (.ptr l o)
    | .one (.lf (.elt d i j)) => lfO none (.elt d i j)
    | .one (.lf (.opt l i j sz)) => lfO none (.opt l i j sz)
    | .one (.lf (.fn f caps)) => lfO none (.fn f caps)
    | _ => none)
  | .binOp op t x y _ => xBin T op t (opnd slot x) (opnd slot y)
  | .unOp op _ x => xUn op (opnd slot x)
  | .fieldAddr t x f => xField T t (opnd slot x) f
  | .field t x f => xPart T t (opnd slot x) f
  | .indexAddr t x i => xIndex T S blk t (opnd slot x) (opnd slot i)
  | .extract x i => xExtract (opnd slot x) i
  | .call c => (match c.callee with
    | .builtin .len => (match c.args.toList with
      | [x] => xLen S T blk c.argTypes (opnd slot x)
      | _ => none)
    | .builtin .min => (match c.args.toList with
      | [x, y] => xMin .min (opnd slot x) (opnd slot y)
      | _ => none)
    | .builtin .max => (match c.args.toList with
      | [x, y] => xMin .max (opnd slot x) (opnd slot y)
      | _ => none)
    | .value f => (match opnd slot f with
      | .one (.lf (.fn f [])) => xCall Γ f (c.args.toList.map (opnd slot)) fr
      | _ => none)
    | _ => none)
  | _ => none
end
end Go.Vc
