/-
  Own engine, part 3: what an operation does to a symbolic state, and the types that it asks about.
-/
import Derived.Test.YtemjcccdcnhmhaaGreatDoorVd2
import Derived.IntWalk
import Derived.KernelRfl
namespace Go.Vc
open Go.RowKit
set_option linter.unusedVariables false

structure Ty where
  kind : Nat
  agg : Bool
  size : Nat
  bytes : Nat
  zero : List Value
  offs : List (Nat × Nat × Bool)
  elem : Option TypeId
  eqs : List Nat
  lit : Bool
  arr : Option (TypeId × Nat)
  zag : Bool

def isAggB (P : Program) (t : TypeId) : Bool :=
  match P.underlying t with
  | some (.struct _) => true
  | some (.array _ _) => true
  | _ => false

def ikNo : IntKind → Nat
  | .i8 => 20
  | .i16 => 21
  | .i32 => 22
  | .i64 => 23
  | .u8 => 24
  | .u16 => 25
  | .u32 => 26
  | .u64 => 27
def noIk : Nat → Option IntKind
  | 20 => some .i8
  | 21 => some .i16
  | 22 => some .i32
  | 23 => some .i64
  | 24 => some .u8
  | 25 => some .u16
  | 26 => some .u32
  | 27 => some .u64
  | _ => none
@[simp] theorem ikNo_1 (k : IntKind) : (ikNo k = 1) = False := by cases k <;> simp [ikNo]
@[simp] theorem ikNo_3 (k : IntKind) : (ikNo k = 3) = False := by cases k <;> simp [ikNo]
@[simp] theorem ikNo_4 (k : IntKind) : (ikNo k = 4) = False := by cases k <;> simp [ikNo]
@[simp] theorem ikNo_5 (k : IntKind) : (ikNo k = 5) = False := by cases k <;> simp [ikNo]
def kindOf : TypeDesc → Nat
  | .bool => 1
  | .int k => ikNo k
  | .string => 3
  | .slice _ => 4
  | .struct _ => 5
  | .pointer _ => 6
  | .func _ _ _ => 7
  | _ => 0

def cellsIn (P : Program) (t : TypeId) : Nat := if (P.underlying t).isSome then P.cellsOf t else 0
def offsOf (P : Program) : TypeDesc → List (Nat × Nat × Bool)
  | .struct fs => fs.toList.map fun f => (f.offset, cellsIn P f.type, isAggB P f.type)
  | _ => []
def elemIn : TypeDesc → Option TypeId
  | .slice e => some e
  | _ => none

/-- The kinds of a flat struct's fields, where two such structs can be compared field by field. -/
def eqKind (P : Program) (t : TypeId) : Option Nat :=
  match P.underlying t with
  | some .bool => some 1
  | some (.int _) => some 2
  | some .string => some 3
  | _ => none
def eqFields (P : Program) : Nat → List Field → Option (List Nat)
  | _, [] => some []
  | i, f :: r =>
    match eqKind P f.type, eqFields P (i + 1) r with
    | some k, some ks => if Nat.beq f.offset i && !(f.name == "_") && Nat.beq (cellsIn P f.type) 1 then some (k :: ks) else none
    | _, _ => none
def eqsOf (P : Program) (t : TypeId) : TypeDesc → List Nat
  | .struct fs => if P.stoodInHeld t || P.eqGuardType P.depth t then [] else (match eqFields P 0 fs.toList with
    | some ks => ks
    | none => [])
  | _ => []

def arrIn : TypeDesc → Option (TypeId × Nat)
  | .array n e => some (e, n)
  | _ => none
def isAggV : Value → Bool
  | .agg _ => true
  | _ => false
def tyOf (P : Program) (t : TypeId) : Option Ty :=
  match P.info? t, P.underlying t with
  | some i, some d =>
    match i.zero with
    | some z => some ⟨kindOf d, isAggB P t, i.size, i.bytes, z.cells.toList, offsOf P d, elemIn d, eqsOf P t d, false, arrIn d, isAggV z⟩
    | none => none
  | _, _ => none

/-- What T says of a type is so ('lit' is no word on the program: whether a literal of the type stays the call's own). -/
def TyOk (P : Program) (t : TypeId) (ty : Ty) : Prop := tyOf P t = some { ty with lit := false }

/-- What an integer kind holds. -/
def InR : IntKind → Int → Prop
  | .i8, n => -128 ≤ n ∧ n ≤ 127
  | .i16, n => -32768 ≤ n ∧ n ≤ 32767
  | .i32, n => -2147483648 ≤ n ∧ n ≤ 2147483647
  | .i64, n => -9223372036854775808 ≤ n ∧ n ≤ 9223372036854775807
  | .u8, n => 0 ≤ n ∧ n ≤ 255
  | .u16, n => 0 ≤ n ∧ n ≤ 65535
  | .u32, n => 0 ≤ n ∧ n ≤ 4294967295
  | .u64, n => 0 ≤ n ∧ n ≤ 18446744073709551615

theorem wrap_in {k : IntKind} {n : Int} (h : InR k n) : k.wrap n = n := by
  cases k <;> simp only [InR] at h <;> simp [IntKind.wrap, IntKind.bits, IntKind.signed] <;> omega

/-- Numbers, as a kind holds them. -/
def wrp (k : IntKind) (n : Int) : Int := k.wrap n
theorem wrp_in {k : IntKind} {n : Int} (h : InR k n) : wrp k n = n := wrap_in h
def andI (k : IntKind) (x y : Int) : Int := k.wrap (BitVec.ofInt k.bits x &&& BitVec.ofInt k.bits y).toNat
def orI (k : IntKind) (x y : Int) : Int := k.wrap (BitVec.ofInt k.bits x ||| BitVec.ofInt k.bits y).toNat
def xorI (k : IntKind) (x y : Int) : Int := k.wrap (BitVec.ofInt k.bits x ^^^ BitVec.ofInt k.bits y).toNat
def ansI (k : IntKind) (x y : Int) : Int := k.wrap (BitVec.ofInt k.bits x &&& ~~~BitVec.ofInt k.bits y).toNat
def shlI (k : IntKind) (x y : Int) : Int := k.wrap (x * 2 ^ (min y.toNat k.bits))
def shrI (k : IntKind) (x y : Int) : Int := x.fdiv (2 ^ (min y.toNat k.bits))

def kEq : IntKind → IntKind → Bool := fun a b => a == b

def preP : Option Prop → Prop
  | none => True
  | some p => p

structure Out (D : Type) where
  pre : Option Prop
  val : Sl D
  blks : List (Nat × Option (Bk D))

/-- A contract: the arguments, the blocks that they reach (by number); what must hold, what comes back, what the blocks are then (new ones behind the old), which ones are as they were. -/
abbrev Ct (D : Type) := List (Sl D) → List (Bk D) → Option (Option Prop × Sl D × List (Nat × Bk D) × List Nat)

def ofLf {D : Type} : Value → Lf D
  | .int k n => .int k n
  | .string s => if Nat.ble s.data.size 9223372036854775807 then .str s.data.toList else .val (.string s)
  | .nilIface => .ifc none
  | v => .val v

def ofVal {D : Type} : Value → Sl D
  | .agg cs => .one (.agg (cs.toList.map ofLf))
  | v => .one (.lf (ofLf v))

/-- A bool, known or not. -/
def bOf {D : Type} : Sl D → Option Bool
  | .one (.lf (.bool b)) => some b
  | .one (.lf (.val (.bool b))) => some b
  | _ => none

def Lf.norm {D : Type} : Lf D → Lf D
  | .val (.bool b) => .bool b
  | x => x
def Sv.norm {D : Type} : Sv D → Sv D
  | .lf x => .lf x.norm
  | .agg xs => .agg (xs.map Lf.norm)
def Sl.norm {D : Type} : Sl D → Sl D
  | .one x => .one x.norm
  | .tup xs => .tup (xs.map Sv.norm)

def opnd {D : Type} (slot : Nat → Sl D) : Operand → Sl D
  | .tmp t => slot t
  | .const v => ofVal v
  | .func f => .one (.lf (.fn f []))
  | .global i => .one (.lf (.glb i))

def Sv.cells {D : Type} : Sv D → List (Lf D)
  | .lf x => [x]
  | .agg xs => xs

def putAt {D : Type} (cs : List (Lf D)) (o : Nat) (xs : List (Lf D)) : List (Lf D) := cs.take o ++ (xs ++ cs.drop (o + xs.length))

def Lf.storable {D : Type} : Lf D → Bool
  | .any => false
  | .val (.agg _) => false
  | .val (.tuple _) => false
  | _ => true

/-- As many cells as it has. -/
def Sv.whole {D : Type} : Sv D → Bool
  | .lf x => x.storable
  | .agg _ => true

def firstOf {α : Type} : Option α → Option α → Option α
  | some a, _ => some a
  | none, b => b

section
variable {D : Type}

def lfO (pre : Option Prop) (x : Lf D) : Option (Out D) := some ⟨pre, .one (.lf x), []⟩

def xInt (op : BinOp) (k : IntKind) (a b : Int) : Option (Out D) :=
  match op with
  | .add => lfO none (.int k (wrp k (a + b)))
  | .sub => lfO none (.int k (wrp k (a - b)))
  | .mul => lfO none (.int k (wrp k (a * b)))
  | .and => lfO none (.int k (andI k a b))
  | .or => lfO none (.int k (orI k a b))
  | .xor => lfO none (.int k (xorI k a b))
  | .andNot => lfO none (.int k (ansI k a b))
  | .quo => lfO (some (b ≠ 0)) (.int k (wrp k (a.tdiv b)))
  | .rem => lfO (some (b ≠ 0)) (.int k (a.tmod b))
  | .eql => lfO none (.bool (a == b))
  | .neq => lfO none (.bool (a != b))
  | .lss => lfO none (.bool (decide (a < b)))
  | .leq => lfO none (.bool (decide (a ≤ b)))
  | .gtr => lfO none (.bool (decide (b < a)))
  | .geq => lfO none (.bool (decide (b ≤ a)))
  | _ => none

def xShl (k : IntKind) (a b : Int) : Option (Out D) := lfO (some (0 ≤ b)) (.int k (shlI k a b))
def xShr (k : IntKind) (a b : Int) : Option (Out D) := lfO (some (0 ≤ b)) (.int k (shrI k a b))

def xStr (op : BinOp) (a b : List UInt8) : Option (Out D) :=
  match op with
  | .eql => lfO none (.bool (a == b))
  | .neq => lfO none (.bool (a != b))
  | .lss => lfO none (.bool (Op.bytesLess a b))
  | .leq => lfO none (.bool (Op.bytesLess a b || a == b))
  | .gtr => lfO none (.bool (!(Op.bytesLess a b || a == b)))
  | .geq => lfO none (.bool (!Op.bytesLess a b))
  | .add => lfO (some (a.length + b.length ≤ 9223372036854775807)) (.str (a ++ b))
  | _ => none

/-- Are two flat structs alike? -/
def eq1 (k : Nat) (x y : Lf D) : Option Bool :=
  match k with
  | 1 => (match x, y with
    | .bool a, .bool b => some (a == b)
    | _, _ => none)
  | 2 => (match x, y with
    | .int k a, .int k' b => if kEq k k' then some (a == b) else none
    | _, _ => none)
  | 3 => (match x, y with
    | .str a, .str b => some (a == b)
    | _, _ => none)
  | _ => none
def eqLfs : List Nat → List (Lf D) → List (Lf D) → Option Bool
  | [], [], [] => some true
  | k :: ks, x :: xs, y :: ys =>
    (match eq1 k x y, eqLfs ks xs ys with
    | some e, some r => some (e && r)
    | _, _ => none)
  | _, _, _ => none

/-- A slice against nil. -/
def xNilq (T : TypeId → Option Ty) (S : Sh D) (op : BinOp) (t : TypeId) (x y : Sl D) : Option (Out D) :=
  match T t with
  | none => none
  | some ty => (match ty.elem, x, y with
    | some _, .one (.lf (.dat d)), .one (.lf (.val (.slice none 0 0))) => if Nat.blt 0 (S.size d) then (match op with
      | .eql => lfO none (.unk fun b => b = true → S.len d = 0)
      | .neq => lfO none (.unk fun b => b = false → S.len d = 0)
      | _ => none) else none
    | some _, .one (.lf (.val (.slice none 0 0))), .one (.lf (.val (.slice none 0 0))) => (match op with
      | .eql => lfO none (.val (.bool true))
      | .neq => lfO none (.val (.bool false))
      | _ => none)
    | _, _, _ => none)

def xBin (T : TypeId → Option Ty) (op : BinOp) (t : TypeId) (x y : Sl D) : Option (Out D) :=
  match x, y with
  | .one (.lf (.int k a)), .one (.lf (.int k' b)) => (match op with
    | .shl => xShl k a b
    | .shr => xShr k a b
    | op => if kEq k k' then xInt op k a b else none)
  | .one (.lf (.str a)), .one (.lf (.str b)) => xStr op a b
  | .one (.agg xs), .one (.agg ys) =>
    (match T t with
    | some ty => (match ty.eqs with
      | [] => none
      | ks => (match eqLfs ks (xs.map Lf.norm) (ys.map Lf.norm), op with
        | some r, .eql => lfO none (.bool r)
        | some r, .neq => lfO none (.bool (!r))
        | _, _ => none))
    | none => none)
  | x, y =>
    match bOf x, bOf y with
    | some a, some b =>
      (match T t with
      | some ty => if ty.kind == 1 then (match op with
        | .eql => lfO none (.bool (a == b))
        | .neq => lfO none (.bool (a != b))
        | _ => none) else none
      | none => none)
    | _, _ => none

def xUn (op : UnOp) (x : Sl D) : Option (Out D) :=
  match op, x with
  | .not, .one (.lf (.bool b)) => lfO none (.bool (!b))
  | .not, .one (.lf (.val (.bool b))) => lfO none (.val (.bool (!b)))
  | .not, .one (.lf (.unk p)) => lfO none (.unk fun b => p (!b))
  | .neg, .one (.lf (.int k n)) => lfO none (.int k (wrp k (-n)))
  | _, _ => none

def cellRun (S : Sh D) (d : D) (i : Nat) : Nat → Nat → List (Lf D)
  | _, 0 => []
  | j, n + 1 => S.cell d i j :: cellRun S d i (j + 1) n

def xLoad (T : TypeId → Option Ty) (S : Sh D) (blk : Nat → Option (Bk D)) (t : TypeId) (x : Sl D) : Option (Out D) :=
  match T t with
  | none => none
  | some ty =>
    match x with
    | .one (.lf (.ptr l o)) =>
      match blk l with
      | some (.cells cs) =>
        if ty.agg then (if Nat.ble (o + ty.size) cs.length then some ⟨none, .one (.agg ((cs.drop o).take ty.size)), []⟩ else none)
        else (match cs[o]? with
          | some y => lfO none y
          | none => none)
      | _ => none
    | .one (.lf (.elt d i j)) =>
      if ty.agg then (if Nat.ble (j + ty.size) (S.size d) then some ⟨none, .one (.agg (cellRun S d i j ty.size)), []⟩ else none)
      else (if Nat.blt j (S.size d) then lfO none (S.cell d i j) else none)
    | .one (.lf (.opt l i j sz)) =>
      match blk l with
      | some (.row e d) =>
        if ty.agg then (if Nat.ble (j + ty.size) (S.size d) && Nat.beq sz (S.size d) then some ⟨some (i < S.len d), .one (.agg (cellRun S d i j ty.size)), []⟩ else none)
        else (if Nat.blt j (S.size d) && Nat.beq sz (S.size d) then lfO (some (i < S.len d)) (S.cell d i j) else none)
      | _ => none
    | _ => none

def xStore (T : TypeId → Option Ty) (S : Sh D) (blk : Nat → Option (Bk D)) (t : TypeId) (x y : Sl D) : Option (Out D) :=
  match T t, x, y with
  | some ty, .one (.lf (.ptr l o)), .one u =>
    match blk l with
    | some (.cells cs) =>
      if Nat.beq u.cells.length ty.size && Nat.ble (o + u.cells.length) cs.length && u.cells.all Lf.storable then some ⟨none, .one (.lf .any), [(l, some (.cells (putAt cs o u.cells)))]⟩ else none
    | _ => none
  | some ty, .one (.lf (.opt l i j sz)), .one u =>
    match blk l with
    | some (.row e d) =>
      if Nat.beq u.cells.length ty.size && Nat.ble (j + u.cells.length) (S.size d) && Nat.beq sz (S.size d) && u.cells.all Lf.storable then (match S.set d i j (u.cells.map Lf.norm) with
        | some d' => some ⟨some (i < S.len d), .one (.lf .any), [(l, some (.row e d'))]⟩
        | none => none) else none
    | _ => none
  | _, _, _ => none

def xField (T : TypeId → Option Ty) (t : TypeId) (x : Sl D) (f : Nat) : Option (Out D) :=
  match T t with
  | none => none
  | some ty =>
    match ty.offs[f]?, x with
    | some (off, sz, _), .one (.lf (.ptr l o)) => if Nat.beq sz 0 then none else lfO none (.ptr l (o + off))
    | some (off, sz, _), .one (.lf (.elt d i j)) => if Nat.beq sz 0 then none else lfO none (.elt d i (j + off))
    | some (off, sz, _), .one (.lf (.opt l i j z)) => if Nat.beq sz 0 then none else lfO none (.opt l i (j + off) z)
    | _, _ => none

def xPart (T : TypeId → Option Ty) (t : TypeId) (x : Sl D) (f : Nat) : Option (Out D) :=
  match T t with
  | none => none
  | some ty =>
    match ty.offs[f]?, x with
    | some (off, sz, ag), .one (.agg cs) =>
      if Nat.beq sz 0 then none else if ag then (if Nat.ble (off + sz) cs.length then some ⟨none, .one (.agg ((cs.drop off).take sz)), []⟩ else none)
      else (match cs[off]? with
        | some y => lfO none y
        | none => none)
    | _, _ => none

def xIndex (T : TypeId → Option Ty) (S : Sh D) (blk : Nat → Option (Bk D)) (t : TypeId) (x i : Sl D) : Option (Out D) :=
  match T t with
  | none => none
  | some ty =>
    match ty.elem with
    | none => none
    | some e =>
      match T e with
      | none => none
      | some te =>
        match x, i with
        | .one (.lf (.dat d)), .one (.lf (.int _ n)) => if Nat.beq te.size (S.size d) && Nat.blt 0 te.size then lfO (some (0 ≤ n ∧ n < S.len d)) (.elt d n.toNat 0) else none
        | .one (.lf (.own l)), .one (.lf (.int _ n)) =>
          match blk l with
          | some (.row _ d) => if Nat.beq te.size (S.size d) && Nat.blt 0 te.size then lfO (some (0 ≤ n ∧ n < S.len d)) (.opt l n.toNat 0 te.size) else none
          | some (.ice d) => if Nat.beq te.size (S.size d) && Nat.blt 0 te.size then lfO (some (0 ≤ n ∧ n < S.len d)) (.elt d n.toNat 0) else none
          | _ => none
        | _, _ => none

def xExtract (x : Sl D) (i : Nat) : Option (Out D) :=
  match x with
  | .tup xs => (match xs[i]? with
    | some y => some ⟨none, .one y, []⟩
    | none => none)
  | _ => none

def fillIn (ty : Ty) (slot : Nat → Sl D) : List (Nat × Operand) → List (Lf D) → Option (List (Lf D))
  | [], cs => some cs
  | (f, x) :: r, cs =>
    match ty.offs[f]?, opnd slot x with
    | some (off, sz, _), .one u => if u.whole && Nat.beq u.cells.length sz && Nat.ble (off + sz) cs.length then fillIn ty slot r (putAt cs off u.cells) else none
    | _, _ => none

def xBuild (T : TypeId → Option Ty) (slot : Nat → Sl D) (t : TypeId) (parts : Array (Nat × Operand)) : Option (Out D) :=
  match T t with
  | some ty =>
    if ty.kind == 5 && ty.offs.all (fun f => !Nat.beq f.2.1 0) then (match fillIn ty slot parts.toList (ty.zero.map ofLf) with
      | some cs => some ⟨none, .one (.agg cs), []⟩
      | none => none) else none
  | none => none

def fillRow (sz : Nat) (slot : Nat → Sl D) : List (Nat × Operand) → List (Lf D) → Option (List (Lf D))
  | [], cs => some cs
  | (i, x) :: r, cs =>
    match opnd slot x with
    | .one u => if u.whole && Nat.beq u.cells.length sz && Nat.ble (i * sz + sz) cs.length then fillRow sz slot r (putAt cs (i * sz) u.cells) else none
    | _ => none

def xRow (T : TypeId → Option Ty) (S : Sh D) (slot : Nat → Sl D) (fr : Nat) (t : TypeId) (len : Nat) (parts : Array (Nat × Operand)) : Option (Out D) :=
  match T t with
  | none => none
  | some ty =>
    match ty.elem with
    | none => none
    | some e =>
      match T e with
      | none => none
      | some te =>
        if Nat.ble (len * te.size) 16777216 && Nat.blt 0 te.size && Nat.beq te.zero.length te.size then (match fillRow te.size slot parts.toList ((List.range (len * te.size)).map fun k => ofLf ((te.zero[k % te.size]?).getD (.bool false))) with
          | some cs => (match S.make e len (cs.map Lf.norm) with
            | some d => if ty.lit || Nat.beq len 0 then some ⟨none, .one (.lf (.own fr)), [(fr, some (.row e d))]⟩ else lfO none (.dat d)
            | none => none)
          | none => none) else none

def xPick (slot : Nat → Sl D) (c a b : Operand) : Option (Out D) :=
  match opnd slot c with
  | .one (.lf (.val (.bool true))) => some ⟨none, opnd slot a, []⟩
  | .one (.lf (.val (.bool false))) => some ⟨none, opnd slot b, []⟩
  | .one (.lf (.bool t)) =>
    match bOf (opnd slot a), bOf (opnd slot b) with
    | some x, some y => lfO none (.bool (bif t then x else y))
    | _, _ => none
  | _ => none

def xLen (S : Sh D) (T : TypeId → Option Ty) (blk : Nat → Option (Bk D)) (ts : Array TypeId) (x : Sl D) : Option (Out D) :=
  match ts[0]? with
  | none => none
  | some t =>
    match T t with
    | none => none
    | some ty =>
      match x with
      | .one (.lf (.dat d)) => if ty.kind == 4 then lfO none (.int .i64 (S.len d)) else none
      | .one (.lf (.str s)) => if ty.kind == 3 then lfO none (.int .i64 s.length) else none
      | .one (.lf (.own l)) => (match blk l with
        | some (.row _ d) => if ty.kind == 4 then lfO none (.int .i64 (S.len d)) else none
        | some (.ice d) => if ty.kind == 4 then lfO none (.int .i64 (S.len d)) else none
        | _ => none)
      | .one (.lf (.val (.slice none 0 0))) => if ty.kind == 4 then lfO none (.int .i64 0) else none
      | _ => none

def xMin (b : Builtin) (x y : Sl D) : Option (Out D) :=
  match b, x, y with
  | .min, .one (.lf (.int k a)), .one (.lf (.int _ c)) => lfO none (.int k (min a c))
  | .max, .one (.lf (.int k a)), .one (.lf (.int _ c)) => lfO none (.int k (max a c))
  | _, _, _ => none

def Lf.refs : Lf D → List Nat
  | .ptr l _ => [l]
  | .own l => [l]
  | .opt l _ _ _ => [l]
  | .part l _ _ _ _ => [l]
  | .fn _ caps => caps
  | _ => []
def Sv.refs : Sv D → List Nat
  | .lf x => x.refs
  | .agg xs => xs.flatMap Lf.refs
def Sl.refs : Sl D → List Nat
  | .one x => x.refs
  | .tup xs => xs.flatMap Sv.refs
def Bk.refs : Bk D → List Nat
  | .cells cs => cs.flatMap Lf.refs
  | _ => []

def Lf.ren (f : Nat → Nat) : Lf D → Lf D
  | .ptr l o => .ptr (f l) o
  | .own l => .own (f l)
  | .opt l i j sz => .opt (f l) i j sz
  | .part l i j sz h => .part (f l) i j sz h
  | .fn h caps => .fn h (caps.map f)
  | x => x
def Sv.ren (f : Nat → Nat) : Sv D → Sv D
  | .lf x => .lf (x.ren f)
  | .agg xs => .agg (xs.map (Lf.ren f))
def Sl.ren (f : Nat → Nat) : Sl D → Sl D
  | .one x => .one (x.ren f)
  | .tup xs => .tup (xs.map (Sv.ren f))
def Bk.ren (f : Nat → Nat) : Bk D → Bk D
  | .cells cs => .cells (cs.map (Lf.ren f))
  | x => x

/-- Bears it a datum? -/
def Lf.hasDat : Lf D → Bool
  | .dat _ => true
  | .elt _ _ _ => true
  | _ => false
def Sv.hasDat : Sv D → Bool
  | .lf x => x.hasDat
  | .agg xs => xs.any Lf.hasDat
def Sl.hasDat : Sl D → Bool
  | .one x => x.hasDat
  | .tup xs => xs.any Sv.hasDat
def Bk.hasDat : Bk D → Bool
  | .cells cs => cs.any Lf.hasDat
  | .iter _ _ => false
  | _ => true

def memB (l : Nat) : List Nat → Bool
  | [] => false
  | x :: r => Nat.beq x l || memB l r
def addNew : List Nat → List Nat → List Nat
  | ids, [] => ids
  | ids, l :: r => addNew (if memB l ids then ids else ids ++ [l]) r
def reach (blk : Nat → Option (Bk D)) : Nat → List Nat → List Nat
  | 0, ids => ids
  | n + 1, ids => reach blk n (addNew ids (ids.flatMap fun l => match blk l with
    | some bk => bk.refs
    | none => []))
def allIn (ids : List Nat) : List Nat → Bool
  | [] => true
  | l :: r => memB l ids && allIn ids r
def getAll (blk : Nat → Option (Bk D)) : List Nat → Option (List (Bk D))
  | [] => some []
  | l :: r => (match blk l, getAll blk r with
    | some b, some bs => some (b :: bs)
    | _, _ => none)
/-- Where an id stands in the list. -/
def posIn : List Nat → Nat → Nat
  | [], _ => 0
  | x :: r, l => if Nat.beq x l then 0 else posIn r l + 1
def backTo (ids : List Nat) (fr i : Nat) : Nat := if Nat.blt i ids.length then ids.getD i 0 else fr + (i - ids.length)

/-- Rows of the call's own, handed over as data. -/
def Lf.view (blk : Nat → Option (Bk D)) : Lf D → Lf D
  | .own l => (match blk l with
    | some (.row _ d) => .dat d
    | some (.ice d) => .dat d
    | _ => .own l)
  | .part l i j sz f => (match blk l with
    | some (.row _ d) => (match f d with
      | some d' => .dat d'
      | none => .any)
    | some (.ice d) => (match f d with
      | some d' => .dat d'
      | none => .any)
    | _ => .part l i j sz f)
  | x => x
def Sv.view (blk : Nat → Option (Bk D)) : Sv D → Sv D
  | .lf x => .lf (x.view blk)
  | .agg xs => .agg (xs.map (Lf.view blk))
def Sl.view (blk : Nat → Option (Bk D)) : Sl D → Sl D
  | .one x => .one (x.view blk)
  | .tup xs => .tup (xs.map (Sv.view blk))
def Lf.owns : Lf D → List Nat
  | .own l => [l]
  | .part l _ _ _ _ => [l]
  | _ => []
def Sv.owns : Sv D → List Nat
  | .lf x => x.owns
  | .agg xs => xs.flatMap Lf.owns
def Sl.owns : Sl D → List Nat
  | .one x => x.owns
  | .tup xs => xs.flatMap Sv.owns

def freshOk (k : Nat) : List (Nat × Bk D) → Bool
  | [] => true
  | (i, _) :: r => Nat.blt i (k + 64) && freshOk k r
def nodupB : List (Nat × Bk D) → Bool
  | [] => true
  | (i, _) :: r => !(r.any fun p => Nat.beq p.1 i) && nodupB r
def lookB : List (Nat × Bk D) → Nat → Option (Bk D)
  | [], _ => none
  | (k, v) :: r, n => if Nat.beq k n then some v else lookB r n

def iceOf (blk : Nat → Option (Bk D)) (l : Nat) : Option (Nat × Option (Bk D)) :=
  match blk l with
  | some (.row _ d) => some (l, some (.ice d))
  | _ => none

def refsAt (bks : List (Bk D)) (i : Nat) : List Nat :=
  match bks[i]? with
  | some bk => bk.refs
  | none => []
def datAt (bks : List (Bk D)) (i : Nat) : Bool :=
  match bks[i]? with
  | some bk => bk.hasDat
  | none => false
/-- The blocks behind the call. -/
def tabK (post : List (Nat × Bk D)) (keep : List Nat) (bks : List (Bk D)) (i : Nat) : Option (Bk D) :=
  match lookB post i with
  | some bk => some bk
  | none => if memB i keep then bks[i]? else none

/-- The call, its arguments as they are to be handed over; 'vids': the rows that are seen as data. -/
def callOn (ct : Ct D) (blk : Nat → Option (Bk D)) (fr : Nat) (args : List (Sl D)) (vids : List Nat) : Option (Out D) :=
  let ids := reach blk 3 (addNew [] (args.flatMap Sl.refs))
  match getAll blk ids with
  | none => none
  | some bks =>
    if allIn ids (args.flatMap Sl.refs) && allIn ids (bks.flatMap Bk.refs) && !(vids.any fun l => memB l ids) then
      (match ct (args.map (Sl.ren (posIn ids))) (bks.map (Bk.ren (posIn ids))) with
      | some (p, r, post, keep) =>
        if freshOk ids.length post && nodupB post && allIn (post.map (·.1) ++ keep) (post.flatMap fun q => q.2.refs) && allIn (post.map (·.1) ++ keep) r.refs &&
            allIn (post.map (·.1) ++ keep) (keep.flatMap fun i => refsAt (bks.map (Bk.ren (posIn ids))) i) && keep.all (fun i => Nat.blt i ids.length && !memB i (post.map (·.1))) then
          some ⟨p, r.ren (backTo ids fr), ((ids.filter fun l => !memB (posIn ids l) keep).map fun l => (l, (lookB post (posIn ids l)).map (Bk.ren (backTo ids fr)))) ++ (post.filter fun q => !Nat.blt q.1 ids.length).map (fun q => (backTo ids fr q.1, some (q.2.ren (backTo ids fr)))) ++
            (if r.hasDat || post.any (fun q => q.2.hasDat) || keep.any (fun i => datAt (bks.map (Bk.ren (posIn ids))) i) then vids.filterMap (iceOf blk) else [])⟩
        else none
      | none => none)
    else none

def xCall (Γ : FuncId → Option (Ct D)) (f : FuncId) (blk : Nat → Option (Bk D)) (args : List (Sl D)) (fr : Nat) : Option (Out D) :=
  match Γ f with
  | none => none
  | some ct =>
    let as := args.map Sl.norm
    firstOf (callOn ct blk fr (as.map (Sl.view blk)) (addNew [] (as.flatMap Sl.owns))) (callOn ct blk fr as [])

def capsOf (slot : Nat → Sl D) : List Operand → Option (List Nat)
  | [] => some []
  | x :: r => (match opnd slot x, capsOf slot r with
    | .one (.lf (.ptr l 0)), some ls => some (l :: ls)
    | _, _ => none)

/-- append: onto a row of the call's own, or onto nil. -/
def datOf (blk : Nat → Option (Bk D)) : Sl D → Option D
  | .one (.lf (.dat d)) => some d
  | .one (.lf (.own l)) => (match blk l with
    | some (.row _ d) => some d
    | some (.ice d) => some d
    | _ => none)
  | _ => none

def roomP (n bytes : Nat) : Prop := n ≤ 1099511627776 ∧ n * bytes ≤ 140737488355328

def xAppend (T : TypeId → Option Ty) (S : Sh D) (blk : Nat → Option (Bk D)) (fr : Nat) (ts : Array TypeId) (x y : Sl D) : Option (Out D) :=
  match ts.toList with
  | [t, t'] => if Nat.beq t t' then (match T t with
    | none => none
    | some ty => (match ty.elem with
      | none => none
      | some e => (match T e with
        | none => none
        | some te => (match datOf blk y with
          | none => none
          | some d2 =>
            if Nat.beq te.size (S.size d2) && Nat.blt 0 te.size && Nat.beq te.zero.length te.size then (match x with
              | .one (.lf (.val (.slice none 0 0))) => some ⟨some (roomP (S.len d2) te.bytes), .one (.lf (.own fr)), [(fr, some (.row e d2))]⟩
              | .one (.lf (.own l)) => (match blk l with
                | some (.row e' d1) => if Nat.beq e e' then (match S.cat d1 d2 with
                  | some d => some ⟨some (roomP (S.len d1 + S.len d2) te.bytes), .one (.lf (.own fr)), [(l, none), (fr, some (.row e d))]⟩
                  | none => none) else none
                | _ => none)
              | _ => none) else none)))) else none
  | _ => none

def xMake (T : TypeId → Option Ty) (S : Sh D) (fr : Nat) (t : TypeId) (x y : Sl D) : Option (Out D) :=
  match T t with
  | none => none
  | some ty => (match ty.elem with
    | none => none
    | some e => (match T e with
      | none => none
      | some te => (match x, y with
        | .one (.lf (.int _ n)), .one (.lf (.int _ m)) => if Nat.blt 0 te.size && Nat.beq te.zero.length te.size then (match S.zero e n.toNat (te.zero.map fun v => (ofLf v).norm) with
          | some d => some ⟨some (n = m ∧ 0 ≤ n ∧ n * te.bytes ≤ 281474976710656 ∧ n ≤ 1099511627776), .one (.lf (.own fr)), [(fr, some (.row e d))]⟩
          | none => none) else none
        | _, _ => none)))

def xStrAt (T : TypeId → Option Ty) (t : TypeId) (x i : Sl D) : Option (Out D) :=
  match T t with
  | none => none
  | some ty => (match x, i with
    | .one (.lf (.str s)), .one (.lf (.int _ n)) => if ty.kind == 3 then lfO (some (0 ≤ n ∧ n < s.length)) (.int .u8 (s.getD n.toNat 0).toNat) else none
    | _, _ => none)

def xConv (T : TypeId → Option Ty) (src dst : TypeId) (x : Sl D) : Option (Out D) :=
  match T src, T dst, x with
  | some _, some ty, .one (.lf (.int _ n)) => (match noIk ty.kind with
    | some k => lfO none (.int k (wrp k n))
    | none => none)
  | _, _, _ => none

def bnd (n : Nat) : Option (Sl D) → Option Int
  | none => some n
  | some (.one (.lf (.int _ i))) => some i
  | some _ => none
/-- Data, cut; a text, cut. -/
def xSlice (T : TypeId → Option Ty) (S : Sh D) (blk : Nat → Option (Bk D)) (t : TypeId) (x : Sl D) (lo hi : Option (Sl D)) : Option (Out D) :=
  match T t with
  | none => none
  | some ty => (match bnd 0 lo with
    | none => none
    | some l => (match x with
      | .one (.lf (.str s)) => if ty.kind == 3 then (match bnd s.length hi with
        | some h => lfO (some (0 ≤ l ∧ l ≤ h ∧ h ≤ s.length)) (.str ((s.take h.toNat).drop l.toNat))
        | none => none) else none
      | .one (.lf (.dat d)) => (match ty.elem with
        | none => none
        | some e => (match T e with
          | none => none
          | some te => if Nat.beq te.size (S.size d) && Nat.blt 0 te.size then (match bnd (S.len d) hi with
            | some h => (match S.sub d l.toNat h.toNat with
              | some d' => lfO (some (0 ≤ l ∧ l ≤ h ∧ h ≤ S.len d)) (.dat d')
              | none => none)
            | none => none) else none))
      | .one (.lf (.own q)) => (match ty.elem with
        | none => none
        | some e => (match T e with
          | none => none
          | some te => (match blk q with
            | some (.row _ d) => (match bnd (S.len d) hi with
              | some h => lfO (some (0 ≤ l ∧ l ≤ h ∧ h ≤ S.len d)) (.part q l.toNat h.toNat te.size (subIf S te.size l.toNat h.toNat))
              | none => none)
            | _ => none)))
      | _ => none))
/-- Data, copied into a row of the call's own. -/
def xCopy (T : TypeId → Option Ty) (S : Sh D) (blk : Nat → Option (Bk D)) (ts : Array TypeId) (x y : Sl D) : Option (Out D) :=
  match ts.toList with
  | [t, t'] => if Nat.beq t t' then (match T t with
    | none => none
    | some ty => (match ty.elem with
      | none => none
      | some e => (match T e with
        | none => none
        | some te => (match x, y with
          | .one (.lf (.own l)), .one (.lf (.dat d2)) => (match blk l with
            | some (.row e' d1) => if Nat.beq e e' && (Nat.beq te.size (S.size d1) && (Nat.beq te.size (S.size d2) && Nat.blt 0 te.size)) then
              (match S.sub d2 0 (min (S.len d2) (S.len d1)), S.sub d1 (min (S.len d2) (S.len d1)) (S.len d1) with
              | some p, some q => (match S.cat p q with
                | some d => some ⟨none, .one (.lf (.int .i64 (min (S.len d2) (S.len d1) : Nat))), [(l, some (.row e d))]⟩
                | none => none)
              | _, _ => none) else none
            | _ => none)
          | _, _ => none)))) else none
  | _ => none

def isCells : Option (Bk D) → Bool
  | some (.cells _) => true
  | _ => false

def xOp (T : TypeId → Option Ty) (S : Sh D) (Γ : FuncId → Option (Ct D)) (slot : Nat → Sl D) (blk : Nat → Option (Bk D)) (fr : Nat) (o : Op) : Option (Out D) :=
  match o with
  | .move x => some ⟨none, opnd slot x, []⟩
  | .assign x => some ⟨none, opnd slot x, []⟩
  | .pick c a b => xPick slot c a b
  | .alloc t => (match T t with
    | some ty => some ⟨none, .one (.lf (.ptr fr 0)), [(fr, some (.cells (ty.zero.map ofLf)))]⟩
    | none => none)
  | .box _ x => (match opnd slot x with
    | .one u => if u.whole then some ⟨none, .one (.lf (.ptr fr 0)), [(fr, some (.cells u.cells))]⟩ else none
    | _ => none)
  | .build t parts => xBuild T slot t parts
  | .buildSlice t len parts => xRow T S slot fr t len parts
  | .load t x => xLoad T S blk t (opnd slot x)
  | .store t x y => xStore T S blk t (opnd slot x) (opnd slot y)
  | .nilCheck x => (match opnd slot x with
    | .one (.lf (.ptr l o)) => lfO none (.ptr l o)
    | .one (.lf (.elt d i j)) => lfO none (.elt d i j)
    | .one (.lf (.opt l i j sz)) => lfO none (.opt l i j sz)
    | .one (.lf (.fn f caps)) => lfO none (.fn f caps)
    | _ => none)
  | .binOp op t x y _ => firstOf (xNilq T S op t (opnd slot x) (opnd slot y)) (xBin T op t (opnd slot x) (opnd slot y))
  | .unOp op _ x => xUn op (opnd slot x)
  | .fieldAddr t x f => xField T t (opnd slot x) f
  | .field t x f => xPart T t (opnd slot x) f
  | .indexAddr t x i => xIndex T S blk t (opnd slot x) (opnd slot i)
  | .extract x i => xExtract (opnd slot x) i
  | .call c => (match c.callee with
    | .builtin .len => (match c.args.toList with
      | [x] => xLen S T blk c.argTypes (opnd slot x)
      | _ => none)
    | .builtin .min => (match c.args.toList with
      | [x, y] => xMin .min (opnd slot x) (opnd slot y)
      | _ => none)
    | .builtin .max => (match c.args.toList with
      | [x, y] => xMin .max (opnd slot x) (opnd slot y)
      | _ => none)
    | .builtin .append => (match c.args.toList with
      | [x, y] => xAppend T S blk fr c.argTypes (opnd slot x) (opnd slot y)
      | _ => none)
    | .builtin .copy => (match c.args.toList with
      | [x, y] => xCopy T S blk c.argTypes (opnd slot x) (opnd slot y)
      | _ => none)
    | .value f => (match opnd slot f with
      | .one (.lf (.fn f caps)) => if caps.all (fun l => isCells (blk l)) then xCall Γ f blk (c.args.toList.map (opnd slot) ++ caps.map fun l => .one (.lf (.ptr l 0))) fr else none
      | _ => none)
    | _ => none)
  | .makeFunc (.func f) first caps => if first.isEmpty then (match capsOf slot caps.toList with
    | some ls => lfO none (.fn f ls)
    | none => none) else none
  | .makeSlice t x y => xMake T S fr t (opnd slot x) (opnd slot y)
  | .index t x i => xStrAt T t (opnd slot x) (opnd slot i)
  | .convert src dst x => xConv T src dst (opnd slot x)
  | .slice t x lo hi none => xSlice T S blk t (opnd slot x) (lo.map (opnd slot)) (hi.map (opnd slot))
  | _ => none
end
end Go.Vc
