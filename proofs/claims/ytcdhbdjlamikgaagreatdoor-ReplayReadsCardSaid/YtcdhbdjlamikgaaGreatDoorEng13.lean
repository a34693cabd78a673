/-
  Own engine: Vef.
-/
import Derived.Test.YtcdhbdjlamikgaaGreatDoorEng12
namespace Go.Vc
open Go.RowKit
set_option linter.unusedVariables false
set_option linter.unusedSimpArgs false

inductive Tri (α : Type) where
  | leaf
  | node (v : Option α) (l r : Tri α)
section
variable {α : Type}
def Tri.v : Tri α → Option α
  | .leaf => none
  | .node v _ _ => v
def Tri.l : Tri α → Tri α
  | .leaf => .leaf
  | .node _ l _ => l
def Tri.r : Tri α → Tri α
  | .leaf => .leaf
  | .node _ _ r => r
noncomputable def Tri.get (t : Tri α) : Nat → Option α :=
  Tri.rec (motive := fun _ => Nat → Option α) (fun _ => none) (fun v _ _ ihl ihr n => Bool.rec (motive := fun _ => Option α) (Bool.rec (motive := fun _ => Option α) (ihr (Nat.div n 2)) (ihl (Nat.div n 2)) (Nat.beq (Nat.mod n 2) 0)) v (Nat.beq n 0)) t
noncomputable def Tri.set (k : Nat) : Tri α → Nat → α → Tri α :=
  Nat.rec (motive := fun _ => Tri α → Nat → α → Tri α) (fun t _ _ => t) (fun _ ih t n x => Tri.rec (motive := fun _ => Tri α)
    (Bool.rec (motive := fun _ => Tri α) (Bool.rec (motive := fun _ => Tri α) (.node none .leaf (ih .leaf (Nat.div n 2) x)) (.node none (ih .leaf (Nat.div n 2) x) .leaf) (Nat.beq (Nat.mod n 2) 0)) (.node (some x) .leaf .leaf) (Nat.beq n 0))
    (fun v l r _ _ => Bool.rec (motive := fun _ => Tri α) (Bool.rec (motive := fun _ => Tri α) (.node v l (ih r (Nat.div n 2) x)) (.node v (ih l (Nat.div n 2) x) r) (Nat.beq (Nat.mod n 2) 0)) (.node (some x) l r) (Nat.beq n 0)) t) k
theorem Tri.get_eq (t : Tri α) (n : Nat) : t.get n = cond (Nat.beq n 0) t.v (cond (Nat.beq (n % 2) 0) (t.l.get (n / 2)) (t.r.get (n / 2))) := by
  cases t with
  | leaf =>
    show none = _
    cases Nat.beq n 0 <;> cases Nat.beq (n % 2) 0 <;> rfl
  | node v l r =>
    show Bool.rec (motive := fun _ => Option α) (Bool.rec (motive := fun _ => Option α) (r.get (n / 2)) (l.get (n / 2)) (Nat.beq (n % 2) 0)) v (Nat.beq n 0) = cond (Nat.beq n 0) v (cond (Nat.beq (n % 2) 0) (l.get (n / 2)) (r.get (n / 2)))
    cases Nat.beq n 0 <;> cases Nat.beq (n % 2) 0 <;> rfl
theorem Tri.set_succ (k : Nat) (t : Tri α) (n : Nat) (x : α) : Tri.set (k + 1) t n x = cond (Nat.beq n 0) (.node (some x) t.l t.r) (cond (Nat.beq (n % 2) 0) (.node t.v (Tri.set k t.l (n / 2) x) t.r) (.node t.v t.l (Tri.set k t.r (n / 2) x))) := by
  cases t with
  | leaf =>
    show Bool.rec (motive := fun _ => Tri α) (Bool.rec (motive := fun _ => Tri α) (.node none .leaf (Tri.set k .leaf (n / 2) x)) (.node none (Tri.set k .leaf (n / 2) x) .leaf) (Nat.beq (n % 2) 0)) (.node (some x) .leaf .leaf) (Nat.beq n 0) = _
    cases Nat.beq n 0 <;> cases Nat.beq (n % 2) 0 <;> rfl
  | node v l r =>
    show Bool.rec (motive := fun _ => Tri α) (Bool.rec (motive := fun _ => Tri α) (.node v l (Tri.set k r (n / 2) x)) (.node v (Tri.set k l (n / 2) x) r) (Nat.beq (n % 2) 0)) (.node (some x) l r) (Nat.beq n 0) = _
    cases Nat.beq n 0 <;> cases Nat.beq (n % 2) 0 <;> rfl
theorem beq_cases (n m : Nat) : (Nat.beq n m = true ∧ n = m) ∨ (Nat.beq n m = false ∧ n ≠ m) := by
  cases h : Nat.beq n m with
  | true => exact .inl ⟨rfl, Nat.eq_of_beq_eq_true h⟩
  | false => exact .inr ⟨rfl, fun e => by rw [e] at h; simp at h⟩
theorem Tri.get_node (v : Option α) (l r : Tri α) (n : Nat) : (Tri.node v l r).get n = cond (Nat.beq n 0) v (cond (Nat.beq (n % 2) 0) (l.get (n / 2)) (r.get (n / 2))) := Tri.get_eq _ _
theorem Tri.get_set : ∀ (k : Nat) (t : Tri α) (n m : Nat) (x : α), n < 2 ^ k → (Tri.set (k + 1) t n x).get m = if m = n then some x else t.get m := by
  intro k
  induction k with
  | zero =>
    intro t n m x h
    have hn : n = 0 := by simpa using h
    subst hn
    rw [Tri.set_succ, Tri.get_eq t m]
    show (Tri.node (some x) t.l t.r).get m = _
    rw [Tri.get_node]
    rcases beq_cases m 0 with ⟨h1, rfl⟩ | ⟨h1, h2⟩
    · rfl
    · rw [h1, if_neg h2]; rfl
  | succ k ih =>
    intro t n m x h
    rw [Tri.set_succ, Tri.get_eq t m]
    rcases beq_cases n 0 with ⟨h1, rfl⟩ | ⟨h1, hn0⟩
    · rw [h1]
      show (Tri.node (some x) t.l t.r).get m = _
      rw [Tri.get_node]
      rcases beq_cases m 0 with ⟨h1, rfl⟩ | ⟨h1, h2⟩
      · rfl
      · rw [h1, if_neg h2]; rfl
    · rw [h1]
      have hlt : n / 2 < 2 ^ k := by rw [Nat.pow_succ] at h; omega
      rcases beq_cases (n % 2) 0 with ⟨h2, hp⟩ | ⟨h2, hp⟩ <;> rw [h2] <;> simp only [cond_false, cond_true] <;> rw [Tri.get_node]
      · rcases beq_cases m 0 with ⟨h3, rfl⟩ | ⟨h3, hm0⟩
        · rw [h3, if_neg (Ne.symm hn0)]; rfl
        · rw [h3]
          rcases beq_cases (m % 2) 0 with ⟨h4, hq⟩ | ⟨h4, hq⟩
          · rw [h4]
            simp only [cond_false, cond_true]
            rw [ih _ _ _ _ hlt]
            by_cases e : m = n
            · subst e; simp
            · rw [if_neg (show ¬ m / 2 = n / 2 by omega), if_neg e]
          · rw [h4, if_neg (show ¬ m = n by rintro rfl; omega)]; rfl
      · rcases beq_cases m 0 with ⟨h3, rfl⟩ | ⟨h3, hm0⟩
        · rw [h3, if_neg (Ne.symm hn0)]; rfl
        · rw [h3]
          rcases beq_cases (m % 2) 0 with ⟨h4, hq⟩ | ⟨h4, hq⟩
          · rw [h4, if_neg (show ¬ m = n by rintro rfl; omega)]; rfl
          · rw [h4]
            simp only [cond_false, cond_true]
            rw [ih _ _ _ _ hlt]
            by_cases e : m = n
            · subst e; simp
            · rw [if_neg (show ¬ m / 2 = n / 2 by omega), if_neg e]
end

section
variable {D : Type}
/-- A state, and its slots and blocks in tries. -/
structure Kt (D : Type) where
  s : St D
  sl : Tri (Sl D)
  bl : Tri (Option (Bk D))
noncomputable def sget (t : Tri (Sl D)) (n : Nat) : Sl D :=
  match t.get n with
  | some x => x
  | none => .one (.lf .any)
noncomputable def bget (t : Tri (Option (Bk D))) (n : Nat) : Option (Bk D) :=
  match t.get n with
  | some x => x
  | none => none
noncomputable def sset (t : Tri (Sl D)) (n : Nat) (x : Sl D) : Option (Tri (Sl D)) := cond (Nat.blt n 65536) (some (Tri.set 17 t n x)) none
noncomputable def bset : Tri (Option (Bk D)) → List (Nat × Option (Bk D)) → Option (Tri (Option (Bk D)))
  | t, [] => some t
  | t, (n, x) :: r => cond (Nat.blt n 1099511627776) (bset (Tri.set 41 t n x) r) none
noncomputable def Kt.put (k : Kt D) (dst : Option Nat) (v : Sl D) (bs : List (Nat × Option (Bk D))) : Option (Kt D) :=
  match bset k.bl bs with
  | none => none
  | some bl => (match dst with
    | none => some ⟨k.s.put dst v bs, k.sl, bl⟩
    | some d => (match sset k.sl d v with
      | none => none
      | some sl => some ⟨k.s.put dst v bs, sl, bl⟩))
/-- The tries are as the lists. -/
structure KtOk (k : Kt D) : Prop where
  sl : sget k.sl = k.s.slot
  bl : bget k.bl = k.s.blk


/-! ### the frequent operations, each by itself -/
def hLoad (T : TypeId → Option Ty) (S : Sh D) (blk : Nat → Option (Bk D)) (t : TypeId) (a : Sl D) : Option (Out D) :=
  match xLoadT T blk t a with
  | some out => some out
  | none => (match xLoadA T S blk t a with
    | some out => some out
    | none => xLoad T S blk t a)
def hStore (T : TypeId → Option Ty) (S : Sh D) (Γ : FuncId → Option (Ct D)) (slot : Nat → Sl D) (blk : Nat → Option (Bk D)) (fr : Nat) (t : TypeId) (x y : Operand) : Option (Out D) :=
  match xStoreT T blk t (opnd slot x) (opnd slot y) with
  | some out => some out
  | none => (match xStoreA T S blk t (opnd slot x) (opnd slot y) with
    | some out => some out
    | none => (match xStore T S blk t (opnd slot x) (opnd slot y) with
      | some out => some out
      | none => xCool T S Γ slot blk fr (.store t x y)))
def hBin (T : TypeId → Option Ty) (S : Sh D) (op : BinOp) (t : TypeId) (a b : Sl D) : Option (Out D) :=
  match xNilC T S op t a b with
  | some out => some out
  | none => firstOf (xNilq T S op t a b) (xBin T op t a b)
def hAddr (T : TypeId → Option Ty) (S : Sh D) (blk : Nat → Option (Bk D)) (t : TypeId) (a b : Sl D) : Option (Out D) :=
  match xAddrC T t a b with
  | some out => some out
  | none => (match xIndexA T S t a b with
    | some out => some out
    | none => xIndex T S blk t a b)
def hIndex (T : TypeId → Option Ty) (t : TypeId) (a b : Sl D) : Option (Out D) :=
  match xIndexC T t a b with
  | some out => some out
  | none => (match xIndexV T t a b with
    | some out => some out
    | none => xStrAt T t a b)
def hNil (a : Sl D) : Option (Out D) :=
  match a with
  | .one (.lf (.ptr l o)) => lfO none (.ptr l o)
  | .one (.lf (.elt d i j)) => lfO none (.elt d i j)
  | .one (.lf (.opt l i j sz)) => lfO none (.opt l i j sz)
  | .one (.lf (.fn f caps)) => lfO none (.fn f caps)
  | .one (.lf (.xt (.clo f ag ps))) => lfO none (.xt (.clo f ag ps))
  | _ => none
def hConv (T : TypeId → Option Ty) (S : Sh D) (blk : Nat → Option (Bk D)) (s t : TypeId) (a : Sl D) : Option (Out D) :=
  match xText T S blk s t a with
  | some out => some out
  | none => xConv T s t a
def hBox (fr : Nat) (a : Sl D) : Option (Out D) :=
  match a with
  | .one u => if u.whole then some ⟨none, .one (.lf (.ptr fr 0)), [(fr, some (.cells u.cells))]⟩ else none
  | _ => none
def hFn (Γ : FuncId → Option (Ct D)) (blk : Nat → Option (Bk D)) (fr : Nat) (a : Sl D) (args : List (Sl D)) : Option (Out D) :=
  match xCallC Γ blk fr a args with
  | some out => some out
  | none => (match a with
    | .one (.lf (.fn f caps)) => if caps.all (fun l => isCells (blk l)) then xCall Γ f blk (args ++ caps.map fun l => .one (.lf (.ptr l 0))) fr else none
    | _ => none)
def hCall (T : TypeId → Option Ty) (S : Sh D) (Γ : FuncId → Option (Ct D)) (slot : Nat → Sl D) (blk : Nat → Option (Bk D)) (fr : Nat) (c : Call) : Option (Option (Out D)) :=
  match c.callee with
  | .value f => some (hFn Γ blk fr (opnd slot f) (c.args.toList.map (opnd slot)))
  | .builtin .len => (match c.args.toList with
    | [x] => some (xLen S T blk c.argTypes (opnd slot x))
    | _ => none)
  | _ => none
def xHot (T : TypeId → Option Ty) (S : Sh D) (Γ : FuncId → Option (Ct D)) (slot : Nat → Sl D) (blk : Nat → Option (Bk D)) (fr : Nat) (op : Op) : Option (Option (Out D)) :=
  match op with
  | .move x => some (some ⟨none, opnd slot x, []⟩)
  | .assign x => some (some ⟨none, opnd slot x, []⟩)
  | .load t x => some (hLoad T S blk t (opnd slot x))
  | .store t x y => some (hStore T S Γ slot blk fr t x y)
  | .fieldAddr t x f => some (xField T t (opnd slot x) f)
  | .extract x i => some (xExtract (opnd slot x) i)
  | .binOp op t x y _ => some (hBin T S op t (opnd slot x) (opnd slot y))
  | .unOp op _ x => some (xUn op (opnd slot x))
  | .indexAddr t x i => some (hAddr T S blk t (opnd slot x) (opnd slot i))
  | .index t x i => some (hIndex T t (opnd slot x) (opnd slot i))
  | .nilCheck x => some (hNil (opnd slot x))
  | .pick c a b => some (xPick slot c a b)
  | .convert s t x => some (hConv T S blk s t (opnd slot x))
  | .box _ x => some (hBox fr (opnd slot x))
  | .call c => hCall T S Γ slot blk fr c
  | _ => none
noncomputable def stepUK (ops : Array Oper) (draw : Bool) (o : Oper) (i : Nat) (acc : Acc) (k : Kt D) (out : Out D) : Option (Acc × Kt D) :=
  match okD out.pre with
  | false => none
  | true => (match draw with
    | false => (match k.put o.dst out.val out.blks with
      | none => none
      | some k => some (acc, k))
    | true => (match badB ops acc o (memReads (sget k.sl) (bget k.bl) o.op) (out.blks.map (·.1)) with
      | true => none
      | false => (match k.put o.dst out.val out.blks with
        | none => none
        | some k' => some ((i, memReads (sget k.sl) (bget k.bl) o.op, out.blks.map (·.1)) :: acc, k'))))
noncomputable def slowUK (T : TypeId → Option Ty) (S : Sh D) (Γ : FuncId → Option (Ct D)) (ops : Array Oper) (draw : Bool) (o : Oper) (i : Nat) (acc : Acc) (k : Kt D) : Option (Acc × Kt D) :=
  match xNext (sget k.sl) (bget k.bl) o.op with
  | some (b, o1, o2) => stepUK ops draw o i acc k (cond b o1 o2)
  | none => (match xOpR T S Γ (sget k.sl) (bget k.bl) (k.s.next + 64 * i) o.op with
    | none => none
    | some out => stepUK ops draw o i acc k out)
noncomputable def stepVUK (T : TypeId → Option Ty) (S : Sh D) (Γ : FuncId → Option (Ct D)) (ops : Array Oper) (draw : Bool) (o : Oper) (i : Nat) (acc : Acc) (k : Kt D) : Option (Acc × Kt D) :=
  match xHot T S Γ (sget k.sl) (bget k.bl) (k.s.next + 64 * i) o.op with
  | some r => (match r with
    | some out => stepUK ops draw o i acc k out
    | none => none)
  | none => slowUK T S Γ ops draw o i acc k
noncomputable def skipUK (ops : Array Oper) (draw : Bool) (o : Oper) (i : Nat) (acc : Acc) (k : Kt D) : Option (Acc × Kt D) :=
  match draw with
  | false => (match k.put o.dst (.one (.lf (.val undef))) [] with
    | none => none
    | some k => some (acc, k))
  | true => (match badB ops acc o (memReads (sget k.sl) (bget k.bl) o.op) [] with
    | true => none
    | false => (match k.put o.dst (.one (.lf (.val undef))) [] with
      | none => none
      | some k' => some ((i, memReads (sget k.sl) (bget k.bl) o.op, []) :: acc, k')))
/-- A slot told as the bool that it is. -/
noncomputable def Kt.tell (k : Kt D) (d : Nat) (b : Bool) : Option (Kt D) :=
  match sset k.sl d (.one (.lf (.val (.bool b)))) with
  | none => none
  | some sl => some ⟨⟨(d, .one (.lf (.val (.bool b)))) :: k.s.tmps, k.s.blks, k.s.next⟩, sl, k.bl⟩
noncomputable def guardUK (T : TypeId → Option Ty) (S : Sh D) (Γ : FuncId → Option (Ct D)) (ops : Array Oper) (draw : Bool) (o : Oper) (i : Nat) (acc : Acc) (k : Kt D) : Option (Acc × Kt D) :=
  match o.guard with
  | none => stepVUK T S Γ ops draw o i acc k
  | some (j, want) => (match (ops[j]?).bind (·.dst) with
    | none => none
    | some d => (match sget k.sl d with
      | .one (.lf (.bool b)) => (match k.tell d b with
        | none => none
        | some k => (match b == want with
          | true => stepVUK T S Γ ops draw o i acc k
          | false => skipUK ops draw o i acc k))
      | .one (.lf (.val (.bool b))) => (match b == want with
        | true => stepVUK T S Γ ops draw o i acc k
        | false => skipUK ops draw o i acc k)
      | .one (.lf (.val v)) => (match notBool v with
        | true => skipUK ops draw o i acc k
        | false => none)
      | _ => none))
noncomputable def opsUK (T : TypeId → Option Ty) (S : Sh D) (Γ : FuncId → Option (Ct D)) (ops : Array Oper) (n : Nat) (draw : Bool) : List Oper → Nat → Acc → Kt D → Option (Kt D)
  | [], i, _, k => some ⟨⟨k.s.tmps, k.s.blks, k.s.next + 64 * i⟩, k.sl, k.bl⟩
  | o :: r, i, acc, k =>
    match dstOk n o.dst with
    | false => none
    | true => (match guardUK T S Γ ops draw o i acc k with
      | none => none
      | some (acc, k) => opsUK T S Γ ops n draw r (i + 1) acc k)
noncomputable def evUK (T : TypeId → Option Ty) (S : Sh D) (Γ : FuncId → Option (Ct D)) (n m : Nat) : Code → Kt D → Option (Ex × Kt D)
  | .skip, s => some (.normal, s)
  | .region _ ops draw, s => (match opsUK T S Γ ops n draw ops.toList 0 [] s with
    | none => none
    | some s => some (.normal, s))
  | .seq a b, s => (match evUK T S Γ n m a s with
    | none => none
    | some (e, s) => (match e with
      | .normal => evUK T S Γ n m b s
      | .exit i => some (.exit i, s)
      | .ret => some (.ret, s)))
  | .cond c x y, s => (match opnd (sget s.sl) c with
    | .one (.lf (.bool b)) => cond b (evUK T S Γ n m x s) (evUK T S Γ n m y s)
    | .one (.lf (.val (.bool b))) => cond b (evUK T S Γ n m x s) (evUK T S Γ n m y s)
    | _ => none)
  | .block id b, s => (match evUK T S Γ n m b s with
    | none => none
    | some (e, s) => (match e with
      | .normal => some (.normal, s)
      | .exit j => (match Nat.beq j id with
        | true => some (.normal, s)
        | false => some (.exit j, s))
      | .ret => some (.ret, s)))
  | .loop b, s => (match Nat.blt (loopId b) 100000 with
    | false => none
    | true => Nat.rec (motive := fun _ => Kt D → Option (Ex × Kt D)) (fun _ => none) (fun _ ih s => match evUK T S Γ n m b s with
      | none => none
      | some (e, s) => (match e with
        | .normal => ih s
        | .exit i => some (.exit i, s)
        | .ret => some (.ret, s))) m s)
  | .exit id, s => some (.exit id, s)
  | .ret, s => some (.ret, s)
  | .scope b, s => evUK T S Γ n m b s
  | .label _, s => some (.normal, s)
  | _, _ => none
/-! ### the same, code by code -/
abbrev Ru (D : Type) := Kt D → Option (Ex × Kt D)
noncomputable def kSkip : Ru D := fun s => some (.normal, s)
noncomputable def kRegion (T : TypeId → Option Ty) (S : Sh D) (Γ : FuncId → Option (Ct D)) (n : Nat) (ops : Array Oper) (draw : Bool) : Ru D := fun s =>
  match opsUK T S Γ ops n draw ops.toList 0 [] s with
  | none => none
  | some s => some (.normal, s)
noncomputable def kSeq (a b : Ru D) : Ru D := fun s =>
  match a s with
  | none => none
  | some (e, s) => (match e with
    | .normal => b s
    | .exit i => some (.exit i, s)
    | .ret => some (.ret, s))
noncomputable def kCond (c : Operand) (x y : Ru D) : Ru D := fun s =>
  match opnd (sget s.sl) c with
  | .one (.lf (.bool b)) => cond b (x s) (y s)
  | .one (.lf (.val (.bool b))) => cond b (x s) (y s)
  | _ => none
noncomputable def kBlock (id : Nat) (b : Ru D) : Ru D := fun s =>
  match b s with
  | none => none
  | some (e, s) => (match e with
    | .normal => some (.normal, s)
    | .exit j => (match Nat.beq j id with
      | true => some (.normal, s)
      | false => some (.exit j, s))
    | .ret => some (.ret, s))
noncomputable def kRound (b ih : Ru D) : Ru D := fun s =>
  match b s with
  | none => none
  | some (e, s) => (match e with
    | .normal => ih s
    | .exit i => some (.exit i, s)
    | .ret => some (.ret, s))
noncomputable def kLoop (m : Nat) (c : Code) (b : Ru D) : Ru D := fun s =>
  match Nat.blt (loopId c) 100000 with
  | false => none
  | true => Nat.rec (motive := fun _ => Ru D) (fun _ => none) (fun _ ih => kRound b ih) m s
noncomputable def kOut (e : Ex) : Ru D := fun s => some (e, s)
noncomputable def kNone : Ru D := fun _ => none
noncomputable def evK (T : TypeId → Option Ty) (S : Sh D) (Γ : FuncId → Option (Ct D)) (n m : Nat) (c : Code) : Ru D :=
  Code.rec (motive := fun _ => Ru D) kSkip (fun _ ops draw => kRegion T S Γ n ops draw) (fun _ _ a b => kSeq a b) (fun c _ _ x y => kCond c x y) (fun id _ b => kBlock id b) (fun c b => kLoop m c b) (fun _ _ _ _ _ _ => kNone)
    (fun id => kOut (.exit id)) (fun _ b => b) (fun _ => kSkip) (fun _ => kNone) (kOut .ret) (fun _ => kNone) c
theorem evK_eq (T : TypeId → Option Ty) (S : Sh D) (Γ : FuncId → Option (Ct D)) (n m : Nat) : ∀ (c : Code) (s : Kt D), evK T S Γ n m c s = evUK T S Γ n m c s := by
  intro c
  induction c with
  | seq a b iha ihb =>
    intro s
    show kSeq (evK T S Γ n m a) (evK T S Γ n m b) s = _
    unfold kSeq evUK
    rw [iha]
    split
    · rfl
    · rename_i e s1 h1
      cases e with
      | normal => exact ihb s1
      | _ => rfl
  | cond c x y ihx ihy =>
    intro s
    show kCond c (evK T S Γ n m x) (evK T S Γ n m y) s = _
    unfold kCond evUK
    rw [ihx, ihy]
  | block id b ih =>
    intro s
    show kBlock id (evK T S Γ n m b) s = _
    unfold kBlock evUK
    rw [ih]
  | loop b ih =>
    intro s
    show kLoop m b (evK T S Γ n m b) s = _
    have hb : evK T S Γ n m b = evUK T S Γ n m b := funext ih
    rw [hb]
    rfl
  | scope b ih => intro s; exact ih s
  | _ => intro s; rfl
noncomputable def Kt.init (args : List (Sl D)) (bks : List (Bk D)) : Option (Kt D) :=
  (args.zipIdx.foldl (fun k p => match k with
    | none => none
    | some sl => sset sl p.2 p.1) (some .leaf)).bind fun sl => (bset .leaf (initB 0 bks)).map fun bl => ⟨St.init args bks, sl, bl⟩
end

section
variable {D : Type} {S : Sh D} {T : TypeId → Option Ty} {Γ : FuncId → Option (Ct D)}
theorem sset_get {t t' : Tri (Sl D)} {n : Nat} {x : Sl D} (h : sset t n x = some t') : sget t' = upd (sget t) n x := by
  unfold sset at h
  cases hb : Nat.blt n 65536 with
  | false => rw [hb] at h; cases h
  | true =>
    rw [hb] at h
    injection h with h
    subst h
    rw [Nat.blt_eq] at hb
    funext m
    unfold sget upd
    rw [Tri.get_set 16 t n m x (by omega)]
    by_cases e : m = n
    · rw [if_pos e, if_pos e]
    · rw [if_neg e, if_neg e]
theorem bset_get : ∀ {bs : List (Nat × Option (Bk D))} {t t' : Tri (Option (Bk D))}, bset t bs = some t' → bget t' = updL (bget t) bs
  | [], t, t', h => by injection h with h; subst h; rfl
  | (n, x) :: r, t, t', h => by
    unfold bset at h
    cases hb : Nat.blt n 1099511627776 with
    | false => rw [hb] at h; cases h
    | true =>
      rw [hb] at h
      rw [Nat.blt_eq] at hb
      have h : bset (Tri.set 41 t n x) r = some t' := h
      rw [bset_get h]
      show _ = updL (upd (bget t) n x) r
      congr 1
      funext m
      unfold bget upd
      rw [Tri.get_set 40 t n m x (by omega)]
      by_cases e : m = n
      · rw [if_pos e, if_pos e]
      · rw [if_neg e, if_neg e]
theorem put_ok {k k' : Kt D} {dst : Option Nat} {v : Sl D} {bs : List (Nat × Option (Bk D))} (hk : KtOk k) (h : k.put dst v bs = some k') : KtOk k' ∧ k'.s = k.s.put dst v bs := by
  unfold Kt.put at h
  split at h
  · cases h
  · rename_i bl hbl
    have hb := bset_get hbl
    split at h
    · injection h with h
      subst h
      refine ⟨⟨?_, ?_⟩, rfl⟩
      · rw [put_slot]; exact hk.sl
      · rw [put_blk]; show bget bl = _; rw [hb, hk.bl]; rfl
    · rename_i d
      split at h
      · cases h
      · rename_i sl hsl
        injection h with h
        subst h
        refine ⟨⟨?_, ?_⟩, rfl⟩
        · rw [put_slot]; show sget sl = _; rw [sset_get hsl, hk.sl]; rfl
        · rw [put_blk]; show bget bl = _; rw [hb, hk.bl]; rfl
theorem stepUK_ok {ops : Array Oper} {draw : Bool} {o : Oper} {i : Nat} {acc acc' : Acc} {k k' : Kt D} {out : Out D} (hk : KtOk k) (h : stepUK ops draw o i acc k out = some (acc', k')) : KtOk k' ∧ stepU T S Γ ops draw o i acc k.s out = some (acc', k'.s) := by
  unfold stepUK at h
  unfold stepU
  rw [hk.sl, hk.bl] at h
  split at h
  · cases h
  · rename_i hp
    rw [hp]
    cases draw with
    | false =>
      dsimp only at h ⊢
      split at h
      · cases h
      · rename_i k1 h1
        injection h with h; injection h with q1 q2; subst q1 q2
        obtain ⟨r1, r2⟩ := put_ok hk h1
        exact ⟨r1, by rw [r2]⟩
    | true =>
      dsimp only at h ⊢
      split at h
      · cases h
      · rename_i hb
        rw [hb]
        dsimp only
        split at h
        · cases h
        · rename_i k1 h1
          injection h with h; injection h with q1 q2; subst q1 q2
          obtain ⟨r1, r2⟩ := put_ok hk h1
          exact ⟨r1, by rw [r2]⟩
theorem hot_ok {slot : Nat → Sl D} {blk : Nat → Option (Bk D)} {fr : Nat} {op : Op} {r : Option (Out D)} (h : xHot T S Γ slot blk fr op = some r) : xNext slot blk op = none ∧ xOpR T S Γ slot blk fr op = r := by
  unfold xHot at h
  split at h
  all_goals first | (cases h; done) | (injection h with h; subst h; refine ⟨rfl, ?_⟩) | skip
  · rfl
  · rfl
  · rename_i t x
    unfold hLoad
    simp only [xOpR, xNew, xCool2, coolable2, xOpQ, xOpD, xMore, xOpC, xOp, xCool, coolable, Bool.false_and, Bool.false_eq_true, if_false]
    cases xLoadT T blk t (opnd slot x) with
    | some o => rfl
    | none => cases xLoadA T S blk t (opnd slot x) with
      | some o => rfl
      | none => cases xLoad T S blk t (opnd slot x) <;> rfl
  · rename_i t x y
    unfold hStore
    simp only [xOpR, xNew, xCool2, coolable2, xOpQ, xOpD, xMore, xOpC, xOp, Bool.false_and, Bool.false_eq_true, if_false]
    cases xStoreT T blk t (opnd slot x) (opnd slot y) with
    | some o => rfl
    | none => cases xStoreA T S blk t (opnd slot x) (opnd slot y) with
      | some o => rfl
      | none => cases xStore T S blk t (opnd slot x) (opnd slot y) <;> rfl
  · rename_i t x f
    simp only [xOpR, xNew, xCool2, coolable2, xOpQ, xOpD, xMore, xOpC, xOp, xCool, coolable, Bool.false_and, Bool.false_eq_true, if_false]
    cases xField T t (opnd slot x) f <;> rfl
  · rename_i x i
    simp only [xOpR, xNew, xCool2, coolable2, xOpQ, xOpD, xMore, xOpC, xOp, xCool, coolable, Bool.false_and, Bool.false_eq_true, if_false]
    cases xExtract (opnd slot x) i <;> rfl
  · rename_i op t x y yt
    unfold hBin
    simp only [xOpR, xNew, xCool2, coolable2, xOpQ, xOpD, xMore, xOpC, xOp, xCool, coolable, Bool.false_and, Bool.false_eq_true, if_false]
    cases xNilC T S op t (opnd slot x) (opnd slot y) with
    | some o => rfl
    | none => cases firstOf (xNilq T S op t (opnd slot x) (opnd slot y)) (xBin T op t (opnd slot x) (opnd slot y)) <;> rfl
  · rename_i op t x
    simp only [xOpR, xNew, xCool2, coolable2, xOpQ, xOpD, xMore, xOpC, xOp, xCool, coolable, Bool.false_and, Bool.false_eq_true, if_false]
    cases xUn op (opnd slot x) <;> rfl
  · rename_i t x i
    unfold hAddr
    simp only [xOpR, xNew, xCool2, coolable2, xOpQ, xOpD, xMore, xOpC, xOp, xCool, coolable, Bool.false_and, Bool.false_eq_true, if_false]
    cases xAddrC T t (opnd slot x) (opnd slot i) with
    | some o => rfl
    | none => cases xIndexA T S t (opnd slot x) (opnd slot i) with
      | some o => rfl
      | none => cases xIndex T S blk t (opnd slot x) (opnd slot i) <;> rfl
  · rename_i t x i
    unfold hIndex
    simp only [xOpR, xNew, xCool2, coolable2, xOpQ, xOpD, xMore, xOpC, xOp, xCool, coolable, Bool.false_and, Bool.false_eq_true, if_false]
    cases xIndexC T t (opnd slot x) (opnd slot i) with
    | some o => rfl
    | none => cases xIndexV T t (opnd slot x) (opnd slot i) with
      | some o => rfl
      | none => cases xStrAt T t (opnd slot x) (opnd slot i) <;> rfl
  · rename_i x
    unfold hNil
    simp only [xOpR, xNew, xCool2, coolable2, xOpQ, xOpD, xMore, xOpC, xOp, xCool, coolable, Bool.false_and, Bool.false_eq_true, if_false]
    cases opnd slot x with
    | tup xs => rfl
    | one u =>
      cases u with
      | agg xs => rfl
      | lf y =>
        cases y <;> first | rfl | (rename_i e; cases e <;> rfl)
  · rename_i c x y
    simp only [xOpR, xNew, xCool2, coolable2, xOpQ, xOpD, xMore, xOpC, xOp, xCool, coolable, Bool.false_and, Bool.false_eq_true, if_false]
    cases xPick slot c x y <;> rfl
  · rename_i s t x
    unfold hConv
    simp only [xOpR, xNew, xCool2, coolable2, xOpQ, xOpD, xMore, xOpC, xOp, xCool, coolable, Bool.false_and, Bool.false_eq_true, if_false]
    cases xText T S blk s t (opnd slot x) with
    | some o => rfl
    | none => cases xConv T s t (opnd slot x) <;> rfl
  · rename_i t x
    unfold hBox
    simp only [xOpR, xNew, xCool2, coolable2, xOpQ, xOpD, xMore, xOpC, xOp, xCool, coolable, Bool.false_and, Bool.false_eq_true, if_false]
    cases opnd slot x with
    | tup xs => rfl
    | one u =>
      dsimp only
      cases u.whole <;> rfl
  · rename_i c
    unfold hCall at h
    split at h
    · rename_i f hc
      injection h with h
      subst h
      refine ⟨rfl, ?_⟩
      unfold hFn
      simp only [xOpR, xNew, xCool2, coolable2, xOpQ, xOpD, xMore, xOpC, xOp, xCool, coolable, Bool.false_and, Bool.false_eq_true, if_false, hc]
      cases xCallC Γ blk fr (opnd slot f) (c.args.toList.map (opnd slot)) with
      | some o => rfl
      | none =>
        cases opnd slot f with
        | tup xs => rfl
        | one u =>
          cases u with
          | agg xs => rfl
          | lf y =>
            cases y <;> first | rfl | skip
            rename_i f' caps
            dsimp only
            cases hb : (caps.all fun l => isCells (blk l)) with
            | true =>
              rw [if_pos rfl]
              cases xCall Γ f' blk (c.args.toList.map (opnd slot) ++ caps.map fun l => .one (.lf (.ptr l 0))) fr <;> rfl
            | false =>
              rw [if_neg (by simp)]
    · rename_i hc
      split at h
      · rename_i x hx
        injection h with h
        subst h
        refine ⟨rfl, ?_⟩
        simp only [xOpR, xNew, xCool2, coolable2, xOpQ, xOpD, xMore, xOpC, xOp, xCool, coolable, Bool.false_and, Bool.false_eq_true, if_false, hc, hx]
        cases xLen S T blk c.argTypes (opnd slot x) <;> rfl
      · cases h
    · cases h
theorem slow_of {ops : Array Oper} {draw : Bool} {o : Oper} {i : Nat} {acc : Acc} {s : St D} : (match xNext s.slot s.blk o.op with
      | some (b, o1, o2) => stepU T S Γ ops draw o i acc s (cond b o1 o2)
      | none => (match xOpR T S Γ s.slot s.blk (s.next + 64 * i) o.op with
        | none => none
        | some out => stepU T S Γ ops draw o i acc s out)) = stepVU T S Γ ops draw o i acc s := by
  unfold stepVU
  cases draw with
  | true => rfl
  | false =>
    cases hx : xFast T s.slot s.blk o.op with
    | none => rfl
    | some v =>
      obtain ⟨q1, q2⟩ := fast_ok (S := S) (Γ := Γ) (fr := s.next + 64 * i) hx
      rw [q1, q2]
      rfl
theorem stepVUK_ok {ops : Array Oper} {draw : Bool} {o : Oper} {i : Nat} {acc acc' : Acc} {k k' : Kt D} (hk : KtOk k) (h : stepVUK T S Γ ops draw o i acc k = some (acc', k')) : KtOk k' ∧ stepVU T S Γ ops draw o i acc k.s = some (acc', k'.s) := by
  rw [← slow_of]
  unfold stepVUK at h
  rw [hk.sl, hk.bl] at h
  split at h
  · rename_i r hr
    obtain ⟨q1, q2⟩ := hot_ok hr
    rw [q1, q2]
    split at h
    · exact stepUK_ok hk h
    · cases h
  · unfold slowUK at h
    rw [hk.sl, hk.bl] at h
    split at h
    · exact stepUK_ok hk h
    · split at h
      · cases h
      · rename_i out ho
        first | exact stepUK_ok hk h | (rw [ho]; exact stepUK_ok hk h)
theorem skipUK_ok {ops : Array Oper} {draw : Bool} {o : Oper} {i : Nat} {acc acc' : Acc} {k k' : Kt D} (hk : KtOk k) (h : skipUK ops draw o i acc k = some (acc', k')) : KtOk k' ∧ skipU ops draw o i acc k.s = some (acc', k'.s) := by
  unfold skipUK at h
  unfold skipU
  rw [hk.sl, hk.bl] at h
  cases draw with
  | false =>
    dsimp only at h ⊢
    split at h
    · cases h
    · rename_i k1 h1
      injection h with h; injection h with q1 q2; subst q1 q2
      obtain ⟨r1, r2⟩ := put_ok hk h1
      exact ⟨r1, by rw [r2]⟩
  | true =>
    dsimp only at h ⊢
    split at h
    · cases h
    · rename_i hb
      rw [hb]
      dsimp only
      split at h
      · cases h
      · rename_i k1 h1
        injection h with h; injection h with q1 q2; subst q1 q2
        obtain ⟨r1, r2⟩ := put_ok hk h1
        exact ⟨r1, by rw [r2]⟩
theorem tell_ok {k k' : Kt D} {d : Nat} {b : Bool} (hk : KtOk k) (h : k.tell d b = some k') : KtOk k' ∧ k'.s = ⟨(d, .one (.lf (.val (.bool b)))) :: k.s.tmps, k.s.blks, k.s.next⟩ := by
  unfold Kt.tell at h
  split at h
  · cases h
  · rename_i sl hsl
    injection h with h
    subst h
    refine ⟨⟨?_, hk.bl⟩, rfl⟩
    show sget sl = look _ _
    rw [sset_get hsl, hk.sl, look_cons]
    rfl
theorem guardUK_ok {ops : Array Oper} {draw : Bool} {o : Oper} {i : Nat} {acc acc' : Acc} {k k' : Kt D} (hk : KtOk k) (h : guardUK T S Γ ops draw o i acc k = some (acc', k')) : KtOk k' ∧ guardU T S Γ ops draw o i acc k.s = some (acc', k'.s) := by
  unfold guardUK at h
  unfold guardU
  split at h
  · rename_i hg
    rw [hg]
    exact stepVUK_ok hk h
  · rename_i j want hg
    rw [hg]
    dsimp only
    split at h
    · cases h
    · rename_i d hd
      rw [hd]
      dsimp only
      rw [hk.sl] at h
      split at h
      · rename_i b hs
        rw [hs]
        dsimp only
        split at h
        · cases h
        · rename_i k1 h1
          obtain ⟨r1, r2⟩ := tell_ok hk h1
          cases b <;> cases want
          · obtain ⟨u1, u2⟩ := stepVUK_ok r1 h; rw [r2] at u2; exact ⟨u1, u2⟩
          · obtain ⟨u1, u2⟩ := skipUK_ok r1 h; rw [r2] at u2; exact ⟨u1, u2⟩
          · obtain ⟨u1, u2⟩ := skipUK_ok r1 h; rw [r2] at u2; exact ⟨u1, u2⟩
          · obtain ⟨u1, u2⟩ := stepVUK_ok r1 h; rw [r2] at u2; exact ⟨u1, u2⟩
      · rename_i b hs
        rw [hs]
        dsimp only
        split at h
        · rename_i hb; rw [hb]; exact stepVUK_ok hk h
        · rename_i hb; rw [hb]; exact skipUK_ok hk h
      · rename_i v hnb hs
        rw [hs]
        split at h
        · rename_i hb
          obtain ⟨u1, u2⟩ := skipUK_ok hk h
          refine ⟨u1, ?_⟩
          split
          · rename_i b e; cases e
          · rename_i b e
            injection e with e; injection e with e; injection e with e
            exact absurd e (hnb b)
          · rename_i v' _ e
            injection e with e; injection e with e; injection e with e
            subst e
            rw [hb]
            exact u2
          · rename_i e1 e2; exact absurd rfl (e2 v)
        · cases h
      · cases h
theorem opsUK_ok {ops : Array Oper} {n : Nat} {draw : Bool} : ∀ {l : List Oper} {i : Nat} {acc : Acc} {k k' : Kt D}, KtOk k → opsUK T S Γ ops n draw l i acc k = some k' → KtOk k' ∧ opsU T S Γ ops n draw l i acc k.s = some k'.s
  | [], i, acc, k, k', hk, h => by
    injection h with h
    subst h
    exact ⟨⟨hk.sl, hk.bl⟩, rfl⟩
  | o :: r, i, acc, k, k', hk, h => by
    unfold opsUK at h
    unfold opsU
    split at h
    · cases h
    · rename_i hd
      rw [hd]
      dsimp only
      split at h
      · cases h
      · rename_i acc1 k1 hg
        obtain ⟨u1, u2⟩ := guardUK_ok hk hg
        rw [u2]
        exact opsUK_ok u1 h
theorem evUK_ok {n m : Nat} : ∀ (c : Code) {k k' : Kt D} {e : Ex}, KtOk k → evUK T S Γ n m c k = some (e, k') → KtOk k' ∧ evU T S Γ n m c k.s = some (e, k'.s) := by
  intro c
  induction c with
  | skip => intro k k' e hk h; injection h with h; injection h with h1 h2; subst h1 h2; exact ⟨hk, rfl⟩
  | region id ops draw =>
    intro k k' e hk h
    unfold evUK at h
    unfold evU
    split at h
    · cases h
    · rename_i k1 h1
      injection h with h; injection h with q1 q2; subst q1 q2
      obtain ⟨u1, u2⟩ := opsUK_ok hk h1
      exact ⟨u1, by rw [u2]⟩
  | seq a b iha ihb =>
    intro k k' e hk h
    unfold evUK at h
    unfold evU
    split at h
    · cases h
    · rename_i e1 k1 h1
      obtain ⟨u1, u2⟩ := iha hk h1
      rw [u2]
      cases e1 with
      | normal => exact ihb u1 h
      | exit i => injection h with h; injection h with q1 q2; subst q1 q2; exact ⟨u1, rfl⟩
      | ret => injection h with h; injection h with q1 q2; subst q1 q2; exact ⟨u1, rfl⟩
  | cond c x y ihx ihy =>
    intro k k' e hk h
    unfold evUK at h
    unfold evU
    rw [hk.sl] at h
    split at h
    · rename_i b hb
      rw [hb]
      cases b with
      | true => exact ihx hk h
      | false => exact ihy hk h
    · rename_i b hb
      rw [hb]
      cases b with
      | true => exact ihx hk h
      | false => exact ihy hk h
    · cases h
  | block id b ih =>
    intro k k' e hk h
    unfold evUK at h
    unfold evU
    split at h
    · cases h
    · rename_i e1 k1 h1
      obtain ⟨u1, u2⟩ := ih hk h1
      rw [u2]
      cases e1 with
      | normal => injection h with h; injection h with q1 q2; subst q1 q2; exact ⟨u1, rfl⟩
      | exit j =>
        dsimp only at h ⊢
        split at h
        · rename_i hj; rw [hj]; injection h with h; injection h with q1 q2; subst q1 q2; exact ⟨u1, rfl⟩
        · rename_i hj; rw [hj]; injection h with h; injection h with q1 q2; subst q1 q2; exact ⟨u1, rfl⟩
      | ret => injection h with h; injection h with q1 q2; subst q1 q2; exact ⟨u1, rfl⟩
  | loop b ih =>
    intro k k' e hk h
    unfold evUK at h
    unfold evU
    split at h
    · cases h
    rename_i hlt
    rw [hlt]
    dsimp only
    have key : ∀ (j : Nat) (k : Kt D), KtOk k → (Nat.rec (motive := fun _ => Kt D → Option (Ex × Kt D)) (fun _ => none) (fun _ ih s => match evUK T S Γ n m b s with
      | none => none
      | some (e, s) => (match e with
        | .normal => ih s
        | .exit i => some (.exit i, s)
        | .ret => some (.ret, s))) j k) = some (e, k') → KtOk k' ∧ (Nat.rec (motive := fun _ => St D → Option (Ex × St D)) (fun _ => none) (fun _ ih s => match evU T S Γ n m b s with
      | none => none
      | some (e, s) => (match e with
        | .normal => ih s
        | .exit i => some (.exit i, s)
        | .ret => some (.ret, s))) j k.s) = some (e, k'.s) := by
      intro j
      induction j with
      | zero => intro k _ h; cases h
      | succ j ihj =>
        intro k hk h
        dsimp only at h ⊢
        split at h
        · cases h
        · rename_i e1 k1 h1
          obtain ⟨u1, u2⟩ := ih hk h1
          rw [u2]
          cases e1 with
          | normal => exact ihj k1 u1 h
          | exit i => injection h with h; injection h with q1 q2; subst q1 q2; exact ⟨u1, rfl⟩
          | ret => injection h with h; injection h with q1 q2; subst q1 q2; exact ⟨u1, rfl⟩
    exact key m k hk h
  | exit id => intro k k' e hk h; injection h with h; injection h with h1 h2; subst h1 h2; exact ⟨hk, rfl⟩
  | ret => intro k k' e hk h; injection h with h; injection h with h1 h2; subst h1 h2; exact ⟨hk, rfl⟩
  | scope b ih => intro k k' e hk h; exact ih hk h
  | label l => intro k k' e hk h; injection h with h; injection h with h1 h2; subst h1 h2; exact ⟨hk, rfl⟩
  | _ => intro k k' e hk h; cases h
theorem sfold_ok : ∀ (args : List (Sl D)) (i : Nat) (t t' : Tri (Sl D)), ((args.zipIdx i).foldl (fun k p => match k with
    | none => none
    | some sl => sset sl p.2 p.1) (some t)) = some t' → ∀ n, sget t' n = if i ≤ n ∧ n < i + args.length then (args[n - i]?).getD (.one (.lf .any)) else sget t n
  | [], i, t, t', h, n => by
    injection h with h
    subst h
    rw [if_neg (by simp)]
  | x :: r, i, t, t', h, n => by
    rw [List.zipIdx_cons, List.foldl_cons] at h
    dsimp only at h
    cases hs : sset t i x with
    | none =>
      rw [hs] at h
      have : ∀ (l : List (Sl D × Nat)), (l.foldl (fun (k : Option (Tri (Sl D))) p => match k with
          | none => none
          | some sl => sset sl p.2 p.1) none) = none := by
        intro l
        induction l with
        | nil => rfl
        | cons y l ih => exact ih
      rw [this] at h
      cases h
    | some t1 =>
      rw [hs] at h
      rw [sfold_ok r (i + 1) t1 t' h n, sset_get hs]
      simp only [List.length_cons]
      by_cases h1 : i + 1 ≤ n ∧ n < i + 1 + r.length
      · rw [if_pos h1, if_pos (by omega), show n - i = (n - (i + 1)) + 1 by omega]
        simp
      · rw [if_neg h1]
        by_cases h2 : n = i
        · subst h2
          rw [upd_same, if_pos (by omega)]
          simp
        · rw [upd_other _ _ _ _ h2, if_neg (by omega)]
theorem initT_look : ∀ (args : List (Sl D)) (i n : Nat), look (.one (.lf .any)) (initT i args) n = if i ≤ n ∧ n < i + args.length then (args[n - i]?).getD (.one (.lf .any)) else .one (.lf .any)
  | [], i, n => by simp [initT, look]
  | x :: r, i, n => by
    simp only [initT, look, List.length_cons]
    by_cases h2 : n = i
    · subst h2
      rw [if_pos (by simp), if_pos (by omega)]
      simp
    · have : ¬ (n.beq i = true) := fun e => h2 (Nat.eq_of_beq_eq_true e)
      rw [if_neg this, initT_look r (i + 1) n]
      by_cases h1 : i + 1 ≤ n ∧ n < i + 1 + r.length
      · rw [if_pos h1, if_pos (by omega), show n - i = (n - (i + 1)) + 1 by omega]
        simp
      · rw [if_neg h1, if_neg (by omega)]
theorem initB_upd : ∀ (bks : List (Bk D)) (i : Nat) (f : Nat → Option (Bk D)) (n : Nat), updL f (initB i bks) n = if i ≤ n ∧ n < i + bks.length then bks[n - i]? else f n
  | [], i, f, n => by
    rw [if_neg (by simp only [List.length_nil]; omega)]
    rfl
  | b :: r, i, f, n => by
    show updL (upd f i (some b)) (initB (i + 1) r) n = _
    rw [initB_upd r (i + 1) _ n]
    simp only [List.length_cons]
    by_cases h1 : i + 1 ≤ n ∧ n < i + 1 + r.length
    · rw [if_pos h1, if_pos (by omega), show n - i = (n - (i + 1)) + 1 by omega]
      simp
    · rw [if_neg h1]
      by_cases h2 : n = i
      · subst h2
        rw [upd_same, if_pos (by omega)]
        simp
      · rw [upd_other _ _ _ _ h2, if_neg (by omega)]
theorem init_ok {args : List (Sl D)} {bks : List (Bk D)} {k : Kt D} (h : Kt.init args bks = some k) : KtOk k ∧ k.s = St.init args bks := by
  unfold Kt.init at h
  cases h1 : (args.zipIdx.foldl (fun k p => match k with
    | none => none
    | some sl => sset sl p.2 p.1) (some (.leaf : Tri (Sl D)))) with
  | none => rw [h1] at h; cases h
  | some sl =>
    rw [h1] at h
    cases h2 : bset .leaf (initB 0 bks) with
    | none => rw [h2] at h; cases h
    | some bl =>
      rw [h2] at h
      injection h with h
      subst h
      refine ⟨⟨?_, ?_⟩, rfl⟩
      · funext n
        show sget sl n = look _ (initT 0 args) n
        rw [sfold_ok args 0 .leaf sl h1 n, initT_look]
        rfl
      · funext n
        show bget bl n = look none (initB 0 bks) n
        rw [bset_get h2, initB_upd, initB_look]
        simp only [Nat.zero_le, true_and, Nat.zero_add, if_true]
        by_cases hl : n < bks.length
        · rw [if_pos hl]
        · rw [if_neg hl, List.getElem?_eq_none (by omega)]; rfl
end
end Go.Vc
