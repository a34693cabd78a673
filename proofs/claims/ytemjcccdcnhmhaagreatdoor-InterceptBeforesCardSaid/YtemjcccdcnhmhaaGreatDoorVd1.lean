/-
  Own engine, part 1: symbolic values, data shapes, the relation between a symbolic state and the machine's state.
-/
import Derived.WalkKit
import Derived.Deep.LoopGhost
import Derived.Orders
namespace Go.Vc
open Go.RowKit
set_option linter.unusedVariables false

/-- What an interface may hold here: bools, numbers, texts; one, or a struct of them. -/
inductive Pv where
  | bool (b : Bool)
  | int (k : IntKind) (n : Int)
  | str (s : List UInt8)
structure Ifc where
  t : TypeId
  agg : Bool
  xs : List Pv
def Pv.val : Pv → Value
  | .bool b => .bool b
  | .int k n => .int k n
  | .str s => .string ⟨s.toArray⟩
def Ifc.inner (i : Ifc) : Value :=
  match i.agg, i.xs with
  | false, [x] => x.val
  | _, xs => .agg (xs.map Pv.val).toArray
def ifcVal : Option Ifc → Value
  | none => .nilIface
  | some i => .iface i.t i.inner
def Pv.fits : Pv → Prop
  | .str s => s.length ≤ 9223372036854775807
  | _ => True
def ifcOk : Option Ifc → Prop
  | none => True
  | some i => ∀ p ∈ i.xs, p.fits

/-- A symbolic value of one cell: its form is written out, its numbers, bools and texts are Lean's own terms. -/
inductive Lf (D : Type) : Type where
  | any
  | val (v : Value)
  | bool (b : Bool)
  | int (k : IntKind) (n : Int)
  | str (s : List UInt8)
  | ptr (l off : Nat)
  | dat (d : D)
  | elt (d : D) (i j : Nat)
  | fn (f : FuncId) (caps : List Nat)
  | own (l : Nat)
  | opt (l i j sz : Nat)
  | unk (p : Bool → Prop)
  | part (l i j sz : Nat) (f : D → Option D)
  | glb (i : Nat)
  | ifc (v : Option Ifc)

/-- A block of the call's own: cells written out, or a row that reads as a datum; or what stands for a datum for good. -/
inductive Bk (D : Type) : Type where
  | cells (cs : List (Lf D))
  | row (e : TypeId) (d : D)
  | ice (d : D)
  | iter (s : List UInt8) (pos : Nat)

inductive Sv (D : Type) : Type where
  | lf (x : Lf D)
  | agg (xs : List (Lf D))

inductive Sl (D : Type) : Type where
  | one (x : Sv D)
  | tup (xs : List (Sv D))

/-- The shape of data that lie in memory: slices of flat elements. -/
structure Sh (D : Type) where
  size : D → Nat
  len : D → Nat
  cell : D → Nat → Nat → Lf D
  make : TypeId → Nat → List (Lf D) → Option D
  zero : TypeId → Nat → List (Lf D) → Option D
  set : D → Nat → Nat → List (Lf D) → Option D
  cat : D → D → Option D
  sub : D → Nat → Nat → Option D
  glob : Nat → Option D

/-- A part of a row. -/
def subIf {D : Type} (S : Sh D) (sz i j : Nat) (d : D) : Option D := if Nat.beq sz (S.size d) then S.sub d i j else none

def Lf.plain {D : Type} : Lf D → Value → Prop
  | .val x, u => u = x
  | .bool b, u => u = .bool b
  | .int k n, u => u = .int k n
  | .str s, u => u = .string ⟨s.toArray⟩ ∧ s.length ≤ 9223372036854775807
  | .dat _, _ => True
  | .ifc v, u => u = ifcVal v ∧ ifcOk v
  | _, _ => False

inductive DRel {D : Type} (S : Sh D) (w : World) : D → Value → Prop where
  | mk (d : D) (a : Option Addr) (cap : Nat) (U : Nat → Nat → Value) (hcap : S.len d ≤ cap) (hlen : S.len d ≤ 9223372036854775807)
      (hcell : ∀ i j, i < S.len d → j < S.size d → ∃ ad, a = some ad ∧ w.cell? (ad.add (i * S.size d + j)) = some (U i j))
      (hpl : ∀ i j, i < S.len d → j < S.size d → Lf.plain (S.cell d i j) (U i j))
      (hdat : ∀ i j d', i < S.len d → j < S.size d → S.cell d i j = .dat d' → DRel S w d' (U i j)) : DRel S w d (.slice a (S.len d) cap)

/-- v stands for d, and for that no block of M is looked at, and no block that is not there yet. -/
def DatOk {D : Type} (S : Sh D) (M : Nat → Prop) (w : World) (d : D) (v : Value) : Prop :=
  ∀ w' : World, (∀ b, b < w.heap.size → ¬ M b → w'.heap[b]? = w.heap[b]?) → DRel S w' d v

def Lf.isData {D : Type} : Lf D → Bool
  | .bool _ | .int _ _ | .str _ | .dat _ | .ifc _ => true
  | _ => false

def Lf.Rel {D : Type} (S : Sh D) (M : Nat → Prop) (w : World) (g : Nat → Option Value) : Lf D → Value → Prop
  | .any, _ => True
  | .val x, v => v = x
  | .bool b, v => v = .bool b
  | .int k n, v => v = .int k n
  | .str s, v => v = .string ⟨s.toArray⟩ ∧ s.length ≤ 9223372036854775807
  | .ptr l o, v => ∃ b, g l = some (.pointer (some ⟨b, 0, none⟩)) ∧ v = .pointer (some ⟨b, o, none⟩)
  | .dat d, v => DatOk S M w d v
  | .elt d i j, v => ∃ a n cap, DatOk S M w d (.slice (some a) n cap) ∧ i < S.len d ∧ v = .pointer (some (a.add (i * S.size d + j)))
  | .fn f caps, v => ∃ vs : List Value, v = .func (.func f) #[] vs.toArray ∧ caps.map g = vs.map some
  | .own l, v => g l = some v
  | .opt l i j sz, v => ∃ b n cap, g l = some (.slice (some ⟨b, 0, none⟩) n cap) ∧ v = .pointer (some ⟨b, i * sz + j, none⟩)
  | .unk p, v => ∃ b, v = .bool b ∧ p b
  | .part l i j sz f, v => ∃ a n cap, g l = some (.slice a n cap) ∧ v = sliced a i j cap sz ∧ i ≤ j ∧ j ≤ n ∧ f = subIf S sz i j
  | .glb i, v => v = .pointer (some ⟨i, 0, none⟩)
  | .ifc x, v => v = ifcVal x ∧ ifcOk x

def LfsRel {D : Type} (S : Sh D) (M : Nat → Prop) (w : World) (g : Nat → Option Value) : List (Lf D) → List Value → Prop
  | [], [] => True
  | x :: xs, v :: vs => x.Rel S M w g v ∧ LfsRel S M w g xs vs
  | _, _ => False

def Sv.Rel {D : Type} (S : Sh D) (M : Nat → Prop) (w : World) (g : Nat → Option Value) : Sv D → Value → Prop
  | .lf x, v => x.Rel S M w g v
  | .agg xs, v => ∃ vs : List Value, v = .agg vs.toArray ∧ LfsRel S M w g xs vs

def SvsRel {D : Type} (S : Sh D) (M : Nat → Prop) (w : World) (g : Nat → Option Value) : List (Sv D) → List Value → Prop
  | [], [] => True
  | x :: xs, v :: vs => x.Rel S M w g v ∧ SvsRel S M w g xs vs
  | _, _ => False

def Sl.Rel {D : Type} (S : Sh D) (M : Nat → Prop) (w : World) (g : Nat → Option Value) : Sl D → Value → Prop
  | .one x, v => x.Rel S M w g v
  | .tup xs, v => ∃ vs : List Value, v = .tuple vs.toArray ∧ SvsRel S M w g xs vs

/-- What stays: blocks that are not in M, and below the heap's end, are as they were; M' is M and new blocks. -/
structure Keeps (M : Nat → Prop) (w : World) (M' : Nat → Prop) (w' : World) : Prop where
  size : w.heap.size ≤ w'.heap.size
  same : ∀ b, b < w.heap.size → ¬ M b → ¬ M' b ∧ w'.heap[b]? = w.heap[b]?

section
variable {D : Type} {S : Sh D} {M M' : Nat → Prop} {w w' : World} {g g' : Nat → Option Value}

theorem DatOk.keep {d : D} {v : Value} (h : DatOk S M w d v) (k : Keeps M w M' w') : DatOk S M' w' d v := fun w'' hs =>
  h w'' fun b hb hm => (hs b (Nat.lt_of_lt_of_le hb k.size) (k.same b hb hm).1).trans (k.same b hb hm).2

theorem DatOk.mono {d : D} {v : Value} {M₁ : Nat → Prop} (h : DatOk S M w d v) (hm : ∀ b, M₁ b → M b) : DatOk S M₁ w d v := fun w'' hs => h w'' fun b hb hn => hs b hb fun h1 => hn (hm b h1)

/-- The package's variables that S knows hold what it says. -/
def GlOk (S : Sh D) (M : Nat → Prop) (w : World) : Prop := ∀ i d, S.glob i = some d → DatOk S M w d (.slice (some ⟨i, 0, none⟩) (S.len d) (S.len d))
theorem GlOk.keep (h : GlOk S M w) (k : Keeps M w M' w') : GlOk S M' w' := fun i d hd => (h i d hd).keep k
theorem GlOk.mono {M₁ : Nat → Prop} (h : GlOk S M w) (hm : ∀ b, M₁ b → M b) : GlOk S M₁ w := fun i d hd => (h i d hd).mono hm

theorem row_block {B : Nat} {e : TypeId} {size n : Nat} {v : Value} {xs : List Value} {b : Nat} (h : w.ownsRow B e size v n xs) (hb : v.ownBlock = some b) : b < w.heap.size := by
  rcases h.2 with ⟨rfl, _⟩ | ⟨b', cap, cur, rfl, _, hh, _⟩
  · simp [Value.ownBlock] at hb
  · simp only [Value.ownBlock, Option.some.injEq] at hb
    subst hb
    rcases Nat.lt_or_ge b' w.heap.size with hl | hl
    · exact hl
    · rw [Array.getElem?_eq_none hl] at hh; cases hh

theorem row_keep {B : Nat} {e : TypeId} {size n : Nat} {v : Value} {xs : List Value} (h : w.ownsRow B e size v n xs) (hb : ∀ b, v.ownBlock = some b → w'.heap[b]? = w.heap[b]?) : w'.ownsRow B e size v n xs := by
  refine ⟨h.1, ?_⟩
  rcases h.2 with h0 | ⟨b', cap, cur, rfl, hB, hh, hrest⟩
  · exact .inl h0
  · exact .inr ⟨b', cap, cur, rfl, hB, (hb b' rfl).trans hh, hrest⟩

/-- A ghost that knows more. -/
def More (g g' : Nat → Option Value) : Prop := ∀ l v, g l = some v → g' l = some v
theorem More.refl (g : Nat → Option Value) : More g g := fun _ _ h => h
theorem More.map : ∀ {caps : List Nat} {vs : List Value}, More g g' → caps.map g = vs.map some → caps.map g' = vs.map some
  | [], [], _, _ => rfl
  | c :: caps, v :: vs, m, h => by
    simp only [List.map_cons, List.cons.injEq] at h ⊢
    exact ⟨m _ _ h.1, More.map m h.2⟩
  | [], _ :: _, _, h => by simp at h
  | _ :: _, [], _, h => by simp at h

theorem Lf.Rel.keep {x : Lf D} {v : Value} (h : x.Rel S M w g v) (k : Keeps M w M' w') (m : More g g') : x.Rel S M' w' g' v := by
  cases x with
  | any => trivial
  | val x => exact h
  | bool b => exact h
  | int k n => exact h
  | str s => exact h
  | ptr l o => obtain ⟨b, h1, h2⟩ := h; exact ⟨b, m _ _ h1, h2⟩
  | dat d => exact DatOk.keep h k
  | elt d i j => obtain ⟨a, n, cap, h1, h2⟩ := h; exact ⟨a, n, cap, h1.keep k, h2⟩
  | fn f caps => obtain ⟨vs, h1, h2⟩ := h; exact ⟨vs, h1, More.map m h2⟩
  | own l => exact m _ _ h
  | opt l i j sz => obtain ⟨b, n, cap, h1, h2⟩ := h; exact ⟨b, n, cap, m _ _ h1, h2⟩
  | unk p => exact h
  | part l i j sz f => obtain ⟨a, n, cap, h1, h2⟩ := h; exact ⟨a, n, cap, m _ _ h1, h2⟩
  | glb i => exact h
  | ifc x => exact h

theorem LfsRel.keep : ∀ {xs : List (Lf D)} {vs : List Value}, LfsRel S M w g xs vs → Keeps M w M' w' → More g g' → LfsRel S M' w' g' xs vs
  | [], [], _, _, _ => trivial
  | x :: xs, v :: vs, h, k, m => ⟨h.1.keep k m, LfsRel.keep h.2 k m⟩

theorem LfsRel.length : ∀ {xs : List (Lf D)} {vs : List Value}, LfsRel S M w g xs vs → xs.length = vs.length
  | [], [], _ => rfl
  | _ :: _, _ :: _, h => by simp [LfsRel.length h.2]

theorem LfsRel.get : ∀ {xs : List (Lf D)} {vs : List Value} (i : Nat) {x : Lf D}, LfsRel S M w g xs vs → xs[i]? = some x → ∃ v, vs[i]? = some v ∧ x.Rel S M w g v
  | [], [], i, x, _, h => by simp at h
  | y :: xs, v :: vs, 0, x, h, e => ⟨v, rfl, by simp at e; exact e ▸ h.1⟩
  | y :: xs, v :: vs, i + 1, x, h, e => by simpa using LfsRel.get i h.2 (by simpa using e)

theorem Sv.Rel.keep {x : Sv D} {v : Value} (h : x.Rel S M w g v) (k : Keeps M w M' w') (m : More g g') : x.Rel S M' w' g' v := by
  cases x with
  | lf x => exact Lf.Rel.keep h k m
  | agg xs => obtain ⟨vs, rfl, hr⟩ := h; exact ⟨vs, rfl, hr.keep k m⟩

theorem SvsRel.keep : ∀ {xs : List (Sv D)} {vs : List Value}, SvsRel S M w g xs vs → Keeps M w M' w' → More g g' → SvsRel S M' w' g' xs vs
  | [], [], _, _, _ => trivial
  | x :: xs, v :: vs, h, k, m => ⟨h.1.keep k m, SvsRel.keep h.2 k m⟩

theorem SvsRel.get : ∀ {xs : List (Sv D)} {vs : List Value} (i : Nat) {x : Sv D}, SvsRel S M w g xs vs → xs[i]? = some x → ∃ v, vs[i]? = some v ∧ x.Rel S M w g v
  | [], [], i, x, _, h => by simp at h
  | y :: xs, v :: vs, 0, x, h, e => ⟨v, rfl, by simp at e; exact e ▸ h.1⟩
  | y :: xs, v :: vs, i + 1, x, h, e => by simpa using SvsRel.get i h.2 (by simpa using e)

theorem SvsRel.length : ∀ {xs : List (Sv D)} {vs : List Value}, SvsRel S M w g xs vs → xs.length = vs.length
  | [], [], _ => rfl
  | _ :: _, _ :: _, h => by simp [SvsRel.length h.2]

theorem Sl.Rel.keep {x : Sl D} {v : Value} (h : x.Rel S M w g v) (k : Keeps M w M' w') (m : More g g') : x.Rel S M' w' g' v := by
  cases x with
  | one x => exact Sv.Rel.keep h k m
  | tup xs => obtain ⟨vs, rfl, hr⟩ := h; exact ⟨vs, rfl, hr.keep k m⟩

/-- A datum's cell, read: the value that lies there, and that it stands for the datum's own part. -/
theorem DatOk.cell {d : D} {a : Addr} {n cap i j : Nat} (h : DatOk S M w d (.slice (some a) n cap)) (hi : i < S.len d) (hj : j < S.size d) :
    ∃ u, w.cell? (a.add (i * S.size d + j)) = some u ∧ (S.cell d i j).Rel S M w g u := by
  classical
  -- the world with every block that may not be looked at struck out
  let wx : World := { w with heap := (Array.range w.heap.size).map fun b => if M b then Obj.map #[] 0 else (w.heap[b]?).getD (Obj.map #[] 0) }
  have hwx : ∀ b, b < w.heap.size → ¬ M b → wx.heap[b]? = w.heap[b]? := by
    intro b hb hm
    simp [wx, hb, hm]
  have hout : ∀ p : Addr, (wx.cell? p).isSome = true → p.block < w.heap.size ∧ ¬ M p.block := by
    intro p hp
    simp only [World.cell?, wx] at hp
    by_cases hb : p.block < w.heap.size
    · refine ⟨hb, fun hm => ?_⟩
      simp [hb, hm] at hp
    · simp [hb] at hp
  have key : ∀ w' : World, (∀ b, b < w.heap.size → ¬ M b → w'.heap[b]? = w.heap[b]?) → ∃ u, w'.cell? (a.add (i * S.size d + j)) = some u ∧ Lf.plain (S.cell d i j) u ∧ ∀ d', S.cell d i j = .dat d' → DRel S w' d' u := by
    intro w' hs
    generalize hv : Value.slice (some a) n cap = v at h
    have hd := h w' hs
    cases hd with
    | mk d a' cap' U hcap hlen hcell hpl hdat =>
      injection hv with h1 h2 h3
      obtain ⟨ad, had, hc⟩ := hcell i j hi hj
      rw [← h1] at had
      injection had with had
      subst had
      exact ⟨U i j, hc, hpl i j hi hj, fun d' hd' => hdat i j d' hi hj hd'⟩
  obtain ⟨ux, hux, _⟩ := key wx hwx
  obtain ⟨hb, hm⟩ := hout _ (by rw [hux]; rfl)
  obtain ⟨u, hu, hpl, hdt⟩ := key w (fun _ _ _ => rfl)
  refine ⟨u, hu, ?_⟩
  generalize hx : S.cell d i j = x at *
  cases x with
  | val x => exact hpl
  | bool b => exact hpl
  | int k n => exact hpl
  | str s => exact hpl
  | dat d' =>
    intro w' hs
    obtain ⟨u', hu', _, hdt'⟩ := key w' hs
    have : u' = u := by
      have e : w'.cell? (a.add (i * S.size d + j)) = w.cell? (a.add (i * S.size d + j)) := by
        simp only [World.cell?, hs _ hb hm]
      rw [e, hu] at hu'
      injection hu' with hu'
      exact hu'.symm
    rw [← this]
    exact hdt' d' rfl
  | any => exact hpl.elim
  | ptr l o => exact hpl.elim
  | elt d' i' j' => exact hpl.elim
  | fn f caps => exact hpl.elim
  | own l => exact hpl.elim
  | opt l i j sz => exact hpl.elim
  | unk p => exact hpl.elim
  | part l i j sz f => exact hpl.elim
  | glb i => exact hpl.elim
  | ifc x => exact hpl

theorem DatOk.slice {d : D} {v : Value} (h : DatOk S M w d v) : ∃ a cap, v = .slice a (S.len d) cap ∧ S.len d ≤ cap := by
  have hd := h w (fun _ _ _ => rfl)
  cases hd with
  | mk d a cap U hcap hlen hcell hpl hdat => exact ⟨a, cap, rfl, hcap⟩

theorem DatOk.len_le {d : D} {v : Value} (h : DatOk S M w d v) : S.len d ≤ 9223372036854775807 := by
  have hd := h w (fun _ _ _ => rfl)
  cases hd with
  | mk d a cap U hcap hlen hcell hpl hdat => exact hlen

theorem DatOk.some_addr {d : D} {a : Option Addr} {n cap i : Nat} (h : DatOk S M w d (.slice a n cap)) (hi : i < S.len d) (hs : 0 < S.size d) : ∃ ad, a = some ad := by
  generalize hv : Value.slice a n cap = v at h
  have hd := h w (fun _ _ _ => rfl)
  cases hd with
  | mk d a' cap' U hcap hlen hcell hpl hdat =>
    injection hv with h1 h2 h3
    obtain ⟨ad, had, _⟩ := hcell i 0 hi hs
    exact ⟨ad, h1.trans had⟩
end
end Go.Vc
