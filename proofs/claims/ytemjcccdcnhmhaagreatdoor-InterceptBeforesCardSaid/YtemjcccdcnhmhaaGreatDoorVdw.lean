/-
  Own engine, part 12e: a range over a text.
-/
import Derived.Test.YtemjcccdcnhmhaaGreatDoorVdv
import Derived.Laws.RangeString
namespace Go.Vc
open Go.RowKit
set_option linter.unusedVariables false
set_option linter.unusedSimpArgs false

/-- The code point at a place of a text, and its width. -/
def decC (s : List UInt8) (p : Nat) : Int := ((Utf8.decode ⟨s.toArray⟩ p).1 : Nat)
def decW (s : List UInt8) (p : Nat) : Nat := (Utf8.decode ⟨s.toArray⟩ p).2

section
variable {D : Type}

def xRange (T : TypeId → Option Ty) (fr : Nat) (t : TypeId) (x : Sl D) : Option (Out D) :=
  match T t with
  | none => none
  | some ty => (match x with
    | .one (.lf (.str s)) => if Nat.beq ty.kind 3 then some ⟨none, .one (.lf (.ptr fr 0)), [(fr, some (.iter s 0))]⟩ else none
    | _ => none)
def xOpR (T : TypeId → Option Ty) (S : Sh D) (Γ : FuncId → Option (Ct D)) (slot : Nat → Sl D) (blk : Nat → Option (Bk D)) (fr : Nat) (op : Op) : Option (Out D) :=
  match op with
  | .range t x => xRange T fr t (opnd slot x)
  | op => xOpD T S Γ slot blk fr op
/-- The next step of an iterator: is there one; what then; what else. -/
def xNext (slot : Nat → Sl D) (blk : Nat → Option (Bk D)) (op : Op) : Option (Bool × Out D × Out D) :=
  match op with
  | .next it true => (match opnd slot it with
    | .one (.lf (.ptr l o)) => if Nat.beq o 0 then (match blk l with
      | some (.iter s p) => some (decide (p < s.length), ⟨none, .tup [.lf (.val (.bool true)), .lf (.int .i64 p), .lf (.int .i32 (decC s p))], [(l, some (.iter s (p + decW s p)))]⟩, ⟨none, .tup [.lf (.val (.bool false))], []⟩)
      | _ => none) else none
    | _ => none)
  | _ => none
def Does (T : TypeId → Option Ty) (S : Sh D) (Γ : FuncId → Option (Ct D)) (slot : Nat → Sl D) (blk : Nat → Option (Bk D)) (fr : Nat) (op : Op) (out : Out D) : Prop :=
  xOpR T S Γ slot blk fr op = some out ∨ ∃ b o1 o2, xNext slot blk op = some (b, o1, o2) ∧ out = bif b then o1 else o2
end

section
variable {D : Type} {P : Program} {S : Sh D} {T : TypeId → Option Ty} {Γ : FuncId → Option (Ct D)} {M M' N : Nat → Prop} {w w' : World} {w0 : Bs} {g g' : Nat → Option Value} {blk blk' : Nat → Option (Bk D)} {al : Nat → Prop}
  {a : Act} {o : Oper} {K : Act → World → Prop} {Q : Exit → Act → World → Prop} {slot slot' : Nat → Sl D} {out : Out D} {fr : Nat}

theorem sound_range {t : TypeId} {x : Operand} (ho : o.op = .range t x) (hTy : ∀ t ty, T t = some ty → TyOk P t ty) (h : Hp S w0 N blk g al w) (hfr : ∀ n, fr ≤ n → n < fr + 64 → ¬ al n) (hx : (opnd slot x).Rel S (Mset N blk g) w g (a.eval x))
    (hout : xRange T fr t (opnd slot x) = some out) (hK : Post S w0 N blk g al w fr out o.dst a K) : o.wp P a w K Q := by
  unfold xRange at hout
  split at hout
  · cases hout
  · rename_i ty hty
    split at hout
    · rename_i s hex
      rw [hex] at hx
      simp only [Sl.Rel, Sv.Rel, Lf.Rel] at hx
      split at hout
      · rename_i hk
        have hk := Nat.eq_of_beq_eq_true hk
        obtain ⟨d, hd, hkd⟩ := ty_kind (hTy _ _ hty)
        rw [hk] at hkd
        have hd : P.underlying t = some .string := by cases d <;> simp_all [kindOf]
        injection hout with hout
        subst hout
        have hrun : (execOp a.eval o).run P w = .ok (.value (.pointer (some ⟨w.heap.size, 0, none⟩))) (w.alloc (.stringIter ⟨s.toArray⟩ 0)) := by
          simp [execOp, ho, Instr.range, hx.1, run_underlying hd, newObj, Sem.run]
        have hB : Below w.heap.size w (w.alloc (.stringIter ⟨s.toArray⟩ 0)) := (Below.refl w.heap.size w).alloc (Nat.le_refl _) _
        obtain ⟨g1, g2, g3⟩ := h.add (l := fr) (bk := .iter s 0) (v := .pointer (some ⟨w.heap.size, 0, none⟩)) hB (hfr fr (Nat.le_refl _) (by omega)) (fun b hb => by simp [blkOf] at hb; omega)
          (fun M' hk _ => ⟨hx.2, w.heap.size, rfl, .inl h.below.size, heap_alloc_new w _⟩)
        exact wp_val hrun (hK _ _ _ g3 g2 (g1.weaken al64) ⟨w.heap.size, upd_same _ _ _, rfl⟩)
      · cases hout
    · cases hout

theorem run_next_at {s : ByteArray} {p b : Nat} {ty : TypeId} (hh : w.heap[b]? = some (.stringIter s p)) (h : p < s.size) : (Instr.next (.pointer (some ⟨b, 0, none⟩)) true ty).run P w =
    .ok (.tuple #[.bool true, .int .i64 p, .int .i32 ((Utf8.decode s p).1 : Nat)]) { w with heap := w.heap.setIfInBounds b (.stringIter s (p + (Utf8.decode s p).2)) } := by
  simp only [Instr.next, getObj, setObj, Sem.run_bind, Sem.run, hh, Result.andThen, h, if_true]
  simp [goInt]
theorem run_next_no {s : ByteArray} {p b : Nat} {ty : TypeId} (hh : w.heap[b]? = some (.stringIter s p)) (h : ¬ p < s.size) : (Instr.next (.pointer (some ⟨b, 0, none⟩)) true ty).run P w = .ok (.tuple #[.bool false]) w := by
  simp [Instr.next, getObj, Sem.run, hh, h]

theorem sound_next {b : Bool} {o1 o2 : Out D} (h : Hp S w0 N blk g al w) (hs : ∀ t, (slot t).Rel S (Mset N blk g) w g (a.tmps.getD t undef))
    (hx : xNext slot blk o.op = some (b, o1, o2)) (hK : Post S w0 N blk g al w fr (bif b then o1 else o2) o.dst a K) : o.wp P a w K Q := by
  have hr := opnd_rel hs
  unfold xNext at hx
  split at hx
  · rename_i it ho
    have hv := hr it
    split at hx
    · rename_i l off hex
      rw [hex] at hv
      split at hx
      · rename_i hoff
        have hoff := Nat.eq_of_beq_eq_true hoff
        subst hoff
        obtain ⟨bb, hg, hv⟩ := hv
        split at hx
        · rename_i s p hb
          injection hx with hx
          injection hx with x1 hx
          injection hx with x2 x3
          obtain ⟨v, hv', hsl, b', rfl, hm, hh⟩ := h.bks l _ hb
          rw [hg] at hv'
          injection hv' with hv'
          injection hv' with hv'
          injection hv' with hv'
          injection hv' with hv'
          subst hv'
          have hsz : (ByteArray.mk s.toArray).size = s.length := by show s.toArray.size = _; simp
          by_cases hp : p < s.length
          · have hb1 : b = true := by rw [← x1]; simpa using hp
            subst hb1
            rw [cond_true] at hK
            subst x2
            have hrun := run_next_at (P := P) (ty := o.type) hh (by rw [hsz]; exact hp)
            have hlt := heap_lt hh
            obtain ⟨hp', hk'⟩ := h.write (w' := { w with heap := w.heap.setIfInBounds bb (.stringIter ⟨s.toArray⟩ (p + decW s p)) }) (bk' := .iter s (p + decW s p)) hb rfl rfl hg rfl rfl rfl rfl (by simp)
              (fun n hn => by
                have hne : bb ≠ n := fun e => hn e.symm
                simp [Array.getElem?_setIfInBounds_ne hne]) (fun hk => ⟨hsl, bb, rfl, hm, by simp [hlt]⟩)
            refine wp_val (v := .tuple #[.bool true, .int .i64 p, .int .i32 (decC s p)]) ?_ (hK _ _ _ (More.refl _) hk' (hp'.weaken fun n hn => .inl hn) ⟨[.bool true, .int .i64 p, .int .i32 (decC s p)], rfl, rfl, rfl, rfl, trivial⟩)
            simp only [execOp, ho, hv, Sem.run_bind, hrun, Result.andThen_ok, Sem.run_pure]
            rfl
          · have hb1 : b = false := by rw [← x1]; simpa using hp
            subst hb1
            rw [cond_false] at hK
            subst x3
            have hrun := run_next_no (P := P) (ty := o.type) hh (by rw [hsz]; exact hp)
            refine wp_same (v := .tuple #[.bool false]) ?_ h hK rfl ⟨[.bool false], rfl, rfl, trivial⟩
            simp only [execOp, ho, hv, Sem.run_bind, hrun, Result.andThen_ok, Sem.run_pure]
        · cases hx
      · cases hx
    · cases hx
  · cases hx

theorem sound_does (hTy : ∀ t ty, T t = some ty → TyOk P t ty) (hΓ : ∀ f ct, Γ f = some ct → CtOk P S f ct) (hS : ShOk S) (h : Hp S w0 N blk g al w) (hfr : ∀ n, fr ≤ n → n < fr + 64 → ¬ al n)
    (hs : ∀ t, (slot t).Rel S (Mset N blk g) w g (a.tmps.getD t undef)) (hout : Does T S Γ slot blk fr o.op out) (hp : preP out.pre) (hK : Post S w0 N blk g al w fr out o.dst a K) : o.wp P a w K Q := by
  rcases hout with hout | ⟨b, o1, o2, hx, rfl⟩
  · unfold xOpR at hout
    split at hout
    · rename_i t x ho; exact sound_range ho hTy h hfr (opnd_rel hs x) hout hK
    · exact sound_opD hTy hΓ hS h hfr hs hout hp hK
  · exact sound_next h hs hx hK
end
end Go.Vc
