/-
  Own engine, part 12c: interfaces that hold plain data; arrays: as rows of fixed length, as tables, as values.
-/
import Derived.Test.YtemjcccdcnhmhaaGreatDoorVdt
namespace Go.Vc
open Go.RowKit
set_option linter.unusedVariables false
set_option linter.unusedSimpArgs false

section
variable {D : Type}

/-! ### interfaces -/
def Lf.pv : Lf D → Option Pv
  | .bool b => some (.bool b)
  | .val (.bool b) => some (.bool b)
  | .int k n => some (.int k n)
  | .str s => some (.str s)
  | _ => none
def pvs : List (Lf D) → Option (List Pv)
  | [] => some []
  | x :: xs => (match x.pv, pvs xs with
    | some p, some ps => some (p :: ps)
    | _, _ => none)
def xIfc (T : TypeId → Option Ty) (t : TypeId) (x : Sl D) : Option (Out D) :=
  match T t with
  | none => none
  | some ty => if Nat.beq ty.kind 0 then none else (match x with
    | .one (.lf x) => (match x.pv with
      | some p => lfO none (.ifc (some ⟨t, false, [p]⟩))
      | none => none)
    | .one (.agg xs) => (match pvs xs with
      | some ps => lfO none (.ifc (some ⟨t, true, ps⟩))
      | none => none)
    | _ => none)

def Ifc.is (v : Option Ifc) (t : TypeId) : Bool :=
  match v with
  | some i => Nat.beq i.t t
  | none => false
def Ifc.get (v : Option Ifc) (t : TypeId) (j : Nat) : Option Pv :=
  match v with
  | some i => if Nat.beq i.t t then i.xs[j]? else none
  | none => none
def Pv.gB : Option Pv → Bool
  | some (.bool b) => b
  | _ => false
def Pv.gI : Option Pv → Int
  | some (.int _ n) => n
  | _ => 0
def Pv.gS : Option Pv → List UInt8
  | some (.str s) => s
  | _ => []
def leafOf (z : Value) (p : Option Pv) : Option (Lf D) :=
  match z with
  | .bool false => some (.bool (Pv.gB p))
  | .int k 0 => some (.int k (Pv.gI p))
  | .string s => (match s.data.toList with
    | [] => some (.str (Pv.gS p))
    | _ => none)
  | _ => none
def leavesOf (v : Option Ifc) (t : TypeId) : List Value → Nat → Option (List (Lf D))
  | [], _ => some []
  | z :: zs, j => (match leafOf z (Ifc.get v t j), leavesOf v t zs (j + 1) with
    | some x, some xs => some (x :: xs)
    | _, _ => none)
def kindOk1 : Value → Pv → Bool
  | .bool _, .bool _ => true
  | .int k _, .int k' _ => kEq k k'
  | .string _, .str _ => true
  | _, _ => false
def kindsOk : List Value → List Pv → Bool
  | [], [] => true
  | z :: zs, p :: ps => kindOk1 z p && kindsOk zs ps
  | _, _ => false
/-- What an interface holds is of the kinds that its type says. -/
def Ifc.ok (v : Option Ifc) (t : TypeId) (ag : Bool) (zs : List Value) : Bool :=
  match v with
  | some i => !Nat.beq i.t t || ((i.agg == ag) && kindsOk zs i.xs)
  | none => true
def xAssert (T : TypeId → Option Ty) (t : TypeId) (x : Sl D) : Option (Out D) :=
  match T t with
  | none => none
  | some ty => if Nat.beq ty.kind 0 || !(ty.agg == ty.zag) then none else (match x with
    | .one (.lf (.ifc v)) => (match leavesOf v t ty.zero 0 with
      | none => none
      | some ls => if ty.agg then some ⟨some (Ifc.ok v t true ty.zero = true), .tup [.agg ls, .lf (.bool (Ifc.is v t))], []⟩
        else (match ls with
          | [l] => some ⟨some (Ifc.ok v t false ty.zero = true), .tup [.lf l, .lf (.bool (Ifc.is v t))], []⟩
          | _ => none))
    | _ => none)
end

section
variable {D : Type} {P : Program} {S : Sh D} {T : TypeId → Option Ty} {Γ : FuncId → Option (Ct D)} {M M' N : Nat → Prop} {w w' : World} {w0 : Bs} {g g' : Nat → Option Value} {blk blk' : Nat → Option (Bk D)} {al : Nat → Prop}
  {a : Act} {o : Oper} {K : Act → World → Prop} {Q : Exit → Act → World → Prop} {slot slot' : Nat → Sl D} {out : Out D} {fr : Nat}

theorem pv_rel {x : Lf D} {p : Pv} {v : Value} (h : x.pv = some p) (hr : x.Rel S M w g v) : v = p.val ∧ p.fits := by
  unfold Lf.pv at h
  split at h <;> first | (injection h with h; subst h; exact ⟨hr, trivial⟩) | (injection h with h; subst h; exact hr) | (cases h; done)
theorem pvs_rel : ∀ {xs : List (Lf D)} {ps : List Pv} {vs : List Value}, pvs xs = some ps → LfsRel S M w g xs vs → vs = ps.map Pv.val ∧ ∀ p ∈ ps, p.fits
  | [], ps, [], h, _ => by simp [pvs] at h; subst h; exact ⟨rfl, fun p hp => by simp at hp⟩
  | x :: xs, ps, v :: vs, h, hr => by
    unfold pvs at h
    split at h
    · rename_i p ps' h1 h2
      injection h with h
      subst h
      obtain ⟨q1, q2⟩ := pv_rel h1 hr.1
      obtain ⟨q3, q4⟩ := pvs_rel h2 hr.2
      refine ⟨by rw [q1, q3]; rfl, fun p hp => ?_⟩
      rcases List.mem_cons.1 hp with rfl | hp
      · exact q2
      · exact q4 p hp
    · cases h
theorem concrete_of {t : TypeId} {ty : Ty} (h : TyOk P t ty) (hk : ty.kind ≠ 0) : P.concrete t = true := by
  obtain ⟨d, hd, hkd⟩ := ty_kind h
  unfold Program.concrete
  rw [hd]
  cases d <;> first | rfl | (exfalso; apply hk; rw [← hkd]; rfl)

theorem sound_ifc {t : TypeId} {x : Operand} (ho : o.op = .makeInterface t x) (hTy : ∀ t ty, T t = some ty → TyOk P t ty) (h : Hp S w0 N blk g al w) (hx : (opnd slot x).Rel S (Mset N blk g) w g (a.eval x))
    (hout : xIfc T t (opnd slot x) = some out) (hK : Post S w0 N blk g al w fr out o.dst a K) : o.wp P a w K Q := by
  unfold xIfc at hout
  split at hout
  · cases hout
  · rename_i ty hty
    split at hout
    · cases hout
    · rename_i hk
      have hk : ty.kind ≠ 0 := fun e => hk (by rw [e]; rfl)
      have hrun := run_makeInterface (P := P) w t (a.eval x) (concrete_of (hTy _ _ hty) hk)
      split at hout
      · rename_i y hex
        rw [hex] at hx
        split at hout
        · rename_i p hpv
          injection hout with hout
          subst hout
          have hv := (pv_rel hpv hx).1
          refine wp_same (v := .iface t (a.eval x)) ?_ h hK rfl ⟨by rw [hv]; rfl, fun q hq => by have := List.mem_singleton.1 hq; subst this; exact (pv_rel hpv hx).2⟩
          simp [execOp, ho, hrun]
        · cases hout
      · rename_i xs hex
        rw [hex] at hx
        obtain ⟨vs, hv, hr⟩ := hx
        split at hout
        · rename_i ps hpv
          injection hout with hout
          subst hout
          have := (pvs_rel hpv hr).1
          refine wp_same (v := .iface t (a.eval x)) ?_ h hK rfl ⟨by rw [hv, this]; rfl, (pvs_rel hpv hr).2⟩
          simp [execOp, ho, hrun]
        · cases hout
      · cases hout

theorem leaf_zero {z : Value} {x : Lf D} (h : leafOf z none = some x) : x.Rel S M w g z := by
  unfold leafOf at h
  split at h
  · injection h with h; subst h; rfl
  · injection h with h; subst h; rfl
  · rename_i s
    split at h
    · rename_i hs
      injection h with h
      subst h
      cases s with
      | mk data =>
        have : data = #[] := by
          have hs : data.toList = [] := hs
          simpa using hs
        subst this
        exact ⟨rfl, by simp [Pv.gS]⟩
    · cases h
  · cases h
theorem leaf_bool {b : Bool} {q : Option Pv} {x : Lf D} (h : leafOf (.bool b) q = some x) : x = .bool (Pv.gB q) := by
  cases b
  · injection h with h; exact h.symm
  · cases h
theorem leaf_int {k : IntKind} {n : Int} {q : Option Pv} {x : Lf D} (h : leafOf (.int k n) q = some x) : x = .int k (Pv.gI q) := by
  unfold leafOf at h
  split at h
  · rename_i e; cases e
  · rename_i e; injection e with e1 e2; subst e1; injection h with h; exact h.symm
  · rename_i e; cases e
  · cases h
theorem leaf_str {s : ByteArray} {q : Option Pv} {x : Lf D} (h : leafOf (.string s) q = some x) : x = .str (Pv.gS q) := by
  simp only [leafOf] at h
  split at h
  · injection h with h; exact h.symm
  · cases h
theorem leaf_some {z : Value} {p : Pv} {x : Lf D} (hk : kindOk1 z p = true) (h : leafOf z (some p) = some x) (hf : p.fits) : x.Rel S M w g p.val := by
  cases z <;> cases p <;> simp only [kindOk1, Bool.false_eq_true] at hk
  · rw [leaf_bool h]; rfl
  · rename_i k n k' n'
    have hk : k = k' := by simpa [kEq] using hk
    subst hk
    rw [leaf_int h]; rfl
  · rw [leaf_str h]; exact ⟨rfl, hf⟩
theorem leaves_zero {v : Option Ifc} {t : TypeId} (hno : ∀ j, Ifc.get v t j = none) : ∀ (zs : List Value) (j : Nat) (ls : List (Lf D)), leavesOf v t zs j = some ls → LfsRel S M w g ls zs
  | [], j, ls, h => by simp [leavesOf] at h; subst h; trivial
  | z :: zs, j, ls, h => by
    unfold leavesOf at h
    rw [hno j] at h
    split at h
    · rename_i x xs h1 h2
      injection h with h
      subst h
      exact ⟨leaf_zero h1, leaves_zero hno zs (j + 1) xs h2⟩
    · cases h
theorem leaves_some {i : Ifc} : ∀ (zs : List Value) (ps : List Pv) (j : Nat) (ls : List (Lf D)), kindsOk zs ps = true → (∀ k, Ifc.get (some i) i.t (j + k) = ps[k]?) → leavesOf (some i) i.t zs j = some ls → (∀ p ∈ ps, p.fits) → LfsRel S M w g ls (ps.map Pv.val)
  | [], [], j, ls, _, _, h, _ => by simp [leavesOf] at h; subst h; trivial
  | z :: zs, p :: ps, j, ls, hk, hg, h, hf => by
    simp only [kindsOk, Bool.and_eq_true] at hk
    unfold leavesOf at h
    have h0 := hg 0
    simp only [Nat.add_zero, List.getElem?_cons_zero] at h0
    rw [h0] at h
    split at h
    · rename_i x xs h1 h2
      injection h with h
      subst h
      exact ⟨leaf_some hk.1 h1 (hf p (by simp)), leaves_some zs ps (j + 1) xs hk.2 (fun k => by have := hg (k + 1); rwa [List.getElem?_cons_succ, show j + (k + 1) = j + 1 + k by omega] at this) h2 (fun q hq => hf q (by simp [hq]))⟩
    · cases h
  | [], _ :: _, _, _, hk, _, _, _ => by simp [kindsOk] at hk
  | _ :: _, [], _, _, hk, _, _, _ => by simp [kindsOk] at hk

theorem run_assert_no {t st : TypeId} {v : Option Ifc} {z : Value} (hc : P.concrete t = true) (hno : Ifc.is v t = false) (hz : (zeroValue t).run P w = .ok z w) : (Instr.typeAssert (ifcVal v) st t true).run P w = .ok (.tuple #[z, .bool false]) w := by
  unfold Program.concrete at hc
  cases hd : P.underlying t with
  | none => rw [hd] at hc; cases hc
  | some d =>
    rw [hd] at hc
    cases v with
    | none => cases d <;> first | (cases hc; done) | simp [Instr.typeAssert, run_underlying hd, ifcVal, hz]
    | some i =>
      have hne : ¬ i.t = t := fun e => by simp [Ifc.is, e] at hno
      cases d <;> first | (cases hc; done) | simp [Instr.typeAssert, run_underlying hd, ifcVal, hne, hz]
theorem run_assert_yes {st : TypeId} {i : Ifc} (hc : P.concrete i.t = true) : (Instr.typeAssert (ifcVal (some i)) st i.t true).run P w = .ok (.tuple #[i.inner, .bool true]) w := by
  unfold Program.concrete at hc
  cases hd : P.underlying i.t with
  | none => rw [hd] at hc; cases hc
  | some d =>
    rw [hd] at hc
    cases d <;> first | (cases hc; done) | simp [Instr.typeAssert, run_underlying hd, ifcVal]

theorem sound_assert {t st : TypeId} {x : Operand} (ho : o.op = .typeAssert x st t true) (hTy : ∀ t ty, T t = some ty → TyOk P t ty) (h : Hp S w0 N blk g al w) (hx : (opnd slot x).Rel S (Mset N blk g) w g (a.eval x))
    (hout : xAssert T t (opnd slot x) = some out) (hp : preP out.pre) (hK : Post S w0 N blk g al w fr out o.dst a K) : o.wp P a w K Q := by
  unfold xAssert at hout
  split at hout
  · cases hout
  · rename_i ty hty
    split at hout
    · cases hout
    · rename_i hk
      simp only [Bool.or_eq_true, Bool.not_eq_true', not_or] at hk
      have hk0 : ty.kind ≠ 0 := fun e => hk.1 (by rw [e]; rfl)
      have hzg : ty.agg = ty.zag := by
        have := hk.2
        cases ha : ty.agg <;> cases hb : ty.zag <;> simp [ha, hb] at this ⊢
      have hc := concrete_of (hTy _ _ hty) hk0
      obtain ⟨z, hz, hzc, hza⟩ := ty_zag (hTy _ _ hty) w
      split at hout
      · rename_i v hex
        rw [hex] at hx
        obtain ⟨hx, hxf⟩ : a.eval x = ifcVal v ∧ ifcOk v := hx
        split at hout
        · cases hout
        · rename_i ls hls
          by_cases his : Ifc.is v t = true
          · obtain ⟨i, rfl, hit⟩ : ∃ i, v = some i ∧ i.t = t := by
              cases v with
              | none => simp [Ifc.is] at his
              | some i => exact ⟨i, rfl, Nat.eq_of_beq_eq_true his⟩
            subst hit
            have hget : ∀ k, Ifc.get (some i) i.t (0 + k) = i.xs[k]? := fun k => by simp [Ifc.get]
            have hrun := run_assert_yes (P := P) (w := w) (st := st) (i := i) hc
            have key : ∀ ag, Ifc.ok (some i) i.t ag ty.zero = true → i.agg = ag ∧ LfsRel S (Mset N blk g) w g ls (i.xs.map Pv.val) := by
              intro ag hok
              simp only [Ifc.ok, Nat.beq_refl, Bool.not_true, Bool.false_or, Bool.and_eq_true, beq_iff_eq] at hok
              exact ⟨hok.1, leaves_some ty.zero i.xs 0 ls hok.2 hget hls hxf⟩
            split at hout
            · injection hout with hout
              subst hout
              obtain ⟨k1, k2⟩ := key true hp
              refine wp_same (v := .tuple #[i.inner, .bool true]) ?_ h hK rfl ⟨[i.inner, .bool true], rfl, ⟨⟨_, ?_, k2⟩, by rw [his]; rfl, trivial⟩⟩
              · simp [execOp, ho, hx, hrun]
              · unfold Ifc.inner
                rw [k1]
            · split at hout
              · rename_i l
                injection hout with hout
                subst hout
                obtain ⟨k1, k2⟩ := key false hp
                obtain ⟨p, hxs⟩ : ∃ p, i.xs = [p] := by
                  have := k2.length
                  simp only [List.length_map, List.length_singleton] at this
                  exact List.length_eq_one_iff.1 this.symm
                have hin : i.inner = p.val := by unfold Ifc.inner; rw [k1, hxs]
                rw [hxs] at k2
                refine wp_same (v := .tuple #[i.inner, .bool true]) ?_ h hK rfl ⟨[i.inner, .bool true], rfl, ⟨?_, by rw [his]; rfl, trivial⟩⟩
                · simp [execOp, ho, hx, hrun]
                · rw [hin]; exact k2.1
              · cases hout
          · have his : Ifc.is v t = false := by simpa using his
            have hrun := run_assert_no (P := P) (w := w) (st := st) hc his hz
            have hno : ∀ j, Ifc.get v t j = none := by
              intro j
              cases v with
              | none => rfl
              | some i => simp only [Ifc.is] at his; simp [Ifc.get, his]
            have hl := leaves_zero (S := S) (M := Mset N blk g) (w := w) (g := g) hno ty.zero 0 ls hls
            split at hout
            · rename_i hag
              injection hout with hout
              subst hout
              have hz2 : z = .agg ty.zero.toArray := by
                rw [hag] at hzg
                rw [← hzg] at hza
                cases z <;> simp [isAggV] at hza
                rw [← hzc]
                simp [Value.cells]
              refine wp_same (v := .tuple #[z, .bool false]) ?_ h hK rfl ⟨[z, .bool false], rfl, ⟨⟨_, hz2, hl⟩, by rw [his]; rfl, trivial⟩⟩
              simp [execOp, ho, hx, hrun]
            · rename_i hag
              split at hout
              · rename_i l
                injection hout with hout
                subst hout
                have hz2 : ty.zero = [z] := by
                  have hag : ty.agg = false := by simpa using hag
                  rw [hag] at hzg
                  rw [← hzg] at hza
                  rw [← hzc]
                  cases z <;> first | rfl | simp [isAggV] at hza
                rw [hz2] at hl
                refine wp_same (v := .tuple #[z, .bool false]) ?_ h hK rfl ⟨[z, .bool false], rfl, ⟨hl.1, by rw [his]; rfl, trivial⟩⟩
                simp [execOp, ho, hx, hrun]
              · cases hout
      · cases hout
end
end Go.Vc
