/-
  Own engine, part 21: a seat's program; its functions' contracts, in short.
-/
import Derived.Test.YtemjcccdcnhmhaaGreatDoorVdy
namespace Go.Vc
open Go.RowKit
set_option linter.unusedVariables false
set_option linter.unusedSimpArgs false

/-- A program, its data, its types. -/
structure Seat (D : Type) where
  P : Program
  S : Sh D
  T : TypeId → Option Ty
  mx : P.follows .mixedOrders = true
  hT : ∀ t ty, T t = some ty → TyOk P t ty
  hS : ShOk S
/-- A function's contract. -/
structure Ent {D : Type} (Z : Seat D) where
  f : FuncId
  ct : Ct D
  ok : CtOk Z.P Z.S f ct

section
variable {D : Type} {Z : Seat D}
def envL : List (Ent Z) → FuncId → Option (Ct D)
  | [], _ => none
  | e :: r, f => if Nat.beq f e.f then (match envL r f with
    | some c => some (ctOr e.ct c)
    | none => some e.ct) else envL r f
theorem envL_ok : ∀ {l : List (Ent Z)} {f : FuncId} {ct : Ct D}, envL l f = some ct → CtOk Z.P Z.S f ct
  | [], f, ct, h => by cases h
  | e :: r, f, ct, h => by
    unfold envL at h
    split at h
    · rename_i he
      have he := Nat.eq_of_beq_eq_true he
      subst he
      split at h
      · rename_i c hc
        injection h with h
        subst h
        exact ctOr_ok e.ok (envL_ok hc)
      · injection h with h
        subst h
        exact e.ok
    · exact envL_ok h
structure Sh1 (S : Sh D) : Type 1 where
  i : Nat
  sh : Shp D
  ok : ShpOk S sh
def jS {S : Sh D} (i : Nat) (sh : Shp D) [h : ShpOk S sh] : Sh1 S := ⟨i, sh, h⟩
def jL {S : Sh D} : List (Sh1 S) → Nat → Option (Shp D)
  | [], _ => none
  | s :: r, n => if Nat.beq n s.i then some s.sh else jL r n
theorem jL_ok {S : Sh D} : ∀ {l : List (Sh1 S)} {i : Nat} {sh : Shp D}, jL l i = some sh → ShpOk S sh
  | [], i, sh, h => by cases h
  | s :: r, i, sh, h => by
    unfold jL at h
    split at h
    · injection h with h
      subst h
      exact s.ok
    · exact jL_ok h
def bodyF (fn : Func) : Code := fn.body.getD .skip
def chkF (fn : Func) : Bool := fn.body.isSome && (fn.name != "runtime.NumGoroutine" && drawsOk (bodyF fn))
/-- What the code computes, as a tree. -/
def treeF (Z : Seat D) (Γ : FuncId → Option (Ct D)) (J : Nat → Option (Shp D)) (AS : ArgShp D) (RS : Shp D) (lent : Nat) (keep : List Nat) (fn : Func) (n : Nat) (a : AS.A) : Tr D RS.X :=
  evC Z.T Z.S Γ n J (bodyF fn) RS.X (St.init (AS.enc a).1 (AS.enc a).2) (retL Z.T Z.S fn.results.toList RS lent keep)
theorem ct_ofN {Γ : FuncId → Option (Ct D)} (hΓ : ∀ f ct, Γ f = some ct → CtOk Z.P Z.S f ct) {J : List (Sh1 Z.S)} {AS : ArgShp D} {RS : Shp D} {lent n : Nat} {keep : List Nat} {f : FuncId} {fn : Func} (hAS : ArgOk Z.S AS lent n) (hRS : ShpOk Z.S RS)
    (hf : Z.P.funcs[f]? = some fn) (hn : fn.ntmps = n) (hc : chkF fn = true) (k : Nat) (hk : fn.results.toList.length = k) (F : AS.A → Pg RS.X) (pre : AS.A → Option Prop) (hrun : ∀ a e, preP (pre a) → (F a).run e = (treeF Z Γ (jL J) AS RS lent keep fn n a).run e)
    (fv : AS.A → RS.X) (his : ∀ a, preP (pre a) → Is (F a) ∧ (F a).val = fv a) : CtOk Z.P Z.S f (ctN AS RS k keep pre fv) := by
  subst hk
  simp only [chkF, Bool.and_eq_true, bne_iff_ne, ne_eq] at hc
  obtain ⟨h1, h2, h3⟩ := hc
  obtain ⟨c, hb⟩ := Option.isSome_iff_exists.1 h1
  have hbf : bodyF fn = c := by simp [bodyF, hb]
  refine fn_okN (J := jL J) Z.mx Z.hT hΓ Z.hS (fun i sh h => jL_ok (l := J) h) hf hb (by simpa using h2) hn rfl (by rw [← hbf]; exact h3) hAS hRS pre fv fun a ha => ?_
  obtain ⟨q1, q2⟩ := his a ha
  have h := hrun a (F a).val ha
  rw [q1.run, q2] at h
  unfold treeF at h
  rw [hbf] at h
  exact h.symm
/-- Where nothing is asked. -/
theorem ct_zero {AS : ArgShp D} {RS : Shp D} {k : Nat} {keep : List Nat} {f : FuncId} {fn : Func} (hf : Z.P.funcs[f]? = some fn) (hc : chkF fn = true) {pre : AS.A → Option Prop} {fv : AS.A → RS.X} (hz : ∀ a, preP (pre a) → False) :
    CtOk Z.P Z.S f (ctN AS RS k keep pre fv) := by
  simp only [chkF, Bool.and_eq_true, bne_iff_ne, ne_eq] at hc
  obtain ⟨h1, h2, h3⟩ := hc
  obtain ⟨c, hb⟩ := Option.isSome_iff_exists.1 h1
  refine ⟨fun args w => by simp [callFunc, hf, h2, hb], fun X N g w args sargs bks p r post kp hp hrel hct hpre => ?_⟩
  unfold ctN at hct
  split at hct
  · cases hct
  · injection hct with hct
    injection hct with q1 hct
    subst q1
    exact (hz _ hpre).elim
/-- The contract of a function whose code computes F. -/
noncomputable def entN (Z : Seat D) (env : List (Ent Z)) (J : List (Sh1 Z.S)) (AS : ArgShp D) {lent n : Nat} (hAS : ArgOk Z.S AS lent n) (RS : Shp D) [hRS : ShpOk Z.S RS] (keep : List Nat) {f : FuncId} {fn : Func}
    (hf : Z.P.funcs[f]? = some fn) (hn : fn.ntmps = n) (hc : chkF fn = true) (k : Nat) (hk : fn.results.toList.length = k) (F : AS.A → Pg RS.X) (pre : AS.A → Option Prop) (hrun : ∀ a e, preP (pre a) → (F a).run e = (treeF Z (envL env) (jL J) AS RS lent keep fn n a).run e)
    (fv : AS.A → RS.X) (his : ∀ a, preP (pre a) → Is (F a) ∧ (F a).val = fv a) : Ent Z :=
  ⟨f, ctN AS RS k keep pre fv, ct_ofN (fun _ _ => envL_ok) hAS hRS hf hn hc k hk F pre hrun fv his⟩
end
end Go.Vc
