/-
  Own engine, part 18: loops, as plain Lean: over a range, with what is carried along.
-/
import Derived.Test.YtemjcccdcnhmhaaGreatDoorVdo
namespace Go.Vc
set_option linter.unusedVariables false
set_option linter.unusedSimpArgs false

section
variable {A R : Type}

/-- The first of the k places from i on that gives a result; else r0. -/
def firstR (f : Nat → Option R) (r0 : R) : Nat → Nat → R
  | 0, _ => r0
  | k + 1, i => match f i with
    | some r => r
    | none => firstR f r0 k (i + 1)
theorem firstR_congr {f f' : Nat → Option R} {r0 : R} : ∀ (k i : Nat), (∀ j, i ≤ j → j < i + k → f j = f' j) → firstR f r0 k i = firstR f' r0 k i
  | 0, _, _ => rfl
  | k + 1, i, h => by
    unfold firstR
    rw [h i (by omega) (by omega), firstR_congr k (i + 1) fun j h1 h2 => h j (by omega) (by omega)]
theorem firstR_none {f : Nat → Option R} {r0 : R} : ∀ (k i : Nat), (∀ j, i ≤ j → j < i + k → f j = none) → firstR f r0 k i = r0
  | 0, _, _ => rfl
  | k + 1, i, h => by
    unfold firstR
    rw [h i (by omega) (by omega)]
    exact firstR_none k (i + 1) fun j h1 h2 => h j (by omega) (by omega)
/-- If the result is that of the end, and no place gives it, no place gives any. -/
theorem firstR_end {f : Nat → Option R} {r0 : R} (hne : ∀ j, f j ≠ some r0) : ∀ (k i : Nat), firstR f r0 k i = r0 → ∀ j, i ≤ j → j < i + k → f j = none
  | 0, _, _, j, h1, h2 => by omega
  | k + 1, i, h, j, h1, h2 => by
    unfold firstR at h
    cases hf : f i with
    | some r =>
      rw [hf] at h
      dsimp only at h
      subst h
      exact absurd hf (hne i)
    | none =>
      rw [hf] at h
      by_cases hj : j = i
      · rw [hj]; exact hf
      · exact firstR_end hne k (i + 1) h j (by omega) (by omega)

/-- A result, or on from x. -/
def orGo {X : Type} (o : Option R) (x : X) : X ⊕ R :=
  match o with
  | some r => .inr r
  | none => .inl x
theorem loop_first {step : Int → Option (Int ⊕ R)} {f : Nat → Option R} {r0 : R} {n : Nat} (h1 : ∀ i : Nat, i < n → step i = some (orGo (f i) ((i + 1 : Nat) : Int))) (h2 : step n = some (.inr r0)) : ∀ (k i : Nat), i + k = n → loopU step i = some (firstR f r0 k i)
  | 0, i, e => by
    rw [loopU_eq, show i = n by omega, h2]
    rfl
  | k + 1, i, e => by
    rw [loopU_eq, h1 i (by omega)]
    unfold firstR
    cases f i with
    | some r => rfl
    | none => exact loop_first h1 h2 k (i + 1) (by omega)
theorem loop_first0 {step : Int → Option (Int ⊕ R)} {f : Nat → Option R} {r0 : R} {n : Nat} (h1 : ∀ i : Nat, i < n → step i = some (orGo (f i) ((i + 1 : Nat) : Int))) (h2 : step n = some (.inr r0)) : loopU step 0 = some (firstR f r0 n 0) := loop_first h1 h2 n 0 (by omega)

/-- What a round gives, if it gives a result. -/
def resOf {X : Type} (step : X → Option (X ⊕ R)) (x : X) : Option R :=
  match step x with
  | some (.inr r) => some r
  | _ => none
theorem loop_res {step : Int → Option (Int ⊕ R)} {r0 : R} {n : Nat} (h1 : ∀ i : Nat, i < n → step i = some (.inl ((i : Int) + 1)) ∨ ∃ r, step i = some (.inr r)) (h2 : step n = some (.inr r0)) : loopU step 0 = some (firstR (fun i => resOf step i) r0 n 0) := by
  refine loop_first0 (fun i hi => ?_) h2
  unfold resOf
  rcases h1 i hi with h | ⟨r, h⟩ <;> rw [h] <;> rfl

/-- What is carried over the k places from i on. -/
def foldI (g : Nat → A → A) : Nat → Nat → A → A
  | 0, _, a => a
  | k + 1, i, a => foldI g k (i + 1) (g i a)
theorem foldI_congr {g g' : Nat → A → A} : ∀ (k i : Nat) (a : A), (∀ j a, i ≤ j → j < i + k → g j a = g' j a) → foldI g k i a = foldI g' k i a
  | 0, _, _, _ => rfl
  | k + 1, i, a, h => by
    unfold foldI
    rw [h i a (by omega) (by omega)]
    exact foldI_congr k (i + 1) _ fun j a h1 h2 => h j a (by omega) (by omega)
theorem foldI_inv {g : Nat → A → A} (I : Nat → A → Prop) {n : Nat} (hg : ∀ i a, i < n → I i a → I (i + 1) (g i a)) : ∀ (k i : Nat) (a : A), i + k = n → I i a → I n (foldI g k i a)
  | 0, i, a, e, h => by
    have : i = n := by omega
    subst this
    exact h
  | k + 1, i, a, e, h => foldI_inv I hg k (i + 1) (g i a) (by omega) (hg i a (by omega) h)
theorem foldI_succ (g : Nat → A → A) : ∀ (k i : Nat) (a : A), foldI g (k + 1) i a = g (i + k) (foldI g k i a)
  | 0, i, a => rfl
  | k + 1, i, a => by
    have := foldI_succ g k (i + 1) (g i a)
    rw [show i + (k + 1) = i + 1 + k by omega]
    exact this

/-- A loop that carries a, over the places below n. -/
theorem loop_acc {X : Type} {step : X → Option (X ⊕ R)} (st : A → Int → X) (I : Nat → A → Prop) (g : Nat → A → A) {n : Nat} {r : A → R}
    (h1 : ∀ i a, i < n → I i a → step (st a i) = some (.inl (st (g i a) ((i + 1 : Nat) : Int))) ∧ I (i + 1) (g i a)) (h2 : ∀ a, I n a → step (st a n) = some (.inr (r a))) :
    ∀ (k i : Nat) (a : A), i + k = n → I i a → loopU step (st a i) = some (r (foldI g k i a))
  | 0, i, a, e, h => by
    have : i = n := by omega
    subst this
    rw [loopU_eq, h2 a h]
    rfl
  | k + 1, i, a, e, h => by
    obtain ⟨q1, q2⟩ := h1 i a (by omega) h
    rw [loopU_eq, q1]
    exact loop_acc st I g h1 h2 k (i + 1) (g i a) (by omega) q2
end

theorem inR_iff (n : Int) : InR .i64 n ↔ -9223372036854775808 ≤ n ∧ n ≤ 9223372036854775807 := Iff.rfl
theorem need_and {R : Type} {p : Prop} {k : Option R} {r : Option R} (hp : p) (hk : k = r) : need p k = r := by rw [need_pos hp]; exact hk

/-- Contracts by fuel: one contract, where for each argument some fuel is enough. -/
theorem ctFam_ok {D : Type} {P : Program} {S : Sh D} {f : FuncId} {AS : ArgShp D} {RS : Shp D} {k : Nat} {keep : List Nat} {pre : Nat → AS.A → Option Prop} {fv : Nat → AS.A → RS.X} (h : ∀ n, CtOk P S f (ctN AS RS k keep (pre n) (fv n)))
    (pre' : AS.A → Option Prop) (fv' : AS.A → RS.X) (hn : ∀ a, preP (pre' a) → ∃ n, preP (pre n a) ∧ fv n a = fv' a) : CtOk P S f (ctN AS RS k keep pre' fv') := by
  refine ⟨(h 0).enters, fun X N g w args sargs bks p r post kp hp hrel hc hpre => ?_⟩
  unfold ctN at hc
  split at hc
  · cases hc
  · rename_i a ha
    injection hc with hc
    injection hc with c1 hc
    subst c1
    obtain ⟨n, q1, q2⟩ := hn a hpre
    refine (h n).calls X N g w args sargs bks (pre n a) r post kp hp hrel ?_ q1
    unfold ctN
    rw [ha]
    dsimp only
    rw [q2, ← hc]
end Go.Vc
