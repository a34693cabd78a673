/-
  Own engine, part 20: what a function computes, written out as a program (Pg): how it runs, what it gives, that it does.
-/
import Derived.Test.YtemjcccdcnhmhaaGreatDoorVdq
namespace Go.Vc
set_option linter.unusedVariables false
set_option linter.unusedSimpArgs false

instance sumInh {X R : Type} [Inhabited R] : Inhabited (X ⊕ R) := ⟨.inr default⟩
/-- Where the index stands in what a loop carries. -/
structure Ix (X Y : Type) where
  gi : X → Int
  gy : X → Y
  mx : Int → Y → X
  h1 : ∀ i y, gi (mx i y) = i
  h2 : ∀ i y, gy (mx i y) = y
def ixP {Y : Type} : Ix (Int × Y) Y := ⟨Prod.fst, Prod.snd, Prod.mk, fun _ _ => rfl, fun _ _ => rfl⟩
def ixI : Ix Int Unit := ⟨id, fun _ => (), fun i _ => i, fun _ _ => rfl, fun _ _ => rfl⟩

inductive Pg : Type → Type 1 where
  | ret {R : Type} (r : R) : Pg R
  | no {R : Type} (r : R) : Pg R
  | ob {R : Type} (p : Prop) (k : Pg R) : Pg R
  | as {R : Type} (p : Prop) (k : Pg R) : Pg R
  | br {R : Type} (b : Bool) (t e : Pg R) : Pg R
  | unk {R : Type} (s : Bool) (p : Bool → Prop) (t e : Pg R) : Pg R
  | lt {R A : Type} (v : A) (k : A → Pg R) : Pg R
  | cut {R X : Type} (k : X → Pg R) (a : Pg (X ⊕ R)) : Pg R
  | wh {R X : Type} (n : Nat) (r : R) (step : X → Pg (X ⊕ R)) (x : X) : Pg R
  | each {R A X Y : Type} (h : Bool) (s : Ix X Y) (l : List A) (d : A) (body : Int → A → Y → Pg (Y ⊕ R)) (fin : Int → Y → Pg R) (y : Y) : Pg R
  | cnt {R X Y : Type} (s : Ix X Y) (a b : Int) (body : Int → Y → Pg (Y ⊕ R)) (fin : Int → Y → Pg R) (y : Y) : Pg R
  | eachG {R A X Y : Type} (ps : List Prop) (h : Bool) (s : Ix X Y) (l : List A) (d : A) (body : Int → A → Y → Pg (Y ⊕ R)) (fin : Int → Y → Pg R) (y : Y) : Pg R
  | cntG {R X Y : Type} (ps : List Prop) (q : Option Prop) (s : Ix X Y) (a b : Int) (body : Int → Y → Pg (Y ⊕ R)) (fin : Int → Y → Pg R) (y : Y) : Pg R

section
variable {R R' A X Y : Type}

/-- On, with the next index. -/
def nxI (s : Ix X Y) (i : Int) : Y ⊕ R → X ⊕ R
  | .inl y => .inl (s.mx (wrp .i64 (i + 1)) y)
  | .inr r => .inr r

/-- What each round asks. -/
noncomputable def needL : List Prop → Option R → Option R
  | [], k => k
  | p :: ps, k => need p (needL ps k)
noncomputable def asmO (q : Option Prop) (e : R) (k : Option R) : Option R :=
  match q with
  | none => k
  | some q => asm q e k
def AllP : List Prop → Prop
  | [] => True
  | p :: ps => p ∧ AllP ps
theorem needL_pos : ∀ {ps : List Prop} {k : Option R}, AllP ps → needL ps k = k
  | [], _, _ => rfl
  | p :: ps, k, h => by unfold needL; rw [need_pos h.1, needL_pos h.2]
theorem asmO_pos {q : Option Prop} {e : R} {k : Option R} (h : preP q) : asmO q e k = k := by
  cases q with
  | none => rfl
  | some q => exact asm_pos h
theorem asmO_neg {q : Option Prop} {e : R} {k : Option R} (h : ¬ preP q) : asmO q e k = some e := by
  cases q with
  | none => exact (h trivial).elim
  | some q => exact asm_neg h
/-- The round of a loop over a list, of a loop over numbers. -/
noncomputable def Pg.runK : {R : Type} → Pg R → (R' : Type) → (R → R') → R' → Option R'
  | _, .ret r, _, f, _ => some (f r)
  | _, .no _, _, _, _ => none
  | _, .ob p k, R', f, e => need p (k.runK R' f e)
  | _, .as p k, R', f, e => asm p e (k.runK R' f e)
  | _, .br b t t', R', f, e => cond b (t.runK R' f e) (t'.runK R' f e)
  | _, .unk _ p t t', R', f, e => both p (t.runK R' f e) (t'.runK R' f e)
  | _, .lt v k, R', f, e => (k v).runK R' f e
  | _, .cut (X := X) k a, R', f, e => bindS (a.runK (X ⊕ R') (Sum.map id f) (.inr e)) fun x => (k x).runK R' f e
  | _, .wh (X := X) _ _ step x, R', f, e => loopU (fun y => (step y).runK (X ⊕ R') (Sum.map id f) (.inr e)) x
  | _, .each (X := X) h s l d body fin y, R', f, e => loopU (fun x =>
      cond h (asm (l.length ≤ 9223372036854775807) (.inr e) (cond (decide (s.gi x < (↑l.length : Int))) ((body (s.gi x) (l.getD (s.gi x).toNat d) (s.gy x)).runK (X ⊕ R') (fun z => nxI s (s.gi x) (Sum.map id f z)) (.inr e)) ((fin (s.gi x) (s.gy x)).runK (X ⊕ R') (fun r => .inr (f r)) (.inr e))))
        (cond (decide (s.gi x < (↑l.length : Int))) ((body (s.gi x) (l.getD (s.gi x).toNat d) (s.gy x)).runK (X ⊕ R') (fun z => nxI s (s.gi x) (Sum.map id f z)) (.inr e)) ((fin (s.gi x) (s.gy x)).runK (X ⊕ R') (fun r => .inr (f r)) (.inr e)))) (s.mx 0 y)
  | _, .eachG (X := X) ps h s l d body fin y, R', f, e => loopU (fun x => needL ps (
      cond h (asm (l.length ≤ 9223372036854775807) (.inr e) (cond (decide (s.gi x < (↑l.length : Int))) ((body (s.gi x) (l.getD (s.gi x).toNat d) (s.gy x)).runK (X ⊕ R') (fun z => nxI s (s.gi x) (Sum.map id f z)) (.inr e)) ((fin (s.gi x) (s.gy x)).runK (X ⊕ R') (fun r => .inr (f r)) (.inr e))))
        (cond (decide (s.gi x < (↑l.length : Int))) ((body (s.gi x) (l.getD (s.gi x).toNat d) (s.gy x)).runK (X ⊕ R') (fun z => nxI s (s.gi x) (Sum.map id f z)) (.inr e)) ((fin (s.gi x) (s.gy x)).runK (X ⊕ R') (fun r => .inr (f r)) (.inr e))))) (s.mx 0 y)
  | _, .cntG (X := X) ps q s a b body fin y, R', f, e => loopU (fun x => needL ps (asmO q (.inr e) (cond (decide (s.gi x < b)) ((body (s.gi x) (s.gy x)).runK (X ⊕ R') (fun z => nxI s (s.gi x) (Sum.map id f z)) (.inr e)) ((fin (s.gi x) (s.gy x)).runK (X ⊕ R') (fun r => .inr (f r)) (.inr e))))) (s.mx a y)
  | _, .cnt (X := X) s a b body fin y, R', f, e => loopU (fun x => cond (decide (s.gi x < b)) ((body (s.gi x) (s.gy x)).runK (X ⊕ R') (fun z => nxI s (s.gi x) (Sum.map id f z)) (.inr e)) ((fin (s.gi x) (s.gy x)).runK (X ⊕ R') (fun r => .inr (f r)) (.inr e))) (s.mx a y)

noncomputable def Pg.run (t : Pg R) (e : R) : Option R := t.runK R id e

/-- An index that must lie within. -/
abbrev Pg.ix (i : Int) (n : Nat) (k : Pg R) : Pg R := .ob (0 ≤ i ∧ i < ↑n) k

/-- An array's elements, one by one. -/
def arrEta {A : Type} (n : Nat) (d : A) (l : List A) : List A := (List.range n).map fun i => l.getD i d
theorem arrEta_eq {A : Type} {n : Nat} {d : A} {l : List A} (h : l.length = n) : arrEta n d l = l := by
  subst h
  refine List.ext_getElem (by simp [arrEta]) fun i h1 h2 => ?_
  simp [arrEta, List.getD, h2]

/-! ### what it gives -/
def forE (b : Nat → A → Y → Y ⊕ R) (f : Nat → Y → R) : List A → Nat → Y → R
  | [], k, y => f k y
  | a :: l, k, y => match b k a y with
    | .inl y' => forE b f l (k + 1) y'
    | .inr r => r
def forN (b : Int → Y → Y ⊕ R) (f : Int → Y → R) : Nat → Int → Y → R
  | 0, i, y => f i y
  | n + 1, i, y => match b i y with
    | .inl y' => forN b f n (i + 1) y'
    | .inr r => r
def whN (step : X → X ⊕ R) (r0 : R) : Nat → X → R
  | 0, _ => r0
  | n + 1, x => match step x with
    | .inl x' => whN step r0 n x'
    | .inr r => r
/-- Behind a join. -/
def thenS (a : X ⊕ R) (k : X → R) : R :=
  match a with
  | .inl x => k x
  | .inr r => r
@[simp] theorem thenS_inl (x : X) (k : X → R) : thenS (.inl x) k = k x := rfl
@[simp] theorem thenS_inr (r : R) (k : X → R) : thenS (.inr r) k = r := rfl

def Pg.val : {R : Type} → Pg R → R
  | _, .ret r => r
  | _, .no r => r
  | _, .ob _ k => k.val
  | _, .as _ k => k.val
  | _, .br b t e => cond b t.val e.val
  | _, .unk s _ t e => cond s t.val e.val
  | _, .lt v k => (k v).val
  | _, .cut k a => thenS a.val fun x => (k x).val
  | _, .wh n r step x => whN (fun y => (step y).val) r n x
  | _, .each _ _ l _ body fin y => forE (fun k a y => (body (↑k : Int) a y).val) (fun k y => (fin (↑k : Int) y).val) l 0 y
  | _, .cnt _ a b body fin y => forN (fun i y => (body i y).val) (fun i y => (fin i y).val) (b - a).toNat a y
  | _, .eachG _ _ _ l _ body fin y => forE (fun k a y => (body (↑k : Int) a y).val) (fun k y => (fin (↑k : Int) y).val) l 0 y
  | _, .cntG _ _ _ a b body fin y => forN (fun i y => (body i y).val) (fun i y => (fin i y).val) (b - a).toNat a y

@[simp] theorem val_ret (r : R) : (Pg.ret r).val = r := rfl
@[simp] theorem val_no (r : R) : (Pg.no r).val = r := rfl
@[simp] theorem val_ob (p : Prop) (k : Pg R) : (Pg.ob p k).val = k.val := rfl
@[simp] theorem val_ix (i : Int) (n : Nat) (k : Pg R) : (Pg.ix i n k).val = k.val := rfl
@[simp] theorem val_as (p : Prop) (k : Pg R) : (Pg.as p k).val = k.val := rfl
@[simp] theorem val_br (b : Bool) (t e : Pg R) : (Pg.br b t e).val = cond b t.val e.val := rfl
@[simp] theorem val_unk (s : Bool) (p : Bool → Prop) (t e : Pg R) : (Pg.unk s p t e).val = cond s t.val e.val := rfl
@[simp] theorem val_lt (v : A) (k : A → Pg R) : (Pg.lt v k).val = (k v).val := rfl
@[simp] theorem val_cut (a : Pg (X ⊕ R)) (k : X → Pg R) : (Pg.cut k a).val = thenS a.val fun x => (k x).val := rfl
@[simp] theorem val_wh (n : Nat) (r : R) (step : X → Pg (X ⊕ R)) (x : X) : (Pg.wh n r step x).val = whN (fun y => (step y).val) r n x := rfl
@[simp] theorem val_each (h : Bool) (s : Ix X Y) (l : List A) (d : A) (body : Int → A → Y → Pg (Y ⊕ R)) (fin : Int → Y → Pg R) (y : Y) :
    (Pg.each h s l d body fin y).val = forE (fun k a y => (body (↑k : Int) a y).val) (fun k y => (fin (↑k : Int) y).val) l 0 y := rfl
@[simp] theorem val_cnt (s : Ix X Y) (a b : Int) (body : Int → Y → Pg (Y ⊕ R)) (fin : Int → Y → Pg R) (y : Y) :
    (Pg.cnt s a b body fin y).val = forN (fun i y => (body i y).val) (fun i y => (fin i y).val) (b - a).toNat a y := rfl

@[simp] theorem val_eachG (ps : List Prop) (h : Bool) (s : Ix X Y) (l : List A) (d : A) (body : Int → A → Y → Pg (Y ⊕ R)) (fin : Int → Y → Pg R) (y : Y) :
    (Pg.eachG ps h s l d body fin y).val = forE (fun k a y => (body (↑k : Int) a y).val) (fun k y => (fin (↑k : Int) y).val) l 0 y := rfl
@[simp] theorem val_cntG (ps : List Prop) (q : Option Prop) (s : Ix X Y) (a b : Int) (body : Int → Y → Pg (Y ⊕ R)) (fin : Int → Y → Pg R) (y : Y) :
    (Pg.cntG ps q s a b body fin y).val = forN (fun i y => (body i y).val) (fun i y => (fin i y).val) (b - a).toNat a y := rfl

/-! ### that it does -/
/-- It gives its value, or what was expected. -/
def Is (t : Pg R) : Prop := ∀ (R' : Type) (f : R → R') (e : R'), t.runK R' f e = some (f t.val) ∨ t.runK R' f e = some e
/-- It gives its value. -/
def Is1 (t : Pg R) : Prop := ∀ (R' : Type) (f : R → R') (e : R'), t.runK R' f e = some (f t.val)
theorem Is1.is {t : Pg R} (h : Is1 t) : Is t := fun R' f e => .inl (h R' f e)
theorem Is.run {t : Pg R} (h : Is t) : t.run t.val = some t.val := by
  rcases h R id t.val with h | h <;> exact h

theorem is_ret {r : R} : Is (.ret r) := fun _ _ _ => .inl rfl
theorem is_ob {p : Prop} {k : Pg R} (hp : p) (hk : Is k) : Is (.ob p k) := fun R' f e => by
  simp only [Pg.runK, need_pos hp]
  exact hk R' f e
theorem is_ix {i : Int} {n : Nat} {k : Pg R} (h1 : 0 ≤ i) (h2 : i < ↑n) (hk : Is k) : Is (.ix i n k) := is_ob ⟨h1, h2⟩ hk
theorem is_as {p : Prop} {k : Pg R} (hk : p → Is k) : Is (.as p k) := fun R' f e => by
  by_cases hp : p
  · simp only [Pg.runK, asm_pos hp]
    exact hk hp R' f e
  · simp only [Pg.runK, asm_neg hp]
    exact .inr trivial
theorem is_br {b : Bool} {t e : Pg R} (ht : b = true → Is t) (he : b = false → Is e) : Is (.br b t e) := fun R' f e0 => by
  cases b with
  | true => exact ht rfl R' f e0
  | false => exact he rfl R' f e0
theorem is_brd {p : Prop} {inst : Decidable p} {t e : Pg R} (ht : p → Is t) (he : ¬ p → Is e) : Is (.br (@decide p inst) t e) :=
  is_br (fun h => ht (of_decide_eq_true h)) (fun h => he (of_decide_eq_false h))
theorem is_beq {a b : A} [h : BEq A] [lw : LawfulBEq A] {t e : Pg R} (ht : a = b → Is t) (he : ¬ a = b → Is e) : Is (.br (a == b) t e) :=
  is_br (fun h => ht (by simpa using h)) (fun h => he (by simpa using h))
theorem is_bne {a b : A} [h : BEq A] [lw : LawfulBEq A] {t e : Pg R} (ht : ¬ a = b → Is t) (he : a = b → Is e) : Is (.br (a != b) t e) :=
  is_br (fun h => ht (by simpa using h)) (fun h => he (by simpa using h))
theorem room_of {n b : Nat} (h1 : n ≤ 1099511627776) (h2 : n * b ≤ 140737488355328) : roomP n b := ⟨h1, h2⟩
theorem is_lt {v : A} {k : A → Pg R} (h : ∀ x, x = v → Is (k x)) : Is (.lt v k) := h v rfl
theorem is_ltw {n : Int} {k : Int → Pg R} (h : ∀ x, x = wrp .i64 n → (-9223372036854775808 ≤ n ∧ n ≤ 9223372036854775807 → x = n) → Is (k x)) : Is (.lt (wrp .i64 n) k) :=
  h _ rfl fun hn => wrp_in (k := .i64) hn
theorem is_cut {a : Pg (X ⊕ R)} {k : X → Pg R} (ha : Is a) (hk : ∀ x, a.val = .inl x → Is (k x)) : Is (.cut k a) := fun R' f e => by
  have h := ha (X ⊕ R') (Sum.map id f) (.inr e)
  simp only [Pg.runK, val_cut]
  rcases h with h | h
  · rw [h]
    cases hv : a.val with
    | inl x => exact hk x hv R' f e
    | inr r => exact .inl rfl
  · rw [h]; exact .inr rfl
theorem is_unk {s : Bool} {p : Bool → Prop} {t e : Pg R} (hp : ∃ b, p b) (ht : p true → Is1 t ∧ t.val = cond s t.val e.val) (he : p false → Is1 e ∧ e.val = cond s t.val e.val) : Is (.unk s p t e) := fun R' f e0 => by
  refine .inl ?_
  simp only [Pg.runK, val_unk]
  refine both_of hp (fun h => ?_) (fun h => ?_)
  · rw [(ht h).1 R' f e0, ← (ht h).2]
  · rw [(he h).1 R' f e0, ← (he h).2]

theorem is_clone {l : List A} {b : Nat} (h : roomP (0 + l.length) b) : Is (.unk false (fun b => b = true → l.length = 0) (.ret []) (.ob (roomP (0 + l.length) b) (.ret l))) :=
  is_unk ⟨false, fun e => by cases e⟩ (fun hp => ⟨fun _ _ _ => rfl, by have h0 := hp rfl; cases l with | nil => rfl | cons a l => simp at h0⟩) (fun _ => ⟨fun R' f e => by simp only [Pg.runK, need_pos h]; rfl, rfl⟩)
theorem Pg.runK_congr {t : Pg R} {f f' : R → R'} {e : R'} (h : ∀ r, f r = f' r) : t.runK R' f e = t.runK R' f' e := by
  rw [show f = f' from funext h]

theorem loop_list {l : List A} {s : Ix X Y} {R' : Type} {step : X → Option (X ⊕ R')} {f : R → R'} {e : R'} {b : Nat → A → Y → Y ⊕ R} {g : Nat → Y → R} {d : A} (I : Nat → Y → Prop)
    (h1 : ∀ (k : Nat) (y : Y), k < l.length → I k y → step (s.mx ↑k y) = some (match b k (l.getD k d) y with | .inl y' => .inl (s.mx (↑(k + 1)) y') | .inr r => .inr (f r)) ∧ (∀ y', b k (l.getD k d) y = .inl y' → I (k + 1) y') ∨ step (s.mx ↑k y) = some (.inr e))
    (h2 : ∀ y, I l.length y → step (s.mx ↑l.length y) = some (.inr (f (g l.length y))) ∨ step (s.mx ↑l.length y) = some (.inr e)) :
    ∀ (n k : Nat) (y : Y), k + n = l.length → I k y → loopU step (s.mx ↑k y) = some (f (forE b g (l.drop k) k y)) ∨ loopU step (s.mx ↑k y) = some e
  | 0, k, y, hk, hi => by
    have hk : k = l.length := by omega
    subst hk
    rw [loopU_eq, List.drop_length]
    rcases h2 y hi with h | h <;> rw [h]
    · exact .inl rfl
    · exact .inr rfl
  | n + 1, k, y, hk, hi => by
    have hlt : k < l.length := by omega
    rw [loopU_eq]
    have hd : l.drop k = l.getD k d :: l.drop (k + 1) := by
      rw [List.drop_eq_getElem_cons hlt]
      congr 1
      simp [List.getD, hlt]
    rw [hd]
    rcases h1 k y hlt hi with ⟨h, hI⟩ | h
    · rw [h]
      cases hb : b k (l.getD k d) y with
      | inl y' =>
        have := loop_list I h1 h2 n (k + 1) y' (by omega) (hI y' hb)
        simp only [forE, hb]
        exact this
      | inr r =>
        simp only [forE, hb]
        exact .inl trivial
    · rw [h]; exact .inr rfl

theorem wrp_next {k : Nat} (h : k < 9223372036854775807) : wrp .i64 ((↑k : Int) + 1) = ↑(k + 1) := by
  rw [wrp_in (k := .i64) (by simp only [InR]; omega)]
  omega

/-- A loop over a list, by an invariant. -/
theorem is_eachI {h : Bool} {s : Ix X Y} {l : List A} {d : A} {body : Int → A → Y → Pg (Y ⊕ R)} {fin : Int → Y → Pg R} {y : Y} (I : Nat → Y → Prop) (h0 : I 0 y)
    (hl : h = true ∨ l.length ≤ 9223372036854775807)
    (hb : ∀ (k : Nat) (y : Y), k < l.length → l.length ≤ 9223372036854775807 → I k y → Is (body ↑k (l.getD k d) y) ∧ ∀ y', (body ↑k (l.getD k d) y).val = .inl y' → I (k + 1) y')
    (hf : ∀ y, l.length ≤ 9223372036854775807 → I l.length y → Is (fin ↑l.length y)) : Is (.each h s l d body fin y) := fun R' f e => by
  simp only [Pg.runK, val_each]
  have key := fun (step : X → Option (X ⊕ R')) => loop_list (l := l) (s := s) (step := step) (f := f) (e := e) (b := fun k a y => (body (↑k : Int) a y).val) (g := fun k y => (fin (↑k : Int) y).val) (d := d) I
  have core : ∀ (hm : l.length ≤ 9223372036854775807) (step : X → Option (X ⊕ R')), (∀ x, step x = cond (decide (s.gi x < (↑l.length : Int))) ((body (s.gi x) (l.getD (s.gi x).toNat d) (s.gy x)).runK (X ⊕ R') (fun z => nxI s (s.gi x) (Sum.map id f z)) (.inr e)) ((fin (s.gi x) (s.gy x)).runK (X ⊕ R') (fun r => .inr (f r)) (.inr e))) →
      (loopU step (s.mx 0 y) = some (f (forE (fun k a y => (body (↑k : Int) a y).val) (fun k y => (fin (↑k : Int) y).val) l 0 y)) ∨ loopU step (s.mx 0 y) = some e) := by
    intro hm step hs
    have := key step (fun k y hk hi => ?_) (fun y hi => ?_) l.length 0 y (by omega) h0
    · simpa using this
    · obtain ⟨q1, q2⟩ := hb k y hk hm hi
      rw [hs, s.h1, s.h2]
      have hlt : ((k : Nat) : Int) < ↑l.length := by omega
      simp only [hlt, decide_true, cond_true, Int.toNat_natCast]
      rcases q1 (X ⊕ R') (fun z => nxI s ↑k (Sum.map id f z)) (.inr e) with h | h
      · refine .inl ⟨?_, q2⟩
        rw [h]
        cases (body ↑k (l.getD k d) y).val with
        | inl y' => simp only [Sum.map_inl, id_eq, nxI, wrp_next (show k < 9223372036854775807 by omega)]
        | inr r => rfl
      · exact .inr h
    · rw [hs, s.h1, s.h2]
      simp only [Int.lt_irrefl, decide_false, cond_false]
      exact (hf y hm hi) (X ⊕ R') (fun r => .inr (f r)) (.inr e)
  cases h with
  | false =>
    rcases hl with hl | hl
    · cases hl
    · exact core hl _ fun x => rfl
  | true =>
    by_cases hm : l.length ≤ 9223372036854775807
    · exact core hm _ fun x => by simp only [cond_true, asm_pos hm]
    · refine .inr ?_
      rw [loopU_eq]
      simp only [cond_true, asm_neg hm]
theorem is_each {h : Bool} {s : Ix X Y} {l : List A} {d : A} {body : Int → A → Y → Pg (Y ⊕ R)} {fin : Int → Y → Pg R} {y : Y} (hl : h = true ∨ l.length ≤ 9223372036854775807)
    (hb : ∀ (k : Nat) (y : Y), k < l.length → l.length ≤ 9223372036854775807 → Is (body ↑k (l.getD k d) y)) (hf : ∀ y, l.length ≤ 9223372036854775807 → Is (fin ↑l.length y)) : Is (.each h s l d body fin y) :=
  is_eachI (fun _ _ => True) trivial hl (fun k y h1 h2 _ => ⟨hb k y h1 h2, fun _ _ => trivial⟩) fun y h _ => hf y h

theorem loop_num {b : Int} {s : Ix X Y} {R' : Type} {step : X → Option (X ⊕ R')} {f : R → R'} {e : R'} {bd : Int → Y → Y ⊕ R} {g : Int → Y → R} (I : Int → Y → Prop) (hm : b ≤ 9223372036854775807)
    (h1 : ∀ (i : Int) (y : Y), i < b → I i y → step (s.mx i y) = some (match bd i y with | .inl y' => .inl (s.mx (i + 1) y') | .inr r => .inr (f r)) ∧ (∀ y', bd i y = .inl y' → I (i + 1) y') ∨ step (s.mx i y) = some (.inr e))
    (h2 : ∀ i y, b ≤ i → I i y → step (s.mx i y) = some (.inr (f (g i y))) ∨ step (s.mx i y) = some (.inr e)) :
    ∀ (n : Nat) (i : Int) (y : Y), (b - i).toNat = n → I i y → loopU step (s.mx i y) = some (f (forN bd g n i y)) ∨ loopU step (s.mx i y) = some e
  | 0, i, y, hk, hi => by
    rw [loopU_eq]
    rcases h2 i y (by omega) hi with h | h <;> rw [h]
    · exact .inl rfl
    · exact .inr rfl
  | n + 1, i, y, hk, hi => by
    have hlt : i < b := by omega
    rw [loopU_eq]
    rcases h1 i y hlt hi with ⟨h, hI⟩ | h
    · rw [h]
      cases hb : bd i y with
      | inl y' =>
        have := loop_num I hm h1 h2 n (i + 1) y' (by omega) (hI y' hb)
        simp only [forN, hb]
        exact this
      | inr r =>
        simp only [forN, hb]
        exact .inl trivial
    · rw [h]; exact .inr rfl
/-- A loop over numbers, by an invariant. -/
theorem is_cntI {s : Ix X Y} {a b : Int} {body : Int → Y → Pg (Y ⊕ R)} {fin : Int → Y → Pg R} {y : Y} (I : Int → Y → Prop) (h0 : I a y) (ha : -9223372036854775808 ≤ a) (hm : b ≤ 9223372036854775807)
    (hb : ∀ (i : Int) (y : Y), a ≤ i → i < b → I i y → Is (body i y) ∧ ∀ y', (body i y).val = .inl y' → I (i + 1) y')
    (hf : ∀ i y, a ≤ i → b ≤ i → I i y → Is (fin i y)) : Is (.cnt s a b body fin y) := fun R' f e => by
  simp only [Pg.runK, val_cnt]
  refine loop_num (s := s) (f := f) (e := e) (bd := fun i y => (body i y).val) (g := fun i y => (fin i y).val) (fun i y => a ≤ i ∧ I i y) hm (fun i y hlt hi => ?_) (fun i y hge hi => ?_) _ a y rfl ⟨Int.le_refl _, h0⟩
  · obtain ⟨q1, q2⟩ := hb i y hi.1 hlt hi.2
    simp only [s.h1, s.h2, hlt, decide_true, cond_true]
    rcases q1 (X ⊕ R') (fun z => nxI s i (Sum.map id f z)) (.inr e) with h | h
    · refine .inl ⟨?_, fun y' hy => ⟨by omega, q2 y' hy⟩⟩
      rw [h]
      have hw : wrp .i64 (i + 1) = i + 1 := wrp_in (k := .i64) (by simp only [InR]; omega)
      cases (body i y).val with
      | inl y' => simp only [Sum.map_inl, id_eq, nxI, hw]
      | inr r => rfl
    · exact .inr h
  · simp only [s.h1, s.h2, show ¬ i < b by omega, decide_false, cond_false]
    exact (hf i y hi.1 hge hi.2) (X ⊕ R') (fun r => .inr (f r)) (.inr e)
theorem is_cnt {s : Ix X Y} {a b : Int} {body : Int → Y → Pg (Y ⊕ R)} {fin : Int → Y → Pg R} {y : Y} (ha : -9223372036854775808 ≤ a) (hm : b ≤ 9223372036854775807)
    (hb : ∀ (i : Int) (y : Y), a ≤ i → i < b → Is (body i y)) (hf : ∀ i y, a ≤ i → b ≤ i → Is (fin i y)) : Is (.cnt s a b body fin y) :=
  is_cntI (fun _ _ => True) trivial ha hm (fun i y h1 h2 _ => ⟨hb i y h1 h2, fun _ _ => trivial⟩) fun i y h1 h2 _ => hf i y h1 h2

/-- The same, where each round asks something. -/
theorem is_eachGI {ps : List Prop} {h : Bool} {s : Ix X Y} {l : List A} {d : A} {body : Int → A → Y → Pg (Y ⊕ R)} {fin : Int → Y → Pg R} {y : Y} (I : Nat → Y → Prop) (h0 : I 0 y) (hp : AllP ps)
    (hl : h = true ∨ l.length ≤ 9223372036854775807)
    (hb : ∀ (k : Nat) (y : Y), k < l.length → l.length ≤ 9223372036854775807 → I k y → Is (body ↑k (l.getD k d) y) ∧ ∀ y', (body ↑k (l.getD k d) y).val = .inl y' → I (k + 1) y')
    (hf : ∀ y, l.length ≤ 9223372036854775807 → I l.length y → Is (fin ↑l.length y)) : Is (.eachG ps h s l d body fin y) := fun R' f e => by
  have := is_eachI (s := s) I h0 hl hb hf R' f e
  simp only [Pg.runK, needL_pos hp] at this ⊢
  exact this
theorem is_eachG {ps : List Prop} {h : Bool} {s : Ix X Y} {l : List A} {d : A} {body : Int → A → Y → Pg (Y ⊕ R)} {fin : Int → Y → Pg R} {y : Y} (hp : AllP ps) (hl : h = true ∨ l.length ≤ 9223372036854775807)
    (hb : ∀ (k : Nat) (y : Y), k < l.length → l.length ≤ 9223372036854775807 → Is (body ↑k (l.getD k d) y)) (hf : ∀ y, l.length ≤ 9223372036854775807 → Is (fin ↑l.length y)) : Is (.eachG ps h s l d body fin y) :=
  is_eachGI (fun _ _ => True) trivial hp hl (fun k y h1 h2 _ => ⟨hb k y h1 h2, fun _ _ => trivial⟩) fun y h _ => hf y h
theorem is_cntGI {ps : List Prop} {q : Option Prop} {s : Ix X Y} {a b : Int} {body : Int → Y → Pg (Y ⊕ R)} {fin : Int → Y → Pg R} {y : Y} (I : Int → Y → Prop) (h0 : I a y) (hp : AllP ps) (ha : -9223372036854775808 ≤ a) (hm : preP q → b ≤ 9223372036854775807)
    (hb : ∀ (i : Int) (y : Y), a ≤ i → i < b → b ≤ 9223372036854775807 → I i y → Is (body i y) ∧ ∀ y', (body i y).val = .inl y' → I (i + 1) y')
    (hf : ∀ i y, a ≤ i → b ≤ i → I i y → Is (fin i y)) : Is (.cntG ps q s a b body fin y) := fun R' f e => by
  by_cases hq : preP q
  · have := is_cntI (s := s) I h0 ha (hm hq) (fun i y h1 h2 => hb i y h1 h2 (hm hq)) hf R' f e
    simp only [Pg.runK, needL_pos hp, asmO_pos hq] at this ⊢
    exact this
  · refine .inr ?_
    simp only [Pg.runK, needL_pos hp, asmO_neg hq]
    rw [loopU_eq]
theorem is_cntG {ps : List Prop} {q : Option Prop} {s : Ix X Y} {a b : Int} {body : Int → Y → Pg (Y ⊕ R)} {fin : Int → Y → Pg R} {y : Y} (hp : AllP ps) (ha : -9223372036854775808 ≤ a) (hm : preP q → b ≤ 9223372036854775807)
    (hb : ∀ (i : Int) (y : Y), a ≤ i → i < b → b ≤ 9223372036854775807 → Is (body i y)) (hf : ∀ i y, a ≤ i → b ≤ i → Is (fin i y)) : Is (.cntG ps q s a b body fin y) :=
  is_cntGI (fun _ _ => True) trivial hp ha hm (fun i y h1 h2 h3 _ => ⟨hb i y h1 h2 h3, fun _ _ => trivial⟩) fun i y h1 h2 _ => hf i y h1 h2
/-- Any loop, by an invariant and what is left of it. -/
theorem is_wh {n : Nat} {r0 : R} {step : X → Pg (X ⊕ R)} {x : X} (I : X → Prop) (mu : X → Nat) (h0 : I x) (hn : mu x < n)
    (hs : ∀ x, I x → Is (step x) ∧ ∀ x', (step x).val = .inl x' → I x' ∧ mu x' < mu x) : Is (.wh n r0 step x) := fun R' f e => by
  simp only [Pg.runK, val_wh]
  induction n generalizing x with
  | zero => omega
  | succ n ih =>
    rw [loopU_eq]
    obtain ⟨q1, q2⟩ := hs x h0
    rcases q1 (X ⊕ R') (Sum.map id f) (.inr e) with h | h
    · rw [h]
      cases hv : (step x).val with
      | inl x' =>
        obtain ⟨q3, q4⟩ := q2 x' hv
        simp only [Sum.map_inl, id_eq, whN, hv]
        exact ih q3 (by omega)
      | inr r =>
        simp only [Sum.map_inr, whN, hv]
        exact .inl trivial
    · rw [h]; exact .inr rfl
end
end Go.Vc
