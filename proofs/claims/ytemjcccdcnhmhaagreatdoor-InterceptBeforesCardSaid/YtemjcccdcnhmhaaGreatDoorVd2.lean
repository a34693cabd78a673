/-
  Own engine, part 2: the heap of a call, as blocks of its own and data that stay; what each kind of step does to it.
-/
import Derived.Test.YtemjcccdcnhmhaaGreatDoorVd1
namespace Go.Vc
open Go.RowKit
set_option linter.unusedVariables false

def upd {α : Type} (f : Nat → α) (k : Nat) (v : α) : Nat → α := fun n => if n = k then v else f n
theorem upd_same {α : Type} (f : Nat → α) (k : Nat) (v : α) : upd f k v k = v := by simp [upd]
theorem upd_other {α : Type} (f : Nat → α) (k n : Nat) (v : α) (h : n ≠ k) : upd f k v n = f n := by simp [upd, h]

def blkOf : Value → Option Nat
  | .pointer (some a) => some a.block
  | .slice (some a) _ _ => some a.block
  | _ => none

def isRef : Value → Bool
  | .pointer _ | .slice _ _ _ => true
  | _ => false

/-- Where a call begins: the world, and the blocks that were lent to it. -/
structure Bs where
  w : World
  X : Nat → Prop

def Bs.Mine (B : Bs) (b : Nat) : Prop := B.w.heap.size ≤ b ∨ B.X b

/-- What was there, and was not lent, is as it was. -/
structure BelowX (B : Bs) (w' : World) : Prop where
  os : w'.os = B.w.os
  tape : w'.tape = B.w.tape
  output : w'.output = B.w.output
  size : B.w.heap.size ≤ w'.heap.size
  block : ∀ k, k < B.w.heap.size → ¬ B.X k → w'.heap[k]? = B.w.heap[k]?

theorem BelowX.refl (B : Bs) : BelowX B B.w := ⟨rfl, rfl, rfl, Nat.le_refl _, fun _ _ _ => rfl⟩
theorem BelowX.grow {B : Bs} {w w' : World} (h : BelowX B w) (k : Below w.heap.size w w') : BelowX B w' :=
  ⟨k.os.trans h.os, k.tape.trans h.tape, k.output.trans h.output, Nat.le_trans h.size k.size, fun i hi hx => (k.block i (Nat.lt_of_lt_of_le hi h.size)).trans (h.block i hi hx)⟩

/-- Is it written (cells, a row)? -/
def hot {D : Type} : Option (Bk D) → Bool
  | some (.cells _) => true
  | some (.row _ _) => true
  | some (.iter _ _) => true
  | _ => false

def BkOk {D : Type} (S : Sh D) (M : Nat → Prop) (w : World) (g : Nat → Option Value) (B : Bs) : Bk D → Value → Prop
  | .cells cs, v => ∃ b vs t, v = .pointer (some ⟨b, 0, none⟩) ∧ B.Mine b ∧ w.heap[b]? = some (.cells (List.toArray vs) t (0, 0)) ∧ LfsRel S M w g cs vs
  | .ice d, v => DatOk S M w d v
  | .iter s p, v => s.length ≤ 9223372036854775807 ∧ ∃ b, v = .pointer (some ⟨b, 0, none⟩) ∧ B.Mine b ∧ w.heap[b]? = some (.stringIter ⟨s.toArray⟩ p)
  | .row e d, v => ((∀ b, blkOf v = some b → B.Mine b) ∧ S.len d ≤ 9223372036854775807) ∧ ∃ xs, w.ownsRow 0 e (S.size d) v (S.len d) xs ∧
      ∀ i j, i < S.len d → j < S.size d → ∃ u, xs[i * S.size d + j]? = some u ∧ (S.cell d i j).isData = true ∧ (S.cell d i j).Rel S M w g u

def Mset {D : Type} (N : Nat → Prop) (blk : Nat → Option (Bk D)) (g : Nat → Option Value) : Nat → Prop :=
  fun b => N b ∨ ∃ l v, hot (blk l) = true ∧ g l = some v ∧ blkOf v = some b

structure Hp {D : Type} (S : Sh D) (w0 : Bs) (N : Nat → Prop) (blk : Nat → Option (Bk D)) (g : Nat → Option Value) (al : Nat → Prop) (w : World) : Prop where
  below : BelowX w0 w
  hN : ∀ b, N b → b < w0.w.heap.size ∧ ¬ w0.X b
  bks : ∀ l bk, blk l = some bk → ∃ v, g l = some v ∧ BkOk S (Mset N blk g) w g w0 bk v
  sep : ∀ l l' v v' b, hot (blk l) = true → hot (blk l') = true → g l = some v → g l' = some v' → blkOf v = some b → blkOf v' = some b → l = l'
  al : ∀ l v, g l = some v → al l
  refs : ∀ l v, g l = some v → isRef v = true
  gl : GlOk S (Mset N blk g) w

section
variable {D : Type} {S : Sh D} {M M' N : Nat → Prop} {w w' : World} {w0 : Bs} {g g' : Nat → Option Value} {blk : Nat → Option (Bk D)} {al : Nat → Prop} {B : Bs}

theorem heap_lt {w : World} {b : Nat} {o : Obj} (h : w.heap[b]? = some o) : b < w.heap.size := by
  rcases Nat.lt_or_ge b w.heap.size with hl | hl
  · exact hl
  · rw [Array.getElem?_eq_none hl] at h; cases h

theorem BkOk.lt {bk : Bk D} {v : Value} {b : Nat} (h : BkOk S M w g B bk v) (hh : hot (some bk) = true) (hb : blkOf v = some b) : b < w.heap.size ∧ B.Mine b := by
  cases bk with
  | cells cs =>
    obtain ⟨b', vs, t, rfl, hB, hh, _⟩ := h
    simp only [blkOf, Option.some.injEq] at hb
    subst hb
    exact ⟨heap_lt hh, hB⟩
  | row e d =>
    obtain ⟨hm, xs, ⟨_, h⟩, _⟩ := h
    rcases h with ⟨rfl, _⟩ | ⟨g', cap, cur, rfl, hB, hh, _⟩
    · simp [blkOf] at hb
    · have := hm.1 b hb
      simp only [blkOf, Option.some.injEq] at hb
      subst hb
      exact ⟨heap_lt hh, this⟩
  | ice d => simp [hot] at hh
  | iter s p =>
    obtain ⟨_, b', rfl, hB, hh⟩ := h
    simp only [blkOf, Option.some.injEq] at hb
    subst hb
    exact ⟨heap_lt hh, hB⟩

theorem BkOk.isRef {bk : Bk D} {v : Value} (h : BkOk S M w g B bk v) : isRef v = true := by
  cases bk with
  | cells cs => obtain ⟨b', vs, t, rfl, _⟩ := h; rfl
  | row e d =>
    obtain ⟨_, xs, ⟨_, h⟩, _⟩ := h
    rcases h with ⟨rfl, _⟩ | ⟨g', cap, cur, rfl, _⟩ <;> rfl
  | ice d =>
    obtain ⟨a, cap, rfl, _⟩ := DatOk.slice h
    rfl
  | iter s p => obtain ⟨_, b', rfl, _⟩ := h; rfl

theorem BkOk.keep {bk : Bk D} {v : Value} (h : BkOk S M w g B bk v) (k : Keeps M w M' w') (m : More g g') (hb : hot (some bk) = true → ∀ b, blkOf v = some b → w'.heap[b]? = w.heap[b]?) : BkOk S M' w' g' B bk v := by
  cases bk with
  | cells cs =>
    obtain ⟨b, vs, t, rfl, hB, hh, hr⟩ := h
    exact ⟨b, vs, t, rfl, hB, (hb rfl b rfl).trans hh, hr.keep k m⟩
  | row e d =>
    obtain ⟨hm, xs, ⟨hl, h⟩, hc⟩ := h
    refine ⟨hm, xs, ⟨hl, ?_⟩, fun i j hi hj => ?_⟩
    · rcases h with h | ⟨g', cap, cur, rfl, hB, hh, hrest⟩
      · exact .inl h
      · exact .inr ⟨g', cap, cur, rfl, hB, (hb rfl g' rfl).trans hh, hrest⟩
    · obtain ⟨u, h1, h2, h3⟩ := hc i j hi hj
      exact ⟨u, h1, h2, h3.keep k m⟩
  | ice d => exact DatOk.keep h k
  | iter s p =>
    obtain ⟨hl, b, rfl, hB, hh⟩ := h
    exact ⟨hl, b, rfl, hB, (hb rfl b rfl).trans hh⟩

theorem hot_some {x : Option (Bk D)} (h : hot x = true) : ∃ bk, x = some bk ∧ hot (some bk) = true := by
  cases x with
  | none => simp [hot] at h
  | some bk => exact ⟨bk, rfl, h⟩

theorem Keeps.refl (M : Nat → Prop) (w : World) : Keeps M w M w := ⟨Nat.le_refl _, fun _ _ h => ⟨h, rfl⟩⟩

theorem Hp.at (h : Hp S w0 N blk g al w) {l : Nat} {v : Value} (h1 : hot (blk l) = true) (h2 : g l = some v) : ∃ bk, blk l = some bk ∧ hot (some bk) = true ∧ BkOk S (Mset N blk g) w g w0 bk v := by
  obtain ⟨bk, hbk, hh⟩ := hot_some h1
  obtain ⟨v', hv', hok⟩ := h.bks l bk hbk
  rw [h2] at hv'
  injection hv' with hv'
  subst hv'
  exact ⟨bk, hbk, hh, hok⟩

theorem Hp.mlt (h : Hp S w0 N blk g al w) {b : Nat} (hb : Mset N blk g b) : b < w.heap.size := by
  rcases hb with hb | ⟨l, v, h1, h2, h3⟩
  · exact Nat.lt_of_lt_of_le (h.hN b hb).1 h.below.size
  · obtain ⟨bk, _, hh, hok⟩ := h.at h1 h2
    exact (hok.lt hh h3).1

/-- Nothing that was there has turned; the call's blocks are as they were. -/
theorem Hp.grow (h : Hp S w0 N blk g al w) (hb : Below w.heap.size w w') : Hp S w0 N blk g al w' ∧ Keeps (Mset N blk g) w (Mset N blk g) w' := by
  have hk : Keeps (Mset N blk g) w (Mset N blk g) w' := ⟨hb.size, fun b hlt hm => ⟨hm, hb.block b hlt⟩⟩
  refine ⟨⟨h.below.grow hb, h.hN, fun l bk hl => ?_, h.sep, h.al, h.refs, h.gl.keep hk⟩, hk⟩
  obtain ⟨v, hv, hok⟩ := h.bks l bk hl
  exact ⟨v, hv, hok.keep hk (More.refl _) fun hh b hbv => hb.block b (hok.lt hh hbv).1⟩

/-- A new block of the call's own, whose value v tells where it lies: from the heap's old end on; behind a step that leaves alone what is not in M. -/
theorem Hp.add (h : Hp S w0 N blk g al w) (hb : Below w.heap.size w w') {l : Nat} {bk : Bk D} {v : Value} (hl : ¬ al l) (hv : ∀ b, blkOf v = some b → w.heap.size ≤ b)
    (hok : ∀ M', Keeps (Mset N blk g) w M' w' → (∀ c, M' c → Mset N blk g c ∨ blkOf v = some c) → BkOk S M' w' (upd g l (some v)) w0 bk v) :
    Hp S w0 N (upd blk l (some bk)) (upd g l (some v)) (fun n => al n ∨ n = l) w' ∧ Keeps (Mset N blk g) w (Mset N (upd blk l (some bk)) (upd g l (some v))) w' ∧ More g (upd g l (some v)) := by
  have hgl : g l = none := by
    cases hg : g l with
    | none => rfl
    | some u => exact absurd (h.al l u hg) hl
  have hbl : blk l = none := by
    cases hx : blk l with
    | none => rfl
    | some bk' =>
      obtain ⟨u, hu, _⟩ := h.bks l bk' hx
      rw [hgl] at hu
      cases hu
  have hm : More g (upd g l (some v)) := fun n u hn => by
    rw [upd_other _ _ _ _ (by rintro rfl; rw [hgl] at hn; cases hn)]
    exact hn
  have hk : Keeps (Mset N blk g) w (Mset N (upd blk l (some bk)) (upd g l (some v))) w' := by
    refine ⟨hb.size, fun b hlt hmb => ⟨?_, hb.block b hlt⟩⟩
    rintro (hnb | ⟨l', u, h1, h2, h3⟩)
    · exact hmb (.inl hnb)
    · by_cases he : l' = l
      · subst he
        rw [upd_same] at h2
        injection h2 with h2
        subst h2
        exact absurd (hv b h3) (by omega)
      · rw [upd_other _ _ _ _ he] at h1 h2
        exact hmb (.inr ⟨l', u, h1, h2, h3⟩)
  have hM' : ∀ c, Mset N (upd blk l (some bk)) (upd g l (some v)) c → Mset N blk g c ∨ blkOf v = some c := by
    rintro c (hnb | ⟨l', u, h1, h2, h3⟩)
    · exact .inl (.inl hnb)
    · by_cases he : l' = l
      · subst he
        rw [upd_same] at h2
        injection h2 with h2
        subst h2
        exact .inr h3
      · rw [upd_other _ _ _ _ he] at h1 h2
        exact .inl (.inr ⟨l', u, h1, h2, h3⟩)
  refine ⟨⟨h.below.grow hb, h.hN, fun l' bk' hl' => ?_, ?_, ?_, ?_, h.gl.keep hk⟩, hk, hm⟩
  · by_cases he : l' = l
    · subst he
      rw [upd_same] at hl'
      injection hl' with hl'
      subst hl'
      exact ⟨v, upd_same _ _ _, hok _ hk hM'⟩
    · rw [upd_other _ _ _ _ he] at hl' ⊢
      obtain ⟨u, hu, hoku⟩ := h.bks l' bk' hl'
      exact ⟨u, hu, hoku.keep hk hm fun hh b hbv => hb.block b (hoku.lt hh hbv).1⟩
  · intro a b va vb c ha hb' hga hgb hca hcb
    have old : ∀ n u c, n ≠ l → hot (upd blk l (some bk) n) = true → upd g l (some v) n = some u → blkOf u = some c → c < w.heap.size := by
      intro n u c hn h1 h2 h3
      rw [upd_other _ _ _ _ hn] at h1 h2
      exact h.mlt (.inr ⟨n, u, h1, h2, h3⟩)
    by_cases hal : a = l
    · by_cases hbl' : b = l
      · rw [hal, hbl']
      · have h1 := old b vb c hbl' hb' hgb hcb
        subst hal
        rw [upd_same] at hga
        injection hga with hga
        subst hga
        have := hv c hca
        omega
    · by_cases hbl' : b = l
      · have h1 := old a va c hal ha hga hca
        subst hbl'
        rw [upd_same] at hgb
        injection hgb with hgb
        subst hgb
        have := hv c hcb
        omega
      · rw [upd_other _ _ _ _ hal] at ha hga
        rw [upd_other _ _ _ _ hbl'] at hb' hgb
        exact h.sep a b va vb c ha hb' hga hgb hca hcb
  · intro n u hn
    by_cases he : n = l
    · exact .inr he
    · rw [upd_other _ _ _ _ he] at hn
      exact .inl (h.al n u hn)
  · intro n u hn
    by_cases he : n = l
    · subst he
      rw [upd_same] at hn
      injection hn with hn
      subst hn
      exact (hok _ hk hM').isRef
    · rw [upd_other _ _ _ _ he] at hn
      exact h.refs n u hn

/-- A block of the call's own has been written. -/
theorem Hp.write (h : Hp S w0 N blk g al w) {l b : Nat} {bk bk' : Bk D} {v : Value} (hl : blk l = some bk) (hh : hot (some bk) = true) (hh' : hot (some bk') = true) (hg : g l = some v) (hv : blkOf v = some b)
    (hos : w'.os = w.os) (htp : w'.tape = w.tape) (hout : w'.output = w.output) (hsz : w'.heap.size = w.heap.size) (hsame : ∀ n, n ≠ b → w'.heap[n]? = w.heap[n]?)
    (hok : Keeps (Mset N blk g) w (Mset N blk g) w' → BkOk S (Mset N blk g) w' g w0 bk' v) :
    Hp S w0 N (upd blk l (some bk')) g al w' ∧ Keeps (Mset N blk g) w (Mset N (upd blk l (some bk')) g) w' := by
  have hsome : ∀ n, hot (upd blk l (some bk') n) = hot (blk n) := by
    intro n
    by_cases he : n = l
    · subst he; simp [upd_same, hl, hh, hh']
    · rw [upd_other _ _ _ _ he]
  have hM : Mset N (upd blk l (some bk')) g = Mset N blk g := by
    funext c
    simp only [Mset, hsome]
  have hmb : Mset N blk g b := .inr ⟨l, v, by rw [hl]; exact hh, hg, hv⟩
  obtain ⟨v', hv', hokv⟩ := h.bks l bk hl
  rw [hg] at hv'
  injection hv' with hv'
  subst hv'
  have hbB := (hokv.lt hh hv).2
  have hk : Keeps (Mset N blk g) w (Mset N blk g) w' := ⟨Nat.le_of_eq hsz.symm, fun c _ hmc => ⟨hmc, hsame c (fun e => hmc (e ▸ hmb))⟩⟩
  refine ⟨⟨⟨hos.trans h.below.os, htp.trans h.below.tape, hout.trans h.below.output, hsz ▸ h.below.size, fun k hk' hx => (hsame k ?_).trans (h.below.block k hk' hx)⟩, h.hN, ?_, ?_, h.al, h.refs, by rw [hM]; exact h.gl.keep hk⟩, hM ▸ hk⟩
  · rintro rfl
    rcases hbB with h1 | h1
    · omega
    · exact hx h1
  · intro n bkn hn
    rw [hM]
    by_cases he : n = l
    · subst he
      rw [upd_same] at hn
      injection hn with hn
      subst hn
      exact ⟨v, hg, hok hk⟩
    · rw [upd_other _ _ _ _ he] at hn
      obtain ⟨u, hu, hoku⟩ := h.bks n bkn hn
      refine ⟨u, hu, hoku.keep hk (More.refl _) fun hhn c hc => hsame c ?_⟩
      rintro rfl
      exact he (h.sep n l u v c (by rw [hn]; exact hhn) (by rw [hl]; exact hh) hu hg hc hv)
  · intro a c va vc d ha hc
    rw [hsome] at ha hc
    exact h.sep a c va vc d ha hc

/-- A block of the call's own is given up, or is written no more. -/
theorem Hp.cool (h : Hp S w0 N blk g al w) (l : Nat) (x : Option (Bk D)) (hx : hot x = false) (hok : ∀ bk, x = some bk → ∃ v, g l = some v ∧ BkOk S (Mset N (upd blk l x) g) w g w0 bk v) :
    Hp S w0 N (upd blk l x) g al w ∧ Keeps (Mset N blk g) w (Mset N (upd blk l x) g) w := by
  have hsub : ∀ n, hot (upd blk l x n) = true → hot (blk n) = true := by
    intro n hn
    by_cases he : n = l
    · subst he; rw [upd_same, hx] at hn; cases hn
    · rwa [upd_other _ _ _ _ he] at hn
  have hk : Keeps (Mset N blk g) w (Mset N (upd blk l x) g) w := by
    refine ⟨Nat.le_refl _, fun b _ hm => ⟨?_, rfl⟩⟩
    rintro (hn | ⟨n, u, h1, h2, h3⟩)
    · exact hm (.inl hn)
    · exact hm (.inr ⟨n, u, hsub n h1, h2, h3⟩)
  refine ⟨⟨h.below, h.hN, fun n bk hn => ?_, fun a c va vc d ha hc => h.sep a c va vc d (hsub a ha) (hsub c hc), h.al, h.refs, h.gl.keep hk⟩, hk⟩
  by_cases hne : n = l
  · subst hne
    rw [upd_same] at hn
    exact hok bk hn
  · rw [upd_other _ _ _ _ hne] at hn
    obtain ⟨u, hu, hoku⟩ := h.bks n bk hn
    exact ⟨u, hu, hoku.keep hk (More.refl _) fun _ _ _ => rfl⟩

/-- A row of the call's own has grown: its value was v, it is v' now, in the old row or in a new block. -/
theorem Hp.move (h : Hp S w0 N blk g al w) {l fr : Nat} {bk' : Bk D} {v v' : Value} (hl : hot (blk l) = true) (hg : g l = some v) (hfr : ¬ al fr)
    (hos : w'.os = w.os) (htp : w'.tape = w.tape) (hout : w'.output = w.output) (hsz : w.heap.size ≤ w'.heap.size) (hsame : ∀ n, n < w.heap.size → blkOf v ≠ some n → w'.heap[n]? = w.heap[n]?)
    (hv' : ∀ b, blkOf v' = some b → blkOf v = some b ∨ w.heap.size ≤ b)
    (hok : ∀ M', Keeps (Mset N blk g) w M' w' → (∀ c, M' c → Mset N blk g c ∨ blkOf v' = some c) → BkOk S M' w' (upd g fr (some v')) w0 bk' v') :
    Hp S w0 N (upd (upd blk l none) fr (some bk')) (upd g fr (some v')) (fun n => al n ∨ n = fr) w' ∧ Keeps (Mset N blk g) w (Mset N (upd (upd blk l none) fr (some bk')) (upd g fr (some v'))) w' ∧ More g (upd g fr (some v')) := by
  have hgl : g fr = none := by
    cases hg : g fr with
    | none => rfl
    | some u => exact absurd (h.al fr u hg) hfr
  have hm : More g (upd g fr (some v')) := fun n u hn => by
    rw [upd_other _ _ _ _ (by rintro rfl; rw [hgl] at hn; cases hn)]
    exact hn
  have hsub : ∀ n, n ≠ fr → hot (upd (upd blk l none) fr (some bk') n) = true → n ≠ l ∧ hot (blk n) = true := by
    intro n hn h1
    rw [upd_other _ _ _ _ hn] at h1
    by_cases he : n = l
    · subst he; rw [upd_same] at h1; simp [hot] at h1
    · rw [upd_other _ _ _ _ he] at h1
      exact ⟨he, h1⟩
  have hM' : ∀ c, Mset N (upd (upd blk l none) fr (some bk')) (upd g fr (some v')) c → Mset N blk g c ∨ blkOf v' = some c := by
    rintro c (hnb | ⟨l', u, h1, h2, h3⟩)
    · exact .inl (.inl hnb)
    · by_cases he : l' = fr
      · subst he
        rw [upd_same] at h2
        injection h2 with h2
        subst h2
        exact .inr h3
      · have h1' := (hsub l' he h1).2
        rw [upd_other _ _ _ _ he] at h2
        exact .inl (.inr ⟨l', u, h1', h2, h3⟩)
  have hmv : ∀ b, blkOf v = some b → Mset N blk g b := fun b hb => .inr ⟨l, v, hl, hg, hb⟩
  have hk : Keeps (Mset N blk g) w (Mset N (upd (upd blk l none) fr (some bk')) (upd g fr (some v'))) w' := by
    refine ⟨hsz, fun b hlt hmb => ⟨fun hb => ?_, hsame b hlt fun e => hmb (hmv b e)⟩⟩
    rcases hM' b hb with h1 | h1
    · exact hmb h1
    · rcases hv' b h1 with h2 | h2
      · exact hmb (hmv b h2)
      · omega
  have hmine : ∀ b, blkOf v = some b → w0.Mine b := fun b hb => by
    obtain ⟨bk, _, hh, hok'⟩ := h.at hl hg
    exact (hok'.lt hh hb).2
  refine ⟨⟨⟨hos.trans h.below.os, htp.trans h.below.tape, hout.trans h.below.output, Nat.le_trans h.below.size hsz, fun k hk' hx => (hsame k (Nat.lt_of_lt_of_le hk' h.below.size) ?_).trans (h.below.block k hk' hx)⟩, h.hN, fun n bkn hn => ?_, ?_, ?_, ?_, h.gl.keep hk⟩, hk, hm⟩
  · intro e
    rcases hmine k e with h1 | h1
    · omega
    · exact hx h1
  · by_cases he : n = fr
    · subst he
      rw [upd_same] at hn
      injection hn with hn
      subst hn
      exact ⟨v', upd_same _ _ _, hok _ hk hM'⟩
    · rw [upd_other _ _ _ _ he] at hn ⊢
      have hnl : n ≠ l := by rintro rfl; rw [upd_same] at hn; cases hn
      rw [upd_other _ _ _ _ hnl] at hn
      obtain ⟨u, hu, hoku⟩ := h.bks n bkn hn
      refine ⟨u, hu, hoku.keep hk hm fun hh b hbv => hsame b (hoku.lt hh hbv).1 fun e => ?_⟩
      exact hnl (h.sep n l u v b (by rw [hn]; exact hh) hl hu hg hbv e)
  · have old : ∀ n u c, n ≠ fr → hot (upd (upd blk l none) fr (some bk') n) = true → upd g fr (some v') n = some u → blkOf u = some c → blkOf v' = some c → False := by
      intro n u c hn h1 h2 h3 h4
      obtain ⟨hnl, h1⟩ := hsub n hn h1
      rw [upd_other _ _ _ _ hn] at h2
      rcases hv' c h4 with h5 | h5
      · exact hnl (h.sep n l u v c h1 hl h2 hg h3 h5)
      · have := h.mlt (.inr ⟨n, u, h1, h2, h3⟩)
        omega
    intro a b va vb c ha hb' hga hgb hca hcb
    by_cases hal : a = fr
    · by_cases hbl' : b = fr
      · rw [hal, hbl']
      · subst hal
        rw [upd_same] at hga
        injection hga with hga
        subst hga
        exact (old b vb c hbl' hb' hgb hcb hca).elim
    · by_cases hbl' : b = fr
      · subst hbl'
        rw [upd_same] at hgb
        injection hgb with hgb
        subst hgb
        exact (old a va c hal ha hga hca hcb).elim
      · have ha := (hsub a hal ha).2
        have hb' := (hsub b hbl' hb').2
        rw [upd_other _ _ _ _ hal] at hga
        rw [upd_other _ _ _ _ hbl'] at hgb
        exact h.sep a b va vb c ha hb' hga hgb hca hcb
  · intro n u hn
    by_cases he : n = fr
    · exact .inr he
    · rw [upd_other _ _ _ _ he] at hn
      exact .inl (h.al n u hn)
  · intro n u hn
    by_cases he : n = fr
    · subst he
      rw [upd_same] at hn
      injection hn with hn
      subst hn
      exact (hok _ hk hM').isRef
    · rw [upd_other _ _ _ _ he] at hn
      exact h.refs n u hn
end
end Go.Vc
