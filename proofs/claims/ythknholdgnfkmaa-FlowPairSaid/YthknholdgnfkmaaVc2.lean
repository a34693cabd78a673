/-
  Own engine, part 2: the heap of a call, as blocks of its own and data that stay; what each kind of step does to it.
-/
import Derived.Test.YthknholdgnfkmaaVc1
namespace Go.Vc
open Go.RowKit
set_option linter.unusedVariables false

def upd {α : Type} (f : Nat → α) (k : Nat) (v : α) : Nat → α := fun n => if n = k then v else f n
theorem upd_same {α : Type} (f : Nat → α) (k : Nat) (v : α) : upd f k v k = v := by simp [upd]
theorem upd_other {α : Type} (f : Nat → α) (k n : Nat) (v : α) (h : n ≠ k) : upd f k v n = f n := by simp [upd, h]

def blkOf : Value → Option Nat
  | .pointer (some a) => some a.block
  | .slice (some a) _ _ => some a.block
  | _ => none

def isRef : Value → Bool
  | .pointer _ | .slice _ _ _ => true
  | _ => false

def BkOk {D : Type} (S : Sh D) (M : Nat → Prop) (w : World) (g : Nat → Option Value) (B : Nat) : Bk D → Value → Prop
  | .cells cs, v => ∃ b vs t, v = .pointer (some ⟨b, 0, none⟩) ∧ B ≤ b ∧ w.heap[b]? = some (.cells (List.toArray vs) t (0, 0)) ∧ LfsRel S M w g cs vs
  | .row e d, v => ∃ xs, w.ownsRow B e (S.size d) v (S.len d) xs ∧
      ∀ i j, i < S.len d → j < S.size d → ∃ u, xs[i * S.size d + j]? = some u ∧ (S.cell d i j).isData = true ∧ (S.cell d i j).Rel S M w g u

def Mset {D : Type} (N : Nat → Prop) (blk : Nat → Option (Bk D)) (g : Nat → Option Value) : Nat → Prop :=
  fun b => N b ∨ ∃ l v, (blk l).isSome = true ∧ g l = some v ∧ blkOf v = some b

structure Hp {D : Type} (S : Sh D) (w0 : World) (N : Nat → Prop) (blk : Nat → Option (Bk D)) (g : Nat → Option Value) (al : Nat → Prop) (w : World) : Prop where
  below : Below w0.heap.size w0 w
  hN : ∀ b, N b → b < w0.heap.size
  bks : ∀ l bk, blk l = some bk → ∃ v, g l = some v ∧ BkOk S (Mset N blk g) w g w0.heap.size bk v
  sep : ∀ l l' v v' b, (blk l).isSome = true → (blk l').isSome = true → g l = some v → g l' = some v' → blkOf v = some b → blkOf v' = some b → l = l'
  al : ∀ l v, g l = some v → al l
  refs : ∀ l v, g l = some v → isRef v = true

section
variable {D : Type} {S : Sh D} {M M' N : Nat → Prop} {w w' w0 : World} {g g' : Nat → Option Value} {blk : Nat → Option (Bk D)} {al : Nat → Prop} {B : Nat}

theorem heap_lt {w : World} {b : Nat} {o : Obj} (h : w.heap[b]? = some o) : b < w.heap.size := by
  rcases Nat.lt_or_ge b w.heap.size with hl | hl
  · exact hl
  · rw [Array.getElem?_eq_none hl] at h; cases h

theorem BkOk.lt {bk : Bk D} {v : Value} {b : Nat} (h : BkOk S M w g B bk v) (hb : blkOf v = some b) : b < w.heap.size ∧ B ≤ b := by
  cases bk with
  | cells cs =>
    obtain ⟨b', vs, t, rfl, hB, hh, _⟩ := h
    simp only [blkOf, Option.some.injEq] at hb
    subst hb
    exact ⟨heap_lt hh, hB⟩
  | row e d =>
    obtain ⟨xs, ⟨_, h⟩, _⟩ := h
    rcases h with ⟨rfl, _⟩ | ⟨g', cap, cur, rfl, hB, hh, _⟩
    · simp [blkOf] at hb
    · simp only [blkOf, Option.some.injEq] at hb
      subst hb
      exact ⟨heap_lt hh, hB⟩

theorem BkOk.isRef {bk : Bk D} {v : Value} (h : BkOk S M w g B bk v) : isRef v = true := by
  cases bk with
  | cells cs => obtain ⟨b', vs, t, rfl, _⟩ := h; rfl
  | row e d =>
    obtain ⟨xs, ⟨_, h⟩, _⟩ := h
    rcases h with ⟨rfl, _⟩ | ⟨g', cap, cur, rfl, _⟩ <;> rfl

theorem BkOk.keep {bk : Bk D} {v : Value} (h : BkOk S M w g B bk v) (k : Keeps M w M' w') (m : More g g') (hb : ∀ b, blkOf v = some b → w'.heap[b]? = w.heap[b]?) : BkOk S M' w' g' B bk v := by
  cases bk with
  | cells cs =>
    obtain ⟨b, vs, t, rfl, hB, hh, hr⟩ := h
    exact ⟨b, vs, t, rfl, hB, (hb b rfl).trans hh, hr.keep k m⟩
  | row e d =>
    obtain ⟨xs, ⟨hl, h⟩, hc⟩ := h
    refine ⟨xs, ⟨hl, ?_⟩, fun i j hi hj => ?_⟩
    · rcases h with h | ⟨g', cap, cur, rfl, hB, hh, hrest⟩
      · exact .inl h
      · exact .inr ⟨g', cap, cur, rfl, hB, (hb g' rfl).trans hh, hrest⟩
    · obtain ⟨u, h1, h2, h3⟩ := hc i j hi hj
      exact ⟨u, h1, h2, h3.keep k m⟩

theorem Keeps.refl (M : Nat → Prop) (w : World) : Keeps M w M w := ⟨Nat.le_refl _, fun _ _ h => ⟨h, rfl⟩⟩

theorem Hp.mlt (h : Hp S w0 N blk g al w) {b : Nat} (hb : Mset N blk g b) : b < w.heap.size := by
  rcases hb with hb | ⟨l, v, h1, h2, h3⟩
  · exact Nat.lt_of_lt_of_le (h.hN b hb) h.below.size
  · obtain ⟨bk, hbk⟩ := Option.isSome_iff_exists.1 h1
    obtain ⟨v', hv', hok⟩ := h.bks l bk hbk
    rw [h2] at hv'
    injection hv' with hv'
    subst hv'
    exact (hok.lt h3).1

/-- Nothing that was there has turned; the call's blocks are as they were. -/
theorem Hp.grow (h : Hp S w0 N blk g al w) (hb : Below w.heap.size w w') : Hp S w0 N blk g al w' ∧ Keeps (Mset N blk g) w (Mset N blk g) w' := by
  have hk : Keeps (Mset N blk g) w (Mset N blk g) w' := ⟨hb.size, fun b hlt hm => ⟨hm, hb.block b hlt⟩⟩
  refine ⟨⟨h.below.trans (hb.mono h.below.size), h.hN, fun l bk hl => ?_, h.sep, h.al, h.refs⟩, hk⟩
  obtain ⟨v, hv, hok⟩ := h.bks l bk hl
  exact ⟨v, hv, hok.keep hk (More.refl _) fun b hbv => hb.block b (hok.lt hbv).1⟩

/-- A new block of the call's own, whose value v tells where it lies: from the heap's old end on. -/
theorem Hp.add (h : Hp S w0 N blk g al w) (hb : Below w.heap.size w w') {l : Nat} {bk : Bk D} {v : Value} (hl : ¬ al l) (hv : ∀ b, blkOf v = some b → w.heap.size ≤ b)
    (hok : ∀ M', Keeps (Mset N blk g) w M' w' → (∀ c, M' c → Mset N blk g c ∨ blkOf v = some c) → BkOk S M' w' (upd g l (some v)) w0.heap.size bk v) :
    Hp S w0 N (upd blk l (some bk)) (upd g l (some v)) (fun n => al n ∨ n = l) w' ∧ Keeps (Mset N blk g) w (Mset N (upd blk l (some bk)) (upd g l (some v))) w' ∧ More g (upd g l (some v)) := by
  have hgl : g l = none := by
    cases hg : g l with
    | none => rfl
    | some u => exact absurd (h.al l u hg) hl
  have hbl : blk l = none := by
    cases hx : blk l with
    | none => rfl
    | some bk' =>
      obtain ⟨u, hu, _⟩ := h.bks l bk' hx
      rw [hgl] at hu
      cases hu
  have hm : More g (upd g l (some v)) := fun n u hn => by
    rw [upd_other _ _ _ _ (by rintro rfl; rw [hgl] at hn; cases hn)]
    exact hn
  have hk : Keeps (Mset N blk g) w (Mset N (upd blk l (some bk)) (upd g l (some v))) w' := by
    refine ⟨hb.size, fun b hlt hmb => ⟨?_, hb.block b hlt⟩⟩
    rintro (hnb | ⟨l', u, h1, h2, h3⟩)
    · exact hmb (.inl hnb)
    · by_cases he : l' = l
      · subst he
        rw [upd_same] at h2
        injection h2 with h2
        subst h2
        exact absurd (hv b h3) (by omega)
      · rw [upd_other _ _ _ _ he] at h1 h2
        exact hmb (.inr ⟨l', u, h1, h2, h3⟩)
  have hM' : ∀ c, Mset N (upd blk l (some bk)) (upd g l (some v)) c → Mset N blk g c ∨ blkOf v = some c := by
    rintro c (hnb | ⟨l', u, h1, h2, h3⟩)
    · exact .inl (.inl hnb)
    · by_cases he : l' = l
      · subst he
        rw [upd_same] at h2
        injection h2 with h2
        subst h2
        exact .inr h3
      · rw [upd_other _ _ _ _ he] at h1 h2
        exact .inl (.inr ⟨l', u, h1, h2, h3⟩)
  refine ⟨⟨h.below.trans (hb.mono h.below.size), h.hN, fun l' bk' hl' => ?_, ?_, ?_, ?_⟩, hk, hm⟩
  · by_cases he : l' = l
    · subst he
      rw [upd_same] at hl'
      injection hl' with hl'
      subst hl'
      exact ⟨v, upd_same _ _ _, hok _ hk hM'⟩
    · rw [upd_other _ _ _ _ he] at hl' ⊢
      obtain ⟨u, hu, hoku⟩ := h.bks l' bk' hl'
      exact ⟨u, hu, hoku.keep hk hm fun b hbv => hb.block b (hoku.lt hbv).1⟩
  · intro a b va vb c ha hb' hga hgb hca hcb
    have old : ∀ n u c, n ≠ l → (upd blk l (some bk) n).isSome = true → upd g l (some v) n = some u → blkOf u = some c → c < w.heap.size := by
      intro n u c hn h1 h2 h3
      rw [upd_other _ _ _ _ hn] at h1 h2
      exact h.mlt (.inr ⟨n, u, h1, h2, h3⟩)
    by_cases hal : a = l
    · by_cases hbl' : b = l
      · rw [hal, hbl']
      · have h1 := old b vb c hbl' hb' hgb hcb
        subst hal
        rw [upd_same] at hga
        injection hga with hga
        subst hga
        have := hv c hca
        omega
    · by_cases hbl' : b = l
      · have h1 := old a va c hal ha hga hca
        subst hbl'
        rw [upd_same] at hgb
        injection hgb with hgb
        subst hgb
        have := hv c hcb
        omega
      · rw [upd_other _ _ _ _ hal] at ha hga
        rw [upd_other _ _ _ _ hbl'] at hb' hgb
        exact h.sep a b va vb c ha hb' hga hgb hca hcb
  · intro n u hn
    by_cases he : n = l
    · exact .inr he
    · rw [upd_other _ _ _ _ he] at hn
      exact .inl (h.al n u hn)
  · intro n u hn
    by_cases he : n = l
    · subst he
      rw [upd_same] at hn
      injection hn with hn
      subst hn
      exact (hok _ hk hM').isRef
    · rw [upd_other _ _ _ _ he] at hn
      exact h.refs n u hn

/-- A block of the call's own has been written. -/
theorem Hp.write (h : Hp S w0 N blk g al w) {l b : Nat} {bk bk' : Bk D} {v : Value} (hl : blk l = some bk) (hg : g l = some v) (hv : blkOf v = some b)
    (hos : w'.os = w.os) (htp : w'.tape = w.tape) (hout : w'.output = w.output) (hsz : w'.heap.size = w.heap.size) (hsame : ∀ n, n ≠ b → w'.heap[n]? = w.heap[n]?)
    (hok : Keeps (Mset N blk g) w (Mset N blk g) w' → BkOk S (Mset N blk g) w' g w0.heap.size bk' v) :
    Hp S w0 N (upd blk l (some bk')) g al w' ∧ Keeps (Mset N blk g) w (Mset N (upd blk l (some bk')) g) w' := by
  have hsome : ∀ n, (upd blk l (some bk') n).isSome = (blk n).isSome := by
    intro n
    by_cases he : n = l
    · subst he; simp [upd_same, hl]
    · rw [upd_other _ _ _ _ he]
  have hM : Mset N (upd blk l (some bk')) g = Mset N blk g := by
    funext c
    simp only [Mset, hsome]
  have hmb : Mset N blk g b := .inr ⟨l, v, by simp [hl], hg, hv⟩
  obtain ⟨v', hv', hokv⟩ := h.bks l bk hl
  rw [hg] at hv'
  injection hv' with hv'
  subst hv'
  have hbB := (hokv.lt hv).2
  have hk : Keeps (Mset N blk g) w (Mset N blk g) w' := ⟨Nat.le_of_eq hsz.symm, fun c _ hmc => ⟨hmc, hsame c (fun e => hmc (e ▸ hmb))⟩⟩
  refine ⟨⟨⟨hos.trans h.below.os, htp.trans h.below.tape, hout.trans h.below.output, hsz ▸ h.below.size, fun k hk' => (hsame k (by omega)).trans (h.below.block k hk')⟩, h.hN, ?_, ?_, h.al, h.refs⟩, hM ▸ hk⟩
  · intro n bkn hn
    rw [hM]
    by_cases he : n = l
    · subst he
      rw [upd_same] at hn
      injection hn with hn
      subst hn
      exact ⟨v, hg, hok hk⟩
    · rw [upd_other _ _ _ _ he] at hn
      obtain ⟨u, hu, hoku⟩ := h.bks n bkn hn
      refine ⟨u, hu, hoku.keep hk (More.refl _) fun c hc => hsame c ?_⟩
      rintro rfl
      exact he (h.sep n l u v c (by simp [hn]) (by simp [hl]) hu hg hc hv)
  · intro a c va vc d ha hc
    rw [hsome] at ha hc
    exact h.sep a c va vc d ha hc

/-- A block of the call's own is given up: it is written no more. -/
theorem Hp.drop (h : Hp S w0 N blk g al w) (l : Nat) : Hp S w0 N (upd blk l none) g al w ∧ Keeps (Mset N blk g) w (Mset N (upd blk l none) g) w := by
  have hsub : ∀ n, (upd blk l none n).isSome = true → (blk n).isSome = true := by
    intro n hn
    by_cases he : n = l
    · subst he; simp [upd_same] at hn
    · rwa [upd_other _ _ _ _ he] at hn
  have hk : Keeps (Mset N blk g) w (Mset N (upd blk l none) g) w := by
    refine ⟨Nat.le_refl _, fun b _ hm => ⟨?_, rfl⟩⟩
    rintro (hn | ⟨n, u, h1, h2, h3⟩)
    · exact hm (.inl hn)
    · exact hm (.inr ⟨n, u, hsub n h1, h2, h3⟩)
  refine ⟨⟨h.below, h.hN, fun n bk hn => ?_, fun a c va vc d ha hc => h.sep a c va vc d (hsub a ha) (hsub c hc), h.al, h.refs⟩, hk⟩
  have hne : n ≠ l := by rintro rfl; rw [upd_same] at hn; cases hn
  rw [upd_other _ _ _ _ hne] at hn
  obtain ⟨u, hu, hoku⟩ := h.bks n bk hn
  exact ⟨u, hu, hoku.keep hk (More.refl _) fun _ _ => rfl⟩
end
end Go.Vc
