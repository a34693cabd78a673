/-
  Own engine, part 9: calls: what the arguments reach is lent to the callee.
-/
import Derived.Test.YtemjcccdcnhmhaaGreatDoorVdr
namespace Go.Vc
open Go.RowKit
set_option linter.unusedVariables false

section
variable {D : Type} {P : Program} {S : Sh D} {T : TypeId → Option Ty} {Γ : FuncId → Option (Ct D)} {M M' N : Nat → Prop} {w w' : World} {w0 : Bs} {g g' : Nat → Option Value} {blk : Nat → Option (Bk D)} {al : Nat → Prop}
  {a : Act} {o : Oper} {K : Act → World → Prop} {Q : Exit → Act → World → Prop} {slot : Nat → Sl D} {out : Out D} {fr : Nat} {ids vids : List Nat}

theorem memB_iff {l : Nat} : ∀ {ids : List Nat}, memB l ids = true ↔ l ∈ ids
  | [] => by simp [memB]
  | x :: r => by
    simp only [memB, Bool.or_eq_true, memB_iff, List.mem_cons]
    constructor
    · rintro (h | h)
      · exact .inl (Nat.eq_of_beq_eq_true h).symm
      · exact .inr h
    · rintro (rfl | h)
      · exact .inl (by simp)
      · exact .inr h
theorem addNew_nodup : ∀ (r ids : List Nat), ids.Nodup → (addNew ids r).Nodup
  | [], ids, h => h
  | l :: r, ids, h => by
    unfold addNew
    refine addNew_nodup r _ ?_
    split
    · exact h
    · rename_i hn
      rw [List.nodup_append]
      refine ⟨h, by simp, fun x hx y hy => ?_⟩
      simp at hy
      subst hy
      rintro rfl
      exact hn (memB_iff.2 hx)
theorem reach_nodup : ∀ (n : Nat) (ids : List Nat), ids.Nodup → (reach blk n ids).Nodup
  | 0, ids, h => h
  | n + 1, ids, h => reach_nodup n _ (addNew_nodup _ _ h)
theorem allIn_mem : ∀ {r : List Nat}, allIn ids r = true → ∀ l ∈ r, l ∈ ids
  | [], _, l, hl => by simp at hl
  | x :: r, h, l, hl => by
    simp only [allIn, Bool.and_eq_true] at h
    rcases List.mem_cons.1 hl with rfl | hl
    · exact memB_iff.1 h.1
    · exact allIn_mem h.2 l hl
theorem getAll_spec : ∀ {ids : List Nat} {bks : List (Bk D)}, getAll blk ids = some bks → bks.length = ids.length ∧ ∀ (i l : Nat), ids[i]? = some l → ∃ bk, blk l = some bk ∧ bks[i]? = some bk
  | [], bks, h => by simp [getAll] at h; subst h; simp
  | x :: r, bks, h => by
    unfold getAll at h
    split at h
    · rename_i b bs hb hbs
      injection h with h
      subst h
      obtain ⟨h1, h2⟩ := getAll_spec hbs
      refine ⟨by simp [h1], fun i l hi => ?_⟩
      cases i with
      | zero => simp at hi; subst hi; exact ⟨b, hb, rfl⟩
      | succ i => exact h2 i l (by simpa using hi)
    · cases h
theorem posIn_get : ∀ {ids : List Nat} {l : Nat}, l ∈ ids → ids[posIn ids l]? = some l
  | [], l, h => by simp at h
  | x :: r, l, h => by
    unfold posIn
    split
    · rename_i he; rw [Nat.eq_of_beq_eq_true he]; rfl
    · rename_i he
      have : l ∈ r := by
        rcases List.mem_cons.1 h with rfl | h
        · simp at he
        · exact h
      simpa using posIn_get this
theorem posIn_of (hn : ids.Nodup) {i l : Nat} (h : ids[i]? = some l) : posIn ids l = i := by
  have hm : l ∈ ids := List.mem_of_getElem? h
  have h2 := posIn_get hm
  have hi := (List.getElem?_eq_some_iff.1 h).1
  have hj := (List.getElem?_eq_some_iff.1 h2).1
  have e1 := (List.getElem?_eq_some_iff.1 h).2
  have e2 := (List.getElem?_eq_some_iff.1 h2).2
  exact (List.getElem_inj hn).1 (e2.trans e1.symm)

/-! ### other names for the blocks -/
theorem caps_ren {f : Nat → Nat} : ∀ {caps : List Nat} {vs : List Value}, (∀ l ∈ caps, ∀ v, g l = some v → g' (f l) = some v) → caps.map g = vs.map some → (caps.map f).map g' = vs.map some
  | [], [], _, _ => rfl
  | c :: caps, v :: vs, hf, h => by
    simp only [List.map_cons, List.cons.injEq] at h ⊢
    exact ⟨hf c (by simp) v h.1, caps_ren (fun l hl => hf l (by simp [hl])) h.2⟩
  | [], _ :: _, _, h => by simp at h
  | _ :: _, [], _, h => by simp at h

theorem Lf.Rel.ren {f : Nat → Nat} {x : Lf D} {v : Value} (h : x.Rel S M w g v) (hf : ∀ l ∈ x.refs, ∀ u, g l = some u → g' (f l) = some u) (hM : x.hasDat = true → ∀ b, M' b → M b) : (x.ren f).Rel S M' w g' v := by
  cases x with
  | ptr l o => obtain ⟨b, h1, h2⟩ := h; exact ⟨b, hf l (by simp [Lf.refs]) _ h1, h2⟩
  | own l => exact hf l (by simp [Lf.refs]) _ h
  | opt l i j sz => obtain ⟨b, n, cap, h1, h2⟩ := h; exact ⟨b, n, cap, hf l (by simp [Lf.refs]) _ h1, h2⟩
  | part l i j sz f => obtain ⟨a, n, cap, h1, h2⟩ := h; exact ⟨a, n, cap, hf l (by simp [Lf.refs]) _ h1, h2⟩
  | glb i => exact h
  | ifc x => exact h
  | fn f' caps => obtain ⟨vs, h1, h2⟩ := h; exact ⟨vs, h1, caps_ren hf h2⟩
  | dat d => exact DatOk.mono h (hM rfl)
  | elt d i j => obtain ⟨a, n, cap, h1, h2⟩ := h; exact ⟨a, n, cap, h1.mono (hM rfl), h2⟩
  | any => trivial
  | unk p => exact h
  | val x => exact h
  | bool b => exact h
  | int k n => exact h
  | str s => exact h
theorem LfsRel.ren {f : Nat → Nat} : ∀ {xs : List (Lf D)} {vs : List Value}, LfsRel S M w g xs vs → (∀ l ∈ xs.flatMap Lf.refs, ∀ u, g l = some u → g' (f l) = some u) → (xs.any Lf.hasDat = true → ∀ b, M' b → M b) → LfsRel S M' w g' (xs.map (Lf.ren f)) vs
  | [], [], _, _, _ => trivial
  | x :: xs, v :: vs, h, hf, hM => by
    simp only [List.any_cons, Bool.or_eq_true] at hM
    exact ⟨h.1.ren (fun l hl => hf l (by simp [hl])) (fun hd => hM (.inl hd)), LfsRel.ren h.2 (fun l hl => hf l (by simp at hl ⊢; exact .inr hl)) (fun hd => hM (.inr hd))⟩
theorem Sv.Rel.ren {f : Nat → Nat} {x : Sv D} {v : Value} (h : x.Rel S M w g v) (hf : ∀ l ∈ x.refs, ∀ u, g l = some u → g' (f l) = some u) (hM : x.hasDat = true → ∀ b, M' b → M b) : (x.ren f).Rel S M' w g' v := by
  cases x with
  | lf x => exact Lf.Rel.ren h hf hM
  | agg xs => obtain ⟨vs, h1, h2⟩ := h; exact ⟨vs, h1, h2.ren hf hM⟩
theorem SvsRel.ren {f : Nat → Nat} : ∀ {xs : List (Sv D)} {vs : List Value}, SvsRel S M w g xs vs → (∀ l ∈ xs.flatMap Sv.refs, ∀ u, g l = some u → g' (f l) = some u) → (xs.any Sv.hasDat = true → ∀ b, M' b → M b) → SvsRel S M' w g' (xs.map (Sv.ren f)) vs
  | [], [], _, _, _ => trivial
  | x :: xs, v :: vs, h, hf, hM => by
    simp only [List.any_cons, Bool.or_eq_true] at hM
    exact ⟨h.1.ren (fun l hl => hf l (by simp [hl])) (fun hd => hM (.inl hd)), SvsRel.ren h.2 (fun l hl => hf l (by simp at hl ⊢; exact .inr hl)) (fun hd => hM (.inr hd))⟩
theorem Sl.Rel.ren {f : Nat → Nat} {x : Sl D} {v : Value} (h : x.Rel S M w g v) (hf : ∀ l ∈ x.refs, ∀ u, g l = some u → g' (f l) = some u) (hM : x.hasDat = true → ∀ b, M' b → M b) : (x.ren f).Rel S M' w g' v := by
  cases x with
  | one x => exact Sv.Rel.ren h hf hM
  | tup xs => obtain ⟨vs, h1, h2⟩ := h; exact ⟨vs, h1, h2.ren hf hM⟩

theorem hot_ren {f : Nat → Nat} (x : Option (Bk D)) : hot (x.map (Bk.ren f)) = hot x := by
  cases x with
  | none => rfl
  | some bk => cases bk <;> rfl

theorem isData_ren {f : Nat → Nat} {x : Lf D} (h : x.isData = true) : x.ren f = x := by cases x <;> first | rfl | simp [Lf.isData] at h
theorem isData_refs {x : Lf D} (h : x.isData = true) : x.refs = [] := by cases x <;> first | rfl | simp [Lf.isData] at h

theorem BkOk.ren {f : Nat → Nat} {B B' : Bs} {bk : Bk D} {v : Value} (h : BkOk S M w g B bk v) (hf : ∀ l ∈ bk.refs, ∀ u, g l = some u → g' (f l) = some u) (hM : bk.hasDat = true → ∀ b, M' b → M b)
    (hB : hot (some bk) = true → ∀ b, blkOf v = some b → B'.Mine b) : BkOk S M' w g' B' (bk.ren f) v := by
  cases bk with
  | cells cs =>
    obtain ⟨b, vs, t, rfl, _, hh, hr⟩ := h
    exact ⟨b, vs, t, rfl, hB rfl b rfl, hh, hr.ren hf hM⟩
  | row e d =>
    obtain ⟨hm, xs, hown, hc⟩ := h
    refine ⟨⟨hB rfl, hm.2⟩, xs, hown, fun i j hi hj => ?_⟩
    obtain ⟨u, h1, h2, h3⟩ := hc i j hi hj
    have := h3.ren (g' := g') (M' := M') (f := f) (fun l hl => by rw [isData_refs h2] at hl; simp at hl) (fun _ => hM rfl)
    rw [isData_ren h2] at this
    exact ⟨u, h1, h2, this⟩
  | ice d => exact DatOk.mono h (hM rfl)
  | iter s p =>
    obtain ⟨hl, b, rfl, _, hh⟩ := h
    exact ⟨hl, b, rfl, hB rfl b rfl, hh⟩

/-! ### what is lent -/
def Nc (N : Nat → Prop) (blk : Nat → Option (Bk D)) (g : Nat → Option Value) (ids vids : List Nat) : Nat → Prop :=
  fun b => N b ∨ ∃ l v, hot (blk l) = true ∧ l ∉ ids ∧ l ∉ vids ∧ g l = some v ∧ blkOf v = some b
def Xc (blk : Nat → Option (Bk D)) (g : Nat → Option Value) (ids : List Nat) : Nat → Prop := fun b => ∃ l v, hot (blk l) = true ∧ l ∈ ids ∧ g l = some v ∧ blkOf v = some b
def gc (g : Nat → Option Value) (ids : List Nat) : Nat → Option Value := fun i => (ids[i]?).bind g

theorem gc_pos {l : Nat} (h : l ∈ ids) : gc g ids (posIn ids l) = g l := by simp [gc, posIn_get h]

theorem Hp.mine (h : Hp S w0 N blk g al w) {l b : Nat} {v : Value} (h1 : hot (blk l) = true) (h2 : g l = some v) (h3 : blkOf v = some b) : b < w.heap.size ∧ w0.Mine b := by
  obtain ⟨bk, _, hh, hok⟩ := h.at h1 h2
  exact hok.lt hh h3

theorem Hp.notN (h : Hp S w0 N blk g al w) {l b : Nat} {v : Value} (h1 : hot (blk l) = true) (h2 : g l = some v) (h3 : blkOf v = some b) : ¬ N b := fun hn => by
  obtain ⟨q1, q2⟩ := h.hN b hn
  rcases (h.mine h1 h2 h3).2 with q | q
  · omega
  · exact q2 q

theorem tab_at {bks : List (Bk D)} (hg : getAll blk ids = some bks) {f : Nat → Nat} {i : Nat} {bk : Bk D} (h : tabOf (bks.map (Bk.ren f)) i = some bk) : ∃ l bk0, ids[i]? = some l ∧ blk l = some bk0 ∧ bk0 ∈ bks ∧ bk = bk0.ren f := by
  obtain ⟨hl, hat⟩ := getAll_spec hg
  simp only [tabOf, List.getElem?_map, Option.map_eq_some_iff] at h
  obtain ⟨bk0, h0, rfl⟩ := h
  have hi : i < ids.length := by rw [← hl]; exact (List.getElem?_eq_some_iff.1 h0).1
  obtain ⟨bk1, h1, h2⟩ := hat i ids[i] (List.getElem?_eq_getElem hi)
  rw [h0] at h2
  injection h2 with h2
  subst h2
  exact ⟨ids[i], bk0, List.getElem?_eq_getElem hi, h1, List.mem_of_getElem? h0, rfl⟩

theorem mset_sub {bks : List (Bk D)} (hg : getAll blk ids = some bks) {f : Nat → Nat} : ∀ b, Mset (Nc N blk g ids vids) (tabOf (bks.map (Bk.ren f))) (gc g ids) b → Mset N blk g b ∧ (N b ∨ ∃ l v, hot (blk l) = true ∧ l ∉ vids ∧ g l = some v ∧ blkOf v = some b ∨ l ∈ ids ∧ hot (blk l) = true ∧ g l = some v ∧ blkOf v = some b) := by
  rintro b ((hb | ⟨l, v, h1, h2, h3, h4, h5⟩) | ⟨i, v, h1, h2, h3⟩)
  · exact ⟨.inl hb, .inl hb⟩
  · exact ⟨.inr ⟨l, v, h1, h4, h5⟩, .inr ⟨l, v, .inl ⟨h1, h3, h4, h5⟩⟩⟩
  · obtain ⟨bk, hbk, hh⟩ := hot_some h1
    obtain ⟨l, bk0, hl, hb0, _, rfl⟩ := tab_at hg hbk
    have hgl : g l = some v := by simpa [gc, hl] using h2
    have hh0 : hot (blk l) = true := by rw [hb0]; have := hot_ren (f := f) (some bk0); simp only [Option.map_some] at this; rw [← this]; exact hh
    exact ⟨.inr ⟨l, v, hh0, hgl, h3⟩, .inr ⟨l, v, .inr ⟨List.mem_of_getElem? hl, hh0, hgl, h3⟩⟩⟩

theorem Hp.lend (h : Hp S w0 N blk g al w) {bks : List (Bk D)} (hn : ids.Nodup) (hg : getAll blk ids = some bks) (hrefs : ∀ bk ∈ bks, ∀ l ∈ bk.refs, l ∈ ids) (hv : ∀ l ∈ vids, l ∉ ids) :
    Hp S ⟨w, Xc blk g ids⟩ (Nc N blk g ids vids) (tabOf (bks.map (Bk.ren (posIn ids)))) (gc g ids) (· < (bks.map (Bk.ren (posIn ids))).length) w := by
  obtain ⟨hlen, hat⟩ := getAll_spec hg
  refine ⟨BelowX.refl ⟨w, Xc blk g ids⟩, ?_, ?_, ?_, ?_, ?_, h.gl.mono fun b hb => (mset_sub hg b hb).1⟩
  · rintro b (hb | ⟨l, v, h1, h2, h3, h4, h5⟩)
    · refine ⟨h.mlt (.inl hb), ?_⟩
      rintro ⟨l, v, h1, h2, h3, h4⟩
      exact h.notN h1 h3 h4 hb
    · refine ⟨h.mlt (.inr ⟨l, v, h1, h4, h5⟩), ?_⟩
      rintro ⟨l', v', q1, q2, q3, q4⟩
      have := h.sep l l' v v' b h1 q1 h4 q3 h5 q4
      subst this
      exact h2 q2
  · intro i bk hi
    obtain ⟨l, bk0, hl, hb0, hmem, rfl⟩ := tab_at hg hi
    obtain ⟨v, hv0, hok⟩ := h.bks l bk0 hb0
    refine ⟨v, by simp [gc, hl, hv0], hok.ren (fun l' hl' u hu => ?_) (fun _ b hb => (mset_sub hg b hb).1) (fun hh b hb => .inr ⟨l, v, by rw [hb0]; exact hh, List.mem_of_getElem? hl, hv0, hb⟩)⟩
    rw [gc_pos (hrefs _ hmem l' hl')]
    exact hu
  · intro i j vi vj b hi hj hgi hgj hbi hbj
    obtain ⟨bki, hbki, hhi⟩ := hot_some hi
    obtain ⟨bkj, hbkj, hhj⟩ := hot_some hj
    obtain ⟨l, bk0, hl, hb0, _, rfl⟩ := tab_at hg hbki
    obtain ⟨l', bk0', hl', hb0', _, rfl⟩ := tab_at hg hbkj
    have e1 : hot (blk l) = true := by rw [hb0]; have := hot_ren (f := posIn ids) (some bk0); simp only [Option.map_some] at this; rw [← this]; exact hhi
    have e2 : hot (blk l') = true := by rw [hb0']; have := hot_ren (f := posIn ids) (some bk0'); simp only [Option.map_some] at this; rw [← this]; exact hhj
    have := h.sep l l' vi vj b e1 e2 (by simpa [gc, hl] using hgi) (by simpa [gc, hl'] using hgj) hbi hbj
    subst this
    rw [← posIn_of hn hl, ← posIn_of hn hl']
  · intro i v hi
    simp only [gc] at hi
    cases hl : ids[i]? with
    | none => rw [hl] at hi; cases hi
    | some l => simp only [List.length_map, hlen]; exact (List.getElem?_eq_some_iff.1 hl).1
  · intro i v hi
    simp only [gc] at hi
    cases hl : ids[i]? with
    | none => rw [hl] at hi; cases hi
    | some l => rw [hl] at hi; exact h.refs l v hi
end
end Go.Vc
