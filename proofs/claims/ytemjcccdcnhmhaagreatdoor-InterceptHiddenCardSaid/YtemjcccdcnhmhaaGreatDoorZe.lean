/-
  Intercept: a valid schema's fields ascend.
-/
import Derived.Test.YtemjcccdcnhmhaaGreatDoorZd
namespace Go.Proofs.YtemjcccdcnhmhaaGreatDoor
open Go.RowKit Go.Vc
set_option linter.unusedVariables false
set_option linter.unusedSimpArgs false
set_option maxRecDepth 100000

theorem add_nil (b : Bool) (n e : Int) (p : ref12_list) : (c12addP b n e p).l = [] ↔ b = false ∧ p.l = [] := by
  unfold c12addP c12add
  cases b <;> simp [Pg.val]
theorem notes_nil (l : List Note) (t n : Int) (p : ref12_list) : (c12notesP l t n p).l = [] ↔ (r8checkP l t != 0) = false ∧ p.l = [] := by
  unfold c12notesP c12notes
  simp only [val_ob, val_lt, val_ret]
  exact add_nil _ _ _ _
theorem forE_back {A R : Type} {b : Nat → A → ref12_list → ref12_list ⊕ R} {f : Nat → ref12_list → R} {d : A} (P : Nat → A → Prop) : ∀ (l : List A) (k : Nat) (y : ref12_list), (∀ j y, j < l.length → ∃ y', b (k + j) (l.getD j d) y = .inl y' ∧ (y'.l = [] → y.l = [] ∧ P (k + j) (l.getD j d))) →
    ∃ yF : ref12_list, forE b f l k y = f (k + l.length) yF ∧ (yF.l = [] → y.l = [] ∧ ∀ j, j < l.length → P (k + j) (l.getD j d))
  | [], k, y, _ => ⟨y, rfl, fun h => ⟨h, fun j hj => by simp at hj⟩⟩
  | a :: l, k, y, h => by
    obtain ⟨y1, e1, h1⟩ := h 0 y (by simp)
    obtain ⟨yF, e2, h2⟩ := forE_back P l (k + 1) y1 fun j y hj => by
      have := h (j + 1) y (by simpa using hj)
      rw [show k + 1 + j = k + (j + 1) by omega]
      exact this
    refine ⟨yF, ?_, fun hF => ?_⟩
    · unfold forE
      have e1 : b k a y = .inl y1 := e1
      rw [e1]
      show forE b f l (k + 1) y1 = _
      rw [e2, List.length_cons]
      congr 1
      omega
    · obtain ⟨h3, h4⟩ := h2 hF
      obtain ⟨h5, h6⟩ := h1 h3
      refine ⟨h5, fun j hj => ?_⟩
      cases j with
      | zero => exact h6
      | succ j =>
        have := h4 j (by simpa using hj)
        rw [show k + 1 + j = k + (j + 1) by omega] at this
        exact this
theorem forN_any {Y R : Type} {b : Int → Y → Y ⊕ R} {f : Int → Y → R} (hb : ∀ i y, ∃ y', b i y = .inl y') : ∀ (n : Nat) (i : Int) (y : Y), ∃ j y', forN b f n i y = f j y'
  | 0, i, y => ⟨i, y, rfl⟩
  | n + 1, i, y => by
    obtain ⟨y1, e⟩ := hb i y
    obtain ⟨j, y2, e2⟩ := forN_any hb n (i + 1) y1
    refine ⟨j, y2, ?_⟩
    unfold forN
    rw [e]
    exact e2
theorem forE_bk {A R : Type} {b : Nat → A → ref12_list → ref12_list ⊕ R} {f : Nat → ref12_list → R} {d : A} (P : Nat → A → Prop) {l : List A} {k : Nat} {y : ref12_list} {r : R} (h : forE b f l k y = r) (hb : ∀ j y, j < l.length → ∃ y', b (k + j) (l.getD j d) y = .inl y' ∧ (y'.l = [] → y.l = [] ∧ P (k + j) (l.getD j d))) :
    ∃ yF : ref12_list, f (k + l.length) yF = r ∧ (yF.l = [] → y.l = [] ∧ ∀ j, j < l.length → P (k + j) (l.getD j d)) := by
  obtain ⟨yF, e, h2⟩ := forE_back (f := f) P l k y hb
  exact ⟨yF, e.symm.trans h, h2⟩
theorem spans_nil (l : List Span) (a b : Int) (p : ref12_list) (h : (c12spansP l a b p).l = []) : p.l = [] := by
  unfold c12spansP c12spans at h
  simp only [val_each, val_ix, val_lt, val_br, val_ob, val_ret] at h
  generalize hr : forE _ _ l 0 p = r at h
  obtain ⟨yF, e, h2⟩ := forE_bk (d := d_Span) (fun _ _ => True) hr fun j y hj => by
    cases decide ((l.getD j d_Span).From < a) <;> cases decide (b < (l.getD j d_Span).To) <;> cases decide ((0 : Int) < (↑(0 + j) : Int)) <;> exact ⟨_, rfl, fun h => ⟨by simp only [add_nil] at h; simp [h], trivial⟩⟩
  exact (h2 (by rw [← e] at h; exact h)).1
theorem forN_all {Y R : Type} {b : Int → Y → Y ⊕ R} {f : Int → Y → R} {Q : R → Prop} {n : Nat} {i : Int} {y : Y} (hb : ∀ i y, ∃ y', b i y = .inl y') (hf : ∀ j y', Q (f j y')) : Q (forN b f n i y) := by
  obtain ⟨j, y', e⟩ := forN_any (f := f) hb n i y
  rw [e]
  exact hf j y'
theorem msg_asc (s : Schema) (m : Message) (fin : List Bool) (h : c12msgP s m fin = []) : ∀ j, j < m.Fields.length → 0 < j → (m.Fields.getD (j - 1) d_AField).Num < (m.Fields.getD j d_AField).Num := by
  unfold c12msgP c12msg at h
  simp only [val_each, val_cnt, val_ix, val_lt, val_br, val_ob, val_ret, val_cut, thenS_inl] at h
  cases h64 : decide ((64 : Int) < (↑m.Fields.length : Int)) <;> rw [h64] at h <;> cases h16 : decide ((16 : Int) < (↑m.Reserved.length : Int)) <;> rw [h16] at h <;> simp only [cond_true, cond_false, thenS_inl] at h
  all_goals
    generalize hr : forE _ _ m.Fields 0 _ = r at h
    obtain ⟨yF, e, h2⟩ := forE_bk (d := d_AField) (fun k a => k ≤ 64 → 0 < k → (m.Fields.getD (k - 1) d_AField).Num < a.Num) hr fun j y hj => by
      refine forN_all (Q := fun r => ∃ y' : ref12_list, r = Sum.inl y' ∧ (y'.l = [] → y.l = [] ∧ (0 + j ≤ 64 → 0 < 0 + j → (m.Fields.getD (0 + j - 1) d_AField).Num < (m.Fields.getD j d_AField).Num))) (fun i y => ?_) (fun i6 y6 => ?_)
      · cases ((m.Fields.getD i.toNat d_AField).Name == (m.Fields.getD j d_AField).Name) <;> exact ⟨_, rfl⟩
      · cases hd1 : decide ((m.Fields.getD j d_AField).Num < 1) <;> cases hk : decide ((0 : Int) < (↑(0 + j) : Int)) <;> cases hr : c12resP m.Reserved (m.Fields.getD j d_AField).Num <;> refine ⟨_, rfl, fun h => ?_⟩ <;> simp only [notes_nil, add_nil, and_assoc] at h
        all_goals
          refine ⟨by simp [h], fun h6 h0 => ?_⟩
          first
          | (exfalso; have := of_decide_eq_false hk; omega)
          | (have hw : wrp .i64 ((↑(0 + j) : Int) - 1) = (↑(0 + j) : Int) - 1 := wrp_in (k := .i64) (by simp only [InR]; omega)
             have ht : ((↑(0 + j) : Int) - 1).toNat = 0 + j - 1 := by omega
             rw [hw, ht] at h
             have hd : decide ((m.Fields.getD j d_AField).Num ≤ (m.Fields.getD (0 + j - 1) d_AField).Num) = false := by simp only [h]
             have := of_decide_eq_false hd
             omega)
    rw [← e, thenS_inl] at h
    obtain ⟨yG, e2, h3⟩ := forE_bk (d := []) (fun _ _ => True) h fun j y hj => ⟨_, rfl, fun h => ⟨((add_nil _ _ _ _).1 h).2, trivial⟩⟩
    simp only [notes_nil, add_nil] at e2
    obtain ⟨hp, hq⟩ := h2 (spans_nil _ _ _ _ (h3 e2.2.2).1)
    simp only [add_nil] at hp
    first
    | (exact absurd hp.1 (by decide))
    | (intro j hj h0
       have := hq j hj (by have := of_decide_eq_false h64; omega)
       rw [Nat.zero_add] at this
       exact this h0)
theorem all_nil (s : Schema) (h : c12validP s = true) : ∀ m ∈ s.Messages, c12msgP s m (c12finP s) = [] := by
  unfold c12validP c12valid at h
  simp only [val_ob, val_ret] at h
  have h : c12allP s = [] := by
    have : (↑(c12allP s).length : Int) = 0 := by simpa using h
    exact List.length_eq_zero_iff.1 (by omega)
  unfold c12allP c12all at h
  simp only [val_each, val_cnt, val_ix, val_lt, val_br, val_ob, val_ret, val_cut, val_wh] at h
  generalize hW : whN _ _ 5 _ = W at h
  obtain ⟨y4, e4⟩ : ∃ y4, W = Sum.inl y4 := by
    rw [← hW]
    refine whN_post (fun x : Int × ref12_list => 1 ≤ x.1 ∧ x.1 ≤ 4) (fun x => 4 - x.1.toNat) (fun r => ∃ y4, r = Sum.inl y4) (fun x hx => ?_) 5 _ ⟨by decide, by decide⟩ (by decide)
    by_cases hd : x.1 ≤ 3
    · have w : wrp .i64 (x.1 + 1) = x.1 + 1 := wrp_in (k := .i64) (by simp only [InR]; omega)
      simp only [decide_eq_true hd, cond_true, w]
      exact .inl ⟨_, rfl, ⟨by show 1 ≤ x.1 + 1; omega, by show x.1 + 1 ≤ 4; omega⟩, by show 4 - (x.1 + 1).toNat < 4 - x.1.toNat; omega⟩
    · simp only [decide_eq_false hd, cond_false]
      exact .inr ⟨_, rfl, x.2, rfl⟩
  subst e4
  rw [thenS_inl] at h
  cases hm1 : c12meetP (c12namesP s 1) (c12namesP s 2) <;> rw [hm1] at h <;> cases hm2 : c12meetP (c12namesP s 1) (c12namesP s 3) <;> rw [hm2] at h <;> simp only [cond_true, cond_false, thenS_inl] at h
  all_goals
    generalize hr : forE _ _ s.Messages 0 _ = r at h
    obtain ⟨y9, e, h2⟩ := forE_bk (d := d_Message) (fun k a => c12msgP s a (c12finP s) = []) hr fun j y hj => ⟨_, rfl, fun h => List.append_eq_nil_iff.1 h⟩
    rw [← e, thenS_inl] at h
    generalize hr2 : forE _ _ s.Enums 0 _ = r2 at h
    obtain ⟨y13, e2, h3⟩ := forE_bk (d := d_Enum) (fun k a => True) hr2 fun j y hj => ⟨_, rfl, fun h => ⟨(List.append_eq_nil_iff.1 h).1, trivial⟩⟩
    rw [← e2, thenS_inl] at h
    obtain ⟨y15, e3, h4⟩ := forE_bk (d := d_Service) (fun k a => True) h fun j y hj => ⟨_, rfl, fun h => ⟨(List.append_eq_nil_iff.1 h).1, trivial⟩⟩
    have h5 := (h2 (h3 (h4 e3).1).1).2
    intro m hm
    obtain ⟨j, hj, ej⟩ := mem_getD d_Message hm
    have := h5 j hj
    rw [ej] at this
    exact this
theorem msg_mem (s : Schema) (name : Str) : (r14msgP s name).1 ∈ s.Messages ∨ (r14msgP s name).1.Fields = [] := by
  unfold r14msgP r14msg
  simp only [val_each, val_ix, val_br, val_ret]
  refine forE_post (d := d_Message) (Q := fun r : Message × Bool => r.1 ∈ s.Messages ∨ r.1.Fields = []) (fun _ _ => True) s.Messages 0 () trivial (fun j y hj _ => ?_) (fun y _ => .inr rfl)
  cases (s.Messages.getD j d_Message).Name == name with
  | true => exact .inl (getD_mem hj)
  | false => exact trivial
theorem fld_first (m : Message) (num : Int) : ∀ j, j < m.Fields.length → (m.Fields.getD j d_AField).Num = num → ∃ k, k ≤ j ∧ (m.Fields.getD k d_AField).Num = num ∧ (r14fldP m num).1 = m.Fields.getD k d_AField := by
  unfold r14fldP r14fld
  simp only [val_each, val_ix, val_br, val_ret, AVal.re_eq]
  refine forE_post (d := d_AField) (Q := fun r : AField × Bool => ∀ j, j < m.Fields.length → (m.Fields.getD j d_AField).Num = num → ∃ k, k ≤ j ∧ (m.Fields.getD k d_AField).Num = num ∧ r.1 = m.Fields.getD k d_AField) (fun k _ => ∀ i, i < k → (m.Fields.getD i d_AField).Num ≠ num) m.Fields 0 () (fun i hi => by omega) (fun j y hj hI => ?_) (fun y hI j hj e => absurd e (hI j (by omega)))
  by_cases hn : (m.Fields.getD j d_AField).Num = num
  · rw [beq_t hn]
    intro i hi ei
    refine ⟨j, ?_, hn, rfl⟩
    by_cases hij : j ≤ i
    · exact hij
    · exact absurd ei (hI i (by omega))
  · rw [beq_f hn]
    intro i hi
    by_cases hij : i < j
    · exact hI i (by omega)
    · obtain rfl : i = j := by omega
      exact hn
theorem asc_lt (m : Message) (h : ∀ j, j < m.Fields.length → 0 < j → (m.Fields.getD (j - 1) d_AField).Num < (m.Fields.getD j d_AField).Num) : ∀ d k, k + d + 1 < m.Fields.length → (m.Fields.getD k d_AField).Num < (m.Fields.getD (k + d + 1) d_AField).Num
  | 0, k, hk => h (k + 1) hk (by omega)
  | d + 1, k, hk => Int.lt_trans (asc_lt m h d k (by omega)) (h (k + (d + 1) + 1) hk (by omega))
theorem req_ok (s : Schema) (h : c12validP s = true) (name : Str) : reqOk (r14msgP s name).1 := by
  intro j hj hc
  rcases msg_mem s name with hm | hm
  · have asc := msg_asc s _ _ (all_nil s h _ hm)
    obtain ⟨k, hk, e1, e2⟩ := fld_first (r14msgP s name).1 _ j hj rfl
    have : k = j := by
      by_cases hkj : k = j
      · exact hkj
      · have := asc_lt _ asc (j - k - 1) k (by omega)
        rw [show k + (j - k - 1) + 1 = j by omega] at this
        omega
    rw [e2, this]
    unfold secF
    rw [hc]
    simp
  · rw [hm] at hj
    simp at hj

end Go.Proofs.YtemjcccdcnhmhaaGreatDoor
