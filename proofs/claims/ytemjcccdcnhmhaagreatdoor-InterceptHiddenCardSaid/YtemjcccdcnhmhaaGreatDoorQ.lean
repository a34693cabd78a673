/-
  Intercept: Hide, plainly.
-/
import Derived.Test.YtemjcccdcnhmhaaGreatDoorO
namespace Go.Proofs.YtemjcccdcnhmhaaGreatDoor
open Go.RowKit Go.Vc
set_option linter.unusedVariables false
set_option linter.unusedSimpArgs false
set_option maxRecDepth 100000

theorem foldI_sum {A : Type} (g : A → Int → Int) (w : A → Nat) (W : List A → Nat) (W0 : W [] = 0) (W1 : ∀ a l, W (a :: l) = w a + W l) : ∀ (l : List A) (y : Int), (∀ a ∈ l, ∀ y, 0 ≤ y → y ≤ 500 → 0 ≤ g a y → w a + g a y ≤ y) → y ≤ 500 → 0 ≤ foldI g l y → W l + foldI g l y ≤ y ∧ 0 ≤ y
  | [], y, _, _, h => ⟨by rw [W0]; show ((0 : Nat) : Int) + y ≤ y; omega, h⟩
  | a :: l, y, hg, hy, h => by
    have e : foldI g (a :: l) y = foldI g l (bif decide (0 ≤ y) then g a y else y) := rfl
    rw [e] at h ⊢
    by_cases h0 : 0 ≤ y
    · simp only [decide_eq_true h0, cond_true] at h ⊢
      by_cases h1 : 0 ≤ g a y
      · have h2 := hg a (by simp) y h0 hy h1
        obtain ⟨k1, _⟩ := foldI_sum g w W W0 W1 l (g a y) (fun b hb => hg b (by simp [hb])) (by omega) h
        rw [W1]
        exact ⟨by omega, h0⟩
      · rw [foldI_neg g l _ (by omega)] at h
        omega
    · simp only [decide_eq_false h0, cond_false] at h
      rw [foldI_neg g l y (by omega)] at h
      omega
theorem few_nV : ∀ (fu : Nat) (v : AVal) (lv left : Int), nV v < fu → 0 ≤ left → left ≤ 500 → 0 ≤ c18cV fu v lv left → nV v + c18cV fu v lv left ≤ left
  | 0, v, lv, left, h, _, _, _ => by omega
  | fu + 1, v, lv, left, h, hl0, hl, h0 => by
    have e : c18cV (fu + 1) v lv left = (c18count (c18cV fu) (c18countQ fu) v lv left).val := rfl
    rw [e] at h0 ⊢
    unfold c18count at h0 ⊢
    simp only [val_br, val_as, val_lt, val_cut, val_each, val_ix, val_ob, val_ret, AVal.re_eq] at h0 ⊢
    have hv := nV_eq v
    by_cases c1 : 40 < lv
    · simp only [decide_eq_true c1, cond_true] at h0; omega
    by_cases c2 : 5000 < (↑(List.length v.Text) : Int)
    · simp only [decide_eq_false c1, decide_eq_true c2, cond_true, cond_false] at h0; omega
    have w1 : wrp .i64 (left - 1) = left - 1 := wrp_in (k := .i64) (by simp only [InR]; omega)
    by_cases c3 : left - 1 < (↑v.Raws.length : Int)
    · simp only [decide_eq_false c1, decide_eq_false c2, w1, decide_eq_true c3, cond_true, cond_false] at h0; omega
    have w2 : wrp .i64 (left - 1 - ↑v.Raws.length) = left - 1 - ↑v.Raws.length := wrp_in (k := .i64) (by simp only [InR]; omega)
    simp only [decide_eq_false c1, decide_eq_false c2, w1, w2, decide_eq_false c3, cond_false] at h0 ⊢
    have hr := forE_two (b := fun (k : Nat) (a : Raw) (_ : Unit) => bif decide (5000 < (↑(List.length a.Data) : Int)) then (Sum.inr (Sum.inr (-1)) : Unit ⊕ (Unit ⊕ Int)) else .inl ()) (f := fun _ _ => Sum.inl ()) (w := Sum.inr (-1)) (N := Sum.inl ()) (fun k a => by cases decide (5000 < (↑(List.length a.Data) : Int)) <;> simp) (fun _ _ => rfl) v.Raws 0
    rcases hr with hr | hr <;> rw [hr] at h0 ⊢
    · simp only [thenS_inr] at h0; omega
    simp only [thenS_inl] at h0 ⊢
    have g1 := fun y => small_fold (fun (a : AVal) y => c18cV fu a (wrp .i64 (lv + 1)) y) (fun y => (Sum.inl y : Int ⊕ Int)) v.List 0 y
    have g2 := fun y => small_fold (fun (a : Pair) y => bif decide (0 ≤ c18cV fu a.Key (wrp .i64 (lv + 1)) y) then c18cV fu a.Val (wrp .i64 (lv + 1)) (c18cV fu a.Key (wrp .i64 (lv + 1)) y) else c18cV fu a.Key (wrp .i64 (lv + 1)) y) (fun y => (Sum.inl y : Int ⊕ Int)) v.Pairs 0 y
    have g3 := fun y => small_fold (fun (a : Slot) y => c18cV fu a.Val (wrp .i64 (lv + 1)) y) (fun y => y) v.Slots 0 y
    have sw : ∀ (a : Pair) (y : Int), (bif decide (0 ≤ y) then (bif decide (0 ≤ c18cV fu a.Key (wrp .i64 (lv + 1)) y) then (Sum.inl (c18cV fu a.Val (wrp .i64 (lv + 1)) (c18cV fu a.Key (wrp .i64 (lv + 1)) y)) : Int ⊕ (Int ⊕ Int)) else .inl (c18cV fu a.Key (wrp .i64 (lv + 1)) y)) else .inr (.inl y)) =
        bif decide (0 ≤ y) then .inl (bif decide (0 ≤ c18cV fu a.Key (wrp .i64 (lv + 1)) y) then c18cV fu a.Val (wrp .i64 (lv + 1)) (c18cV fu a.Key (wrp .i64 (lv + 1)) y) else c18cV fu a.Key (wrp .i64 (lv + 1)) y) else .inr (.inl y) := fun a y => by
      cases decide (0 ≤ y) <;> cases decide (0 ≤ c18cV fu a.Key (wrp .i64 (lv + 1)) y) <;> rfl
    simp only [sw, g1, g2, g3, thenS_inl] at h0 ⊢
    have hmV : ∀ a ∈ v.List, nV a < fu := fun a ha => by have := nVs_mem ha; omega
    have hmP : ∀ a ∈ v.Pairs, nV a.Key < fu ∧ nV a.Val < fu := fun a ha => by have := nPs_mem ha; have := nP_eq a; omega
    have hmS : ∀ a ∈ v.Slots, nV a.Val < fu := fun a ha => by have := nSs_mem ha; have := nS_eq a; omega
    have d3 := foldI_sum (fun (a : Slot) y => c18cV fu a.Val (wrp .i64 (lv + 1)) y) nS nSs (by simp [nSs]) (fun a l => by simp [nSs]) v.Slots
    have d2 := foldI_sum (fun (a : Pair) y => bif decide (0 ≤ c18cV fu a.Key (wrp .i64 (lv + 1)) y) then c18cV fu a.Val (wrp .i64 (lv + 1)) (c18cV fu a.Key (wrp .i64 (lv + 1)) y) else c18cV fu a.Key (wrp .i64 (lv + 1)) y) nP nPs (by simp [nPs]) (fun a l => by simp [nPs]) v.Pairs
    have d1 := foldI_sum (fun (a : AVal) y => c18cV fu a (wrp .i64 (lv + 1)) y) nV nVs (by simp [nVs]) (fun a l => by simp [nVs]) v.List
    have le1 : ∀ y, y ≤ 500 → ∀ {A : Type} (g : A → Int → Int) (l : List A), (∀ a ∈ l, ∀ y, 0 ≤ y → y ≤ 500 → 0 ≤ g a y → g a y ≤ y) → foldI g l y ≤ 500 := by
      intro y hy A g l
      induction l generalizing y with
      | nil => intro _; exact hy
      | cons a l ih =>
        intro hg
        show foldI g l (bif decide (0 ≤ y) then g a y else y) ≤ 500
        by_cases q : 0 ≤ y
        · simp only [decide_eq_true q, cond_true]
          by_cases q2 : 0 ≤ g a y
          · exact ih _ (by have := hg a (by simp) y q hy q2; omega) (fun b hb => hg b (by simp [hb]))
          · rw [foldI_neg g l _ (by omega)]; omega
        · simp only [decide_eq_false q, cond_false]
          exact ih _ hy (fun b hb => hg b (by simp [hb]))
    have e1 : ∀ a ∈ v.List, ∀ y, 0 ≤ y → y ≤ 500 → 0 ≤ c18cV fu a (wrp .i64 (lv + 1)) y → nV a + c18cV fu a (wrp .i64 (lv + 1)) y ≤ y := fun a ha y p1 p2 p3 => few_nV fu a _ y (hmV a ha) p1 p2 p3
    have e2 : ∀ a ∈ v.Pairs, ∀ y, 0 ≤ y → y ≤ 500 → 0 ≤ (bif decide (0 ≤ c18cV fu a.Key (wrp .i64 (lv + 1)) y) then c18cV fu a.Val (wrp .i64 (lv + 1)) (c18cV fu a.Key (wrp .i64 (lv + 1)) y) else c18cV fu a.Key (wrp .i64 (lv + 1)) y) → nP a + (bif decide (0 ≤ c18cV fu a.Key (wrp .i64 (lv + 1)) y) then c18cV fu a.Val (wrp .i64 (lv + 1)) (c18cV fu a.Key (wrp .i64 (lv + 1)) y) else c18cV fu a.Key (wrp .i64 (lv + 1)) y) ≤ y := fun a ha y p1 p2 p3 => by
      rw [nP_eq]
      obtain ⟨m1, m2⟩ := hmP a ha
      by_cases q : 0 ≤ c18cV fu a.Key (wrp .i64 (lv + 1)) y
      · simp only [decide_eq_true q, cond_true] at p3 ⊢
        have r1 := few_nV fu a.Key _ y m1 p1 p2 q
        have r2 := few_nV fu a.Val _ _ m2 q (by omega) p3
        omega
      · simp only [decide_eq_false q, cond_false] at p3
        omega
    have e3 : ∀ a ∈ v.Slots, ∀ y, 0 ≤ y → y ≤ 500 → 0 ≤ c18cV fu a.Val (wrp .i64 (lv + 1)) y → nS a + c18cV fu a.Val (wrp .i64 (lv + 1)) y ≤ y := fun a ha y p1 p2 p3 => by
      rw [nS_eq]
      exact few_nV fu a.Val _ y (hmS a ha) p1 p2 p3
    have b1 := le1 (left - 1 - ↑v.Raws.length) (by omega) _ v.List (fun a ha y p1 p2 p3 => by have := e1 a ha y p1 p2 p3; omega)
    have b2 := le1 _ b1 _ v.Pairs (fun a ha y p1 p2 p3 => by have := e2 a ha y p1 p2 p3; omega)
    obtain ⟨r3, s3⟩ := d3 _ e3 b2 h0
    obtain ⟨r2, s2⟩ := d2 _ e2 b1 s3
    obtain ⟨r1, _⟩ := d1 (left - 1 - ↑v.Raws.length) e1 (by omega) s2
    have fin : ∀ (K A B : Int), (nSs v.Slots : Int) + K ≤ B → (nPs v.Pairs : Int) + B ≤ A → (nVs v.List : Int) + A ≤ left - 1 - ↑v.Raws.length → (nV v : Int) + K ≤ left := by intro K A B h1 h2 h3; omega
    exact fin _ _ _ r3 r2 r1
theorem few_ok2 (v : AVal) (h : c18fewP v 500 = true) : nV v ≤ 500 := by
  unfold c18fewP c18few at h
  simp only [val_ob, val_lt, val_ret, decide_eq_true_eq, AVal.re_eq] at h
  have := few_nV (nV v + 1) v 1 500 (Nat.lt_succ_self _) (by decide) (by decide) h
  have h2 : (0 : Int) ≤ c18cV (nV v + 1) v 1 500 := h
  omega
end Go.Proofs.YtemjcccdcnhmhaaGreatDoor
