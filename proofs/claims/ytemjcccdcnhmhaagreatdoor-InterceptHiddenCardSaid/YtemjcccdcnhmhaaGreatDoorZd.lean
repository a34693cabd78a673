/-
  Intercept: the size of what Hide leaves.
-/
import Derived.Test.YtemjcccdcnhmhaaGreatDoorZc
namespace Go.Proofs.YtemjcccdcnhmhaaGreatDoor
open Go.RowKit Go.Vc
set_option linter.unusedVariables false
set_option linter.unusedSimpArgs false
set_option maxRecDepth 100000

mutual
def mV : AVal → Nat
  | .mk _ _ _ l p s r => mVs l + mPs p + mSs s + r.length + 1
def mVs : List AVal → Nat
  | [] => 0
  | x :: l => mV x + mVs l
def mP : Pair → Nat
  | .mk k v => mV k + mV v
def mPs : List Pair → Nat
  | [] => 0
  | x :: l => mP x + mPs l
def mS : Slot → Nat
  | .mk _ v => mV v
def mSs : List Slot → Nat
  | [] => 0
  | x :: l => mS x + mSs l
end
theorem mV_eq (v : AVal) : mV v = mVs v.List + mPs v.Pairs + mSs v.Slots + v.Raws.length + 1 := by cases v; simp [mV, AVal.List, AVal.Pairs, AVal.Slots, AVal.Raws]
theorem mP_eq (x : Pair) : mP x = mV x.Key + mV x.Val := by cases x; simp [mP, Pair.Key, Pair.Val]
theorem mS_eq (x : Slot) : mS x = mV x.Val := by cases x; simp [mS, Slot.Val]
theorem mVs_mem : ∀ {l : List AVal} {x : AVal}, x ∈ l → mV x ≤ mVs l
  | y :: l, x, h => by
    rcases List.mem_cons.1 h with rfl | h
    · simp [mVs]
    · have := mVs_mem h; simp [mVs]; omega
theorem mPs_mem : ∀ {l : List Pair} {x : Pair}, x ∈ l → mP x ≤ mPs l
  | y :: l, x, h => by
    rcases List.mem_cons.1 h with rfl | h
    · simp [mPs]
    · have := mPs_mem h; simp [mPs]; omega
theorem mSs_mem : ∀ {l : List Slot} {x : Slot}, x ∈ l → mS x ≤ mSs l
  | y :: l, x, h => by
    rcases List.mem_cons.1 h with rfl | h
    · simp [mSs]
    · have := mSs_mem h; simp [mSs]; omega
theorem few_mV : ∀ (fu : Nat) (v : AVal) (lv left : Int), nV v < fu → 0 ≤ left → left ≤ 500 → 0 ≤ c18cV fu v lv left → mV v + c18cV fu v lv left ≤ left
  | 0, v, lv, left, h, _, _, _ => by omega
  | fu + 1, v, lv, left, h, hl0, hl, h0 => by
    have e : c18cV (fu + 1) v lv left = (c18count (c18cV fu) (c18countQ fu) v lv left).val := rfl
    rw [e] at h0 ⊢
    unfold c18count at h0 ⊢
    simp only [val_br, val_as, val_lt, val_cut, val_each, val_ix, val_ob, val_ret, AVal.re_eq] at h0 ⊢
    have hv := nV_eq v
    have hm := mV_eq v
    by_cases c1 : 40 < lv
    · simp only [decide_eq_true c1, cond_true] at h0; omega
    by_cases c2 : 5000 < (↑(List.length v.Text) : Int)
    · simp only [decide_eq_false c1, decide_eq_true c2, cond_true, cond_false] at h0; omega
    have w1 : wrp .i64 (left - 1) = left - 1 := wrp_in (k := .i64) (by simp only [InR]; omega)
    by_cases c3 : left - 1 < (↑v.Raws.length : Int)
    · simp only [decide_eq_false c1, decide_eq_false c2, w1, decide_eq_true c3, cond_true, cond_false] at h0; omega
    have w2 : wrp .i64 (left - 1 - ↑v.Raws.length) = left - 1 - ↑v.Raws.length := wrp_in (k := .i64) (by simp only [InR]; omega)
    simp only [decide_eq_false c1, decide_eq_false c2, w1, w2, decide_eq_false c3, cond_false] at h0 ⊢
    have hr := forE_two (b := fun (k : Nat) (a : Raw) (_ : Unit) => bif decide (5000 < (↑(List.length a.Data) : Int)) then (Sum.inr (Sum.inr (-1)) : Unit ⊕ (Unit ⊕ Int)) else .inl ()) (f := fun _ _ => Sum.inl ()) (w := Sum.inr (-1)) (N := Sum.inl ()) (fun k a => by cases decide (5000 < (↑(List.length a.Data) : Int)) <;> simp) (fun _ _ => rfl) v.Raws 0
    rcases hr with hr | hr <;> rw [hr] at h0 ⊢
    · simp only [thenS_inr] at h0; omega
    simp only [thenS_inl] at h0 ⊢
    have g1 := fun y => small_fold (fun (a : AVal) y => c18cV fu a (wrp .i64 (lv + 1)) y) (fun y => (Sum.inl y : Int ⊕ Int)) v.List 0 y
    have g2 := fun y => small_fold (fun (a : Pair) y => bif decide (0 ≤ c18cV fu a.Key (wrp .i64 (lv + 1)) y) then c18cV fu a.Val (wrp .i64 (lv + 1)) (c18cV fu a.Key (wrp .i64 (lv + 1)) y) else c18cV fu a.Key (wrp .i64 (lv + 1)) y) (fun y => (Sum.inl y : Int ⊕ Int)) v.Pairs 0 y
    have g3 := fun y => small_fold (fun (a : Slot) y => c18cV fu a.Val (wrp .i64 (lv + 1)) y) (fun y => y) v.Slots 0 y
    have sw : ∀ (a : Pair) (y : Int), (bif decide (0 ≤ y) then (bif decide (0 ≤ c18cV fu a.Key (wrp .i64 (lv + 1)) y) then (Sum.inl (c18cV fu a.Val (wrp .i64 (lv + 1)) (c18cV fu a.Key (wrp .i64 (lv + 1)) y)) : Int ⊕ (Int ⊕ Int)) else .inl (c18cV fu a.Key (wrp .i64 (lv + 1)) y)) else .inr (.inl y)) =
        bif decide (0 ≤ y) then .inl (bif decide (0 ≤ c18cV fu a.Key (wrp .i64 (lv + 1)) y) then c18cV fu a.Val (wrp .i64 (lv + 1)) (c18cV fu a.Key (wrp .i64 (lv + 1)) y) else c18cV fu a.Key (wrp .i64 (lv + 1)) y) else .inr (.inl y) := fun a y => by
      cases decide (0 ≤ y) <;> cases decide (0 ≤ c18cV fu a.Key (wrp .i64 (lv + 1)) y) <;> rfl
    simp only [sw, g1, g2, g3, thenS_inl] at h0 ⊢
    have hmV : ∀ a ∈ v.List, nV a < fu := fun a ha => by have := nVs_mem ha; omega
    have hmP : ∀ a ∈ v.Pairs, nV a.Key < fu ∧ nV a.Val < fu := fun a ha => by have := nPs_mem ha; have := nP_eq a; omega
    have hmS : ∀ a ∈ v.Slots, nV a.Val < fu := fun a ha => by have := nSs_mem ha; have := nS_eq a; omega
    have d3 := foldI_sum (fun (a : Slot) y => c18cV fu a.Val (wrp .i64 (lv + 1)) y) mS mSs (by simp [mSs]) (fun a l => by simp [mSs]) v.Slots
    have d2 := foldI_sum (fun (a : Pair) y => bif decide (0 ≤ c18cV fu a.Key (wrp .i64 (lv + 1)) y) then c18cV fu a.Val (wrp .i64 (lv + 1)) (c18cV fu a.Key (wrp .i64 (lv + 1)) y) else c18cV fu a.Key (wrp .i64 (lv + 1)) y) mP mPs (by simp [mPs]) (fun a l => by simp [mPs]) v.Pairs
    have d1 := foldI_sum (fun (a : AVal) y => c18cV fu a (wrp .i64 (lv + 1)) y) mV mVs (by simp [mVs]) (fun a l => by simp [mVs]) v.List
    have le1 : ∀ y, y ≤ 500 → ∀ {A : Type} (g : A → Int → Int) (l : List A), (∀ a ∈ l, ∀ y, 0 ≤ y → y ≤ 500 → 0 ≤ g a y → g a y ≤ y) → foldI g l y ≤ 500 := by
      intro y hy A g l
      induction l generalizing y with
      | nil => intro _; exact hy
      | cons a l ih =>
        intro hg
        show foldI g l (bif decide (0 ≤ y) then g a y else y) ≤ 500
        by_cases q : 0 ≤ y
        · simp only [decide_eq_true q, cond_true]
          by_cases q2 : 0 ≤ g a y
          · exact ih _ (by have := hg a (by simp) y q hy q2; omega) (fun b hb => hg b (by simp [hb]))
          · rw [foldI_neg g l _ (by omega)]; omega
        · simp only [decide_eq_false q, cond_false]
          exact ih _ hy (fun b hb => hg b (by simp [hb]))
    have e1 : ∀ a ∈ v.List, ∀ y, 0 ≤ y → y ≤ 500 → 0 ≤ c18cV fu a (wrp .i64 (lv + 1)) y → mV a + c18cV fu a (wrp .i64 (lv + 1)) y ≤ y := fun a ha y p1 p2 p3 => few_mV fu a _ y (hmV a ha) p1 p2 p3
    have e2 : ∀ a ∈ v.Pairs, ∀ y, 0 ≤ y → y ≤ 500 → 0 ≤ (bif decide (0 ≤ c18cV fu a.Key (wrp .i64 (lv + 1)) y) then c18cV fu a.Val (wrp .i64 (lv + 1)) (c18cV fu a.Key (wrp .i64 (lv + 1)) y) else c18cV fu a.Key (wrp .i64 (lv + 1)) y) → mP a + (bif decide (0 ≤ c18cV fu a.Key (wrp .i64 (lv + 1)) y) then c18cV fu a.Val (wrp .i64 (lv + 1)) (c18cV fu a.Key (wrp .i64 (lv + 1)) y) else c18cV fu a.Key (wrp .i64 (lv + 1)) y) ≤ y := fun a ha y p1 p2 p3 => by
      rw [mP_eq]
      obtain ⟨m1, m2⟩ := hmP a ha
      by_cases q : 0 ≤ c18cV fu a.Key (wrp .i64 (lv + 1)) y
      · simp only [decide_eq_true q, cond_true] at p3 ⊢
        have r1 := few_mV fu a.Key _ y m1 p1 p2 q
        have r2 := few_mV fu a.Val _ _ m2 q (by omega) p3
        omega
      · simp only [decide_eq_false q, cond_false] at p3
        omega
    have e3 : ∀ a ∈ v.Slots, ∀ y, 0 ≤ y → y ≤ 500 → 0 ≤ c18cV fu a.Val (wrp .i64 (lv + 1)) y → mS a + c18cV fu a.Val (wrp .i64 (lv + 1)) y ≤ y := fun a ha y p1 p2 p3 => by
      rw [mS_eq]
      exact few_mV fu a.Val _ y (hmS a ha) p1 p2 p3
    have b1 := le1 (left - 1 - ↑v.Raws.length) (by omega) _ v.List (fun a ha y p1 p2 p3 => by have := e1 a ha y p1 p2 p3; omega)
    have b2 := le1 _ b1 _ v.Pairs (fun a ha y p1 p2 p3 => by have := e2 a ha y p1 p2 p3; omega)
    obtain ⟨r3, s3⟩ := d3 _ e3 b2 h0
    obtain ⟨r2, s2⟩ := d2 _ e2 b1 s3
    obtain ⟨r1, _⟩ := d1 (left - 1 - ↑v.Raws.length) e1 (by omega) s2
    have fin : ∀ (K A B : Int), (mSs v.Slots : Int) + K ≤ B → (mPs v.Pairs : Int) + B ≤ A → (mVs v.List : Int) + A ≤ left - 1 - ↑v.Raws.length → (mV v : Int) + K ≤ left := by intro K A B h1 h2 h3; omega
    exact fin _ _ _ r3 r2 r1
theorem few_mok (v : AVal) (h : c18fewP v 500 = true) : mV v ≤ 500 := by
  unfold c18fewP c18few at h
  simp only [val_ob, val_lt, val_ret, decide_eq_true_eq, AVal.re_eq] at h
  have := few_mV (nV v + 1) v 1 500 (Nat.lt_succ_self _) (by decide) (by decide) h
  have h2 : (0 : Int) ≤ c18cV (nV v + 1) v 1 500 := h
  omega
theorem sum_loop {A R : Type} (g : A → Int) (w : A → Nat) (W : List A → Nat) (W0 : W [] = 0) (W1 : ∀ a l, W (a :: l) = w a + W l) (f : Nat → Int → R) : ∀ (l : List A) (k : Nat) (y : Int), (∀ a ∈ l, g a = w a) → 0 ≤ y → y + W l ≤ 500 → forE (fun (_ : Nat) (a : A) (y : Int) => (Sum.inl (wrp .i64 (y + g a)) : Int ⊕ R)) f l k y = f (k + l.length) (y + W l)
  | [], k, y, _, _, _ => by
    rw [W0]
    show f k y = f k (y + 0)
    rw [Int.add_zero]
  | a :: l, k, y, hg, h0, h => by
    rw [W1] at h
    have e : wrp .i64 (y + g a) = y + w a := by rw [hg a (by simp)]; exact wrp_in (k := .i64) (by simp only [InR]; omega)
    unfold forE
    rw [e, W1]
    show forE _ f l (k + 1) (y + w a) = _
    rw [sum_loop g w W W0 W1 f l (k + 1) (y + w a) (fun b hb => hg b (by simp [hb])) (by omega) (by omega), List.length_cons]
    congr 1
    · omega
    · omega
theorem count_eq : ∀ (fu : Nat) (v : AVal), nV v < fu → mV v ≤ 500 → c17cV fu v = mV v
  | 0, v, h, _ => by omega
  | fu + 1, v, h, hm => by
    have hv := nV_eq v
    have he := mV_eq v
    show (c17count (c17cV fu) (c17countQ fu) v).val = _
    unfold c17count
    simp only [val_br, val_as, val_lt, val_cut, val_each, val_ix, val_ob, val_ret, AVal.re_eq]
    have w1 : wrp .i64 (1 + (↑v.Raws.length : Int)) = 1 + (↑v.Raws.length : Int) := wrp_in (k := .i64) (by simp only [InR]; omega)
    rw [w1]
    rw [sum_loop (fun a => c17cV fu a) mV mVs (by simp [mVs]) (fun a l => by simp [mVs]) _ v.List 0 _ (fun a ha => by
      have := nVs_mem ha
      have := mVs_mem ha
      exact count_eq fu a (by omega) (by omega)) (by omega) (by omega), thenS_inl]
    rw [sum_loop (fun a => wrp .i64 (c17cV fu a.Key + c17cV fu a.Val)) mP mPs (by simp [mPs]) (fun a l => by simp [mPs]) _ v.Pairs 0 _ (fun a ha => by
      have h1 := nPs_mem ha
      have h2 := mPs_mem ha
      have h3 := nP_eq a
      have h4 := mP_eq a
      rw [count_eq fu a.Key (by omega) (by omega), count_eq fu a.Val (by omega) (by omega), h4]
      have e : ((mV a.Key + mV a.Val : Nat) : Int) = (mV a.Key : Int) + (mV a.Val : Int) := by omega
      rw [e]
      exact wrp_in (k := .i64) (by simp only [InR]; omega)) (by omega) (by omega), thenS_inl]
    rw [sum_loop (fun a => c17cV fu a.Val) mS mSs (by simp [mSs]) (fun a l => by simp [mSs]) _ v.Slots 0 _ (fun a ha => by
      have h1 := nSs_mem ha
      have h2 := mSs_mem ha
      have h3 := nS_eq a
      have h4 := mS_eq a
      rw [count_eq fu a.Val (by omega) (by omega), h4]) (by omega) (by omega)]
    omega
theorem mVs_map {f : AVal → AVal} : ∀ {l : List AVal}, (∀ a ∈ l, mV (f a) ≤ mV a) → mVs (l.map f) ≤ mVs l
  | [], _ => Nat.le_refl _
  | a :: l, h => by
    have h1 := h a (by simp)
    have h2 := mVs_map (l := l) fun b hb => h b (by simp [hb])
    simp only [List.map_cons, mVs]
    omega
theorem mPs_map {f : Pair → Pair} : ∀ {l : List Pair}, (∀ a ∈ l, mP (f a) ≤ mP a) → mPs (l.map f) ≤ mPs l
  | [], _ => Nat.le_refl _
  | a :: l, h => by
    have h1 := h a (by simp)
    have h2 := mPs_map (l := l) fun b hb => h b (by simp [hb])
    simp only [List.map_cons, mPs]
    omega
theorem mSs_app : ∀ (l r : List Slot), mSs (l ++ r) = mSs l + mSs r
  | [], r => by simp [mSs]
  | a :: l, r => by simp only [List.cons_append, mSs, mSs_app l r]; omega
theorem mSs_flat {f : Slot → List Slot} : ∀ {l : List Slot}, (∀ a ∈ l, mSs (f a) ≤ mS a) → mSs (l.flatMap f) ≤ mSs l
  | [], _ => by simp [mSs]
  | a :: l, h => by
    have h1 := h a (by simp)
    have h2 := mSs_flat (l := l) fun b hb => h b (by simp [hb])
    rw [List.flatMap_cons, mSs_app]
    simp only [mSs]
    omega
theorem m_hF : ∀ (n : Nat) (v : AVal), nV v ≤ n → (∀ s f, mV (hF s f v) ≤ mV v) ∧ ∀ s m, mSs (hSs s m v.Slots) ≤ mSs v.Slots
  | 0, v, h => by have := nV_pos v; omega
  | n + 1, v, h => by
    have hv := nV_eq v
    have he := mV_eq v
    have slots : ∀ s m, mSs (hSs s m v.Slots) ≤ mSs v.Slots := fun s m => by
      rw [hSs_flat]
      refine mSs_flat fun a ha => ?_
      have h1 := nSs_mem ha
      have h2 := nS_eq a
      rw [hS_eq, mS_eq]
      have k := (m_hF n a.Val (by omega)).1 s (r14fldP m a.Num).1
      cases (r14fldP m a.Num).2 <;> cases secF (r14fldP m a.Num).1 <;> simp [mSs, mS] <;> exact k
    refine ⟨fun s f => ?_, slots⟩
    rw [hF_eq]
    cases f.Type_.Kind != 10 with
    | true => exact Nat.le_refl _
    | false =>
      cases v.Kind == 10 with
      | true =>
        show mV (hT s f.Type_.Name v) ≤ mV v
        cases hm : (r14msgP s f.Type_.Name).2 with
        | true =>
          rw [hT_eq s _ v hm, mV_eq (.mk ..), he]
          have := slots s (r14msgP s f.Type_.Name).1
          show mVs v.List + mPs v.Pairs + mSs (hSs s (r14msgP s f.Type_.Name).1 v.Slots) + v.Raws.length + 1 ≤ _
          omega
        | false =>
          unfold hT
          rw [hm]
          exact Nat.le_refl _
      | false =>
        cases v.Kind == 11 with
        | true =>
          show mV (.mk v.Kind v.Bits v.Text (hVs s f v.List) v.Pairs v.Slots v.Raws) ≤ mV v
          rw [mV_eq (.mk ..), he, hVs_map]
          have := mVs_map (f := hF s f) (l := v.List) fun a ha => (m_hF n a (by have := nVs_mem ha; omega)).1 s f
          show mVs (v.List.map (hF s f)) + mPs v.Pairs + mSs v.Slots + v.Raws.length + 1 ≤ _
          omega
        | false =>
          cases v.Kind == 12 with
          | true =>
            show mV (.mk v.Kind v.Bits v.Text v.List (hPs s f v.Pairs) v.Slots v.Raws) ≤ mV v
            rw [mV_eq (.mk ..), he, hPs_map]
            have := mPs_map (f := hP s f) (l := v.Pairs) fun a ha => by
              have h1 := nPs_mem ha
              have h2 := nP_eq a
              rw [mP_eq, mP_eq, hP_key, hP_val]
              have := (m_hF n a.Val (by have := nV_pos a.Key; omega)).1 s f
              omega
            show mVs v.List + mPs (v.Pairs.map (hP s f)) + mSs v.Slots + v.Raws.length + 1 ≤ _
            omega
          | false => exact Nat.le_refl _

end Go.Proofs.YtemjcccdcnhmhaaGreatDoor
