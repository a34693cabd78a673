/-
  Intercept: what the check of values says.
-/
import Derived.Test.YtemjcccdcnhmhaaGreatDoorP
namespace Go.Proofs.YtemjcccdcnhmhaaGreatDoor
open Go.RowKit Go.Vc
set_option linter.unusedVariables false
set_option linter.unusedSimpArgs false
set_option maxRecDepth 100000

theorem forN_chk {R : Type} {b : Int → Unit → Unit ⊕ R} {f : Int → Unit → R} (P : Int → Prop) (Bad : R → Prop) {N : R} (hf : ∀ i y, f i y = N) : ∀ (n : Nat) (i0 : Int), (∀ i, i0 ≤ i → i < i0 + n → (P i ∧ b i () = .inl ()) ∨ (¬ P i ∧ ∃ r, Bad r ∧ b i () = .inr r)) →
    ((∀ i, i0 ≤ i → i < i0 + n → P i) ∧ forN b f n i0 () = N) ∨ ((¬ ∀ i, i0 ≤ i → i < i0 + n → P i) ∧ Bad (forN b f n i0 ()))
  | 0, i0, _ => .inl ⟨fun i h1 h2 => by omega, hf i0 ()⟩
  | n + 1, i0, hb => by
    unfold forN
    rcases hb i0 (Int.le_refl _) (by omega) with ⟨h1, h2⟩ | ⟨h1, r, h2, h3⟩
    · rw [h2]
      rcases forN_chk P Bad hf n (i0 + 1) (fun i q1 q2 => hb i (by omega) (by omega)) with ⟨k1, k2⟩ | ⟨k1, k2⟩
      · refine .inl ⟨fun i q1 q2 => ?_, k2⟩
        by_cases q : i = i0
        · rw [q]; exact h1
        · exact k1 i (by omega) (by omega)
      · exact .inr ⟨fun hh => k1 fun i q1 q2 => hh i (by omega) (by omega), k2⟩
    · rw [h3]
      exact .inr ⟨fun hh => h1 (hh i0 (Int.le_refl _) (by omega)), h2⟩
theorem forE_chk {A R : Type} {b : Nat → A → Unit → Unit ⊕ R} {f : Nat → Unit → R} {d : A} (P : Nat → A → Prop) (Bad : R → Prop) {N : R} (hf : ∀ i y, f i y = N) : ∀ (l : List A) (k : Nat), (∀ j, j < l.length → (P (k + j) (l.getD j d) ∧ b (k + j) (l.getD j d) () = .inl ()) ∨ (¬ P (k + j) (l.getD j d) ∧ ∃ r, Bad r ∧ b (k + j) (l.getD j d) () = .inr r)) →
    ((∀ j, j < l.length → P (k + j) (l.getD j d)) ∧ forE b f l k () = N) ∨ ((¬ ∀ j, j < l.length → P (k + j) (l.getD j d)) ∧ Bad (forE b f l k ()))
  | [], k, _ => .inl ⟨fun j h => by simp at h, hf k ()⟩
  | a :: l, k, hb => by
    unfold forE
    have sh : ∀ j, k + 1 + j = k + (j + 1) := fun j => by omega
    rcases hb 0 (by simp) with ⟨h1, h2⟩ | ⟨h1, r, h2, h3⟩
    · have h2 : b k a () = .inl () := h2
      rw [h2]
      rcases forE_chk P Bad hf l (k + 1) (fun j hj => by rw [sh]; exact hb (j + 1) (by simp; omega)) with ⟨k1, k2⟩ | ⟨k1, k2⟩
      · refine .inl ⟨fun j hj => ?_, k2⟩
        cases j with
        | zero => exact h1
        | succ j => have := k1 j (by simp at hj; omega); rw [sh] at this; exact this
      · refine .inr ⟨fun hh => k1 fun j hj => ?_, k2⟩
        have := hh (j + 1) (by simp; omega)
        rw [sh]; exact this
    · have h3 : b k a () = .inr r := h3
      rw [h3]
      exact .inr ⟨fun hh => h1 (hh 0 (by simp)), h2⟩
def BadI (r : Unit ⊕ Int) : Prop := ∃ n, n ≠ 0 ∧ r = .inr n
noncomputable abbrev ckE (fc : Nat) := (c17V fc).1
noncomputable abbrev ckF (fc : Nat) := (c17V fc).2.1
noncomputable abbrev ckS (fc : Nat) := (c17V fc).2.2.1
noncomputable abbrev ckM (fc : Nat) := (c17V fc).2.2.2
theorem msg_iff (fc : Nat) (s : Schema) (m : Message) (v : AVal) (lv : Int) (keys : Bool) : ckM (fc + 1) s m v lv keys = 0 ↔
    v.Kind = 10 ∧ c17otherP v = false ∧ lv ≤ 16 ∧ (∀ i : Int, 0 ≤ i → i < v.Slots.length → ckS fc s m v i lv keys = 0) ∧ (∀ j, j < m.Fields.length → (m.Fields.getD j d_AField).Card = 1 → c17setP v (m.Fields.getD j d_AField).Num = true) ∧ (∀ j, j < v.Raws.length → c17rawP s m (v.Raws.getD j d_Raw) = 0) := by
  show (c17msg (c17V fc).1 (c17elQ fc) (c17V fc).2.1 (c17fldQ fc) (c17V fc).2.2.1 (c17slotQ fc) (c17V fc).2.2.2 (c17msgQ fc) s m v lv keys).val = 0 ↔ _
  unfold c17msg
  simp only [val_br, val_ret, val_ob, val_cut, val_cntG, val_each, val_ix, val_lt, AVal.re_eq]
  by_cases h1 : v.Kind = 10
  · have e1 : (v.Kind != 10) = false := by simpa using h1
    rw [e1, cond_false]
    cases h2 : c17otherP v with
    | true => simp
    | false =>
      simp only [cond_false]
      by_cases h3 : lv ≤ 16
      · have e3 : decide (16 < lv) = false := decide_eq_false (by omega)
        rw [e3, cond_false]
        have k1 := forN_chk (b := fun (i : Int) (_ : Unit) => bif ckS fc s m v i lv keys != 0 then (Sum.inr (Sum.inr (ckS fc s m v i lv keys)) : Unit ⊕ (Unit ⊕ Int)) else .inl ()) (f := fun _ _ => Sum.inl ()) (fun i => ckS fc s m v i lv keys = 0) BadI (N := Sum.inl ()) (fun _ _ => rfl) (↑v.Slots.length - 0 : Int).toNat 0 (fun i _ _ => by
          by_cases q : ckS fc s m v i lv keys = 0
          · exact .inl ⟨q, by rw [q]; rfl⟩
          · have e : (ckS fc s m v i lv keys != 0) = true := by simpa using q
            exact .inr ⟨q, _, ⟨_, q, rfl⟩, by rw [e]; rfl⟩)
        have k2 := forE_chk (d := d_AField) (b := fun (_ : Nat) (a : AField) (_ : Unit) => bif a.Card == 1 then bif !c17setP v a.Num then (Sum.inr (Sum.inr 14) : Unit ⊕ (Unit ⊕ Int)) else .inl () else .inl ()) (f := fun _ _ => Sum.inl ()) (fun _ a => a.Card = 1 → c17setP v a.Num = true) BadI (N := Sum.inl ()) (fun _ _ => rfl) m.Fields 0 (fun j _ => by
          generalize m.Fields.getD j d_AField = a
          by_cases q : a.Card = 1
          · have e : (a.Card == 1) = true := by simpa using q
            cases q2 : c17setP v a.Num with
            | true => exact .inl ⟨fun _ => rfl, by rw [e]; rfl⟩
            | false => exact .inr ⟨(fun hh => by have := hh q; cases this), _, ⟨14, by decide, rfl⟩, by rw [e]; rfl⟩
          · have e : (a.Card == 1) = false := by simpa using q
            exact .inl ⟨fun hq => absurd hq q, by rw [e]; rfl⟩)
        have k3 := forE_chk (d := d_Raw) (b := fun (_ : Nat) (a : Raw) (_ : Unit) => bif c17rawP s m a != 0 then (Sum.inr (c17rawP s m a) : Unit ⊕ Int) else .inl ()) (f := fun _ _ => (0 : Int)) (fun _ a => c17rawP s m a = 0) (fun r => r ≠ 0) (N := 0) (fun _ _ => rfl) v.Raws 0 (fun j _ => by
          generalize v.Raws.getD j d_Raw = a
          by_cases q : c17rawP s m a = 0
          · exact .inl ⟨q, by rw [q]; rfl⟩
          · have e : (c17rawP s m a != 0) = true := by simpa using q
            exact .inr ⟨q, _, q, by rw [e]; rfl⟩)
        have hl : ((↑v.Slots.length - 0 : Int).toNat : Int) = v.Slots.length := by omega
        rw [hl] at k1
        simp only [Int.zero_add, Nat.zero_add] at k1 k2 k3
        rcases k1 with ⟨a1, a2⟩ | ⟨a1, n, a2, a3⟩
        · rw [a2, thenS_inl]
          rcases k2 with ⟨b1, b2⟩ | ⟨b1, n, b2, b3⟩
          · rw [b2, thenS_inl]
            rcases k3 with ⟨c1, c2⟩ | ⟨c1, c2⟩
            · rw [c2]
              exact ⟨fun _ => ⟨h1, trivial, h3, a1, b1, c1⟩, fun _ => rfl⟩
            · exact ⟨fun hh => absurd hh c2, fun hh => absurd hh.2.2.2.2.2 c1⟩
          · rw [b3, thenS_inr]
            exact ⟨fun hh => absurd hh b2, fun hh => absurd hh.2.2.2.2.1 b1⟩
        · rw [a3, thenS_inr]
          exact ⟨fun hh => absurd hh a2, fun hh => absurd hh.2.2.2.1 a1⟩
      · have e3 : decide (16 < lv) = true := decide_eq_true (by omega)
        rw [e3, cond_true]
        exact ⟨(fun hh => by cases hh), fun hh => absurd hh.2.2.1 h3⟩
  · have e1 : (v.Kind != 10) = true := by simpa using h1
    rw [e1, cond_true]
    exact ⟨(fun hh => by cases hh), fun hh => absurd hh.1 h1⟩
theorem slot_iff (fc : Nat) (s : Schema) (m : Message) (v : AVal) (i lv : Int) (keys : Bool) (hi : 0 ≤ i) : ckS (fc + 1) s m v i lv keys = 0 ↔
    (r14fldP m (v.Slots.getD i.toNat d_Slot).Num).2 = true ∧ (∀ k : Int, 0 ≤ k → k < i → (v.Slots.getD k.toNat d_Slot).Num ≠ (r14fldP m (v.Slots.getD i.toNat d_Slot).Num).1.Num) ∧
    (∀ k : Int, 0 ≤ k → k < i → ¬ ((r14fldP m (v.Slots.getD i.toNat d_Slot).Num).1.Union ≠ [] ∧ (r14fldP m (v.Slots.getD k.toNat d_Slot).Num).1.Union = (r14fldP m (v.Slots.getD i.toNat d_Slot).Num).1.Union)) ∧
    ckF fc s (r14fldP m (v.Slots.getD i.toNat d_Slot).Num).1 (v.Slots.getD i.toNat d_Slot).Val (wrp .i64 (lv + 1)) keys = 0 := by
  show (c17slot (c17V fc).1 (c17elQ fc) (c17V fc).2.1 (c17fldQ fc) (c17V fc).2.2.1 (c17slotQ fc) (c17V fc).2.2.2 (c17msgQ fc) s m v i lv keys).val = 0 ↔ _
  unfold c17slot
  simp only [val_br, val_ret, val_ob, val_cut, val_cnt, val_ix, val_lt, AVal.re_eq]
  generalize (v.Slots.getD i.toNat d_Slot).Val = X
  generalize r14fldP m (v.Slots.getD i.toNat d_Slot).Num = F
  cases h1 : F.2 with
  | false => simp
  | true =>
    simp only [Bool.not_true, cond_false, true_and]
    have k1 := forN_chk (b := fun (k : Int) (_ : Unit) => bif (v.Slots.getD k.toNat d_Slot).Num == F.1.Num then (Sum.inr (Sum.inr 9) : Unit ⊕ (Unit ⊕ Int)) else .inl ()) (f := fun _ _ => Sum.inl ()) (fun k => (v.Slots.getD k.toNat d_Slot).Num ≠ F.1.Num) BadI (N := Sum.inl ()) (fun _ _ => rfl) (i - 0 : Int).toNat 0 (fun k _ _ => by
      by_cases q : (v.Slots.getD k.toNat d_Slot).Num = F.1.Num
      · have e : ((v.Slots.getD k.toNat d_Slot).Num == F.1.Num) = true := by simpa using q
        exact .inr ⟨fun hh => hh q, _, ⟨9, by decide, rfl⟩, by rw [e]; rfl⟩
      · have e : ((v.Slots.getD k.toNat d_Slot).Num == F.1.Num) = false := by simpa using q
        exact .inl ⟨q, by rw [e]; rfl⟩)
    have k2 := forN_chk (b := fun (k : Int) (_ : Unit) => bif F.1.Union != [] then bif (r14fldP m (v.Slots.getD k.toNat d_Slot).Num).1.Union == F.1.Union then (Sum.inr 15 : Unit ⊕ Int) else .inl () else .inl ()) (f := fun _ _ => ckF fc s (AField.mk F.1.Num F.1.Name F.1.Card F.1.Key F.1.Type_ F.1.Union F.1.HasDefault F.1.Default F.1.Notes) X (wrp .i64 (lv + 1)) keys)
      (fun k => ¬ (F.1.Union ≠ [] ∧ (r14fldP m (v.Slots.getD k.toNat d_Slot).Num).1.Union = F.1.Union)) (fun r => r ≠ 0) (N := ckF fc s F.1 X (wrp .i64 (lv + 1)) keys) (fun _ _ => rfl) (i - 0 : Int).toNat 0 (fun k _ _ => by
      by_cases q1 : F.1.Union = []
      · have e : (F.1.Union != []) = false := by simpa using q1
        exact .inl ⟨fun hh => hh.1 q1, by rw [e]; rfl⟩
      · have e : (F.1.Union != []) = true := by simpa using q1
        by_cases q2 : (r14fldP m (v.Slots.getD k.toNat d_Slot).Num).1.Union = F.1.Union
        · have e2 : ((r14fldP m (v.Slots.getD k.toNat d_Slot).Num).1.Union == F.1.Union) = true := by simpa using q2
          exact .inr ⟨fun hh => hh ⟨q1, q2⟩, 15, by decide, by rw [e, e2]; rfl⟩
        · have e2 : ((r14fldP m (v.Slots.getD k.toNat d_Slot).Num).1.Union == F.1.Union) = false := by simpa using q2
          exact .inl ⟨fun hh => q2 hh.2, by rw [e, e2]; rfl⟩)
    have hl : ((i - 0 : Int).toNat : Int) = i := by omega
    rw [hl] at k1 k2
    simp only [Int.zero_add] at k1 k2
    rcases k1 with ⟨a1, a2⟩ | ⟨a1, n, a2, a3⟩
    · rw [a2, thenS_inl]
      rcases k2 with ⟨b1, b2⟩ | ⟨b1, b2⟩
      · rw [b2]
        exact ⟨fun hh => ⟨a1, b1, hh⟩, fun hh => hh.2.2⟩
      · exact ⟨fun hh => absurd hh b2, fun hh => absurd hh.2.1 b1⟩
    · rw [a3, thenS_inr]
      exact ⟨fun hh => absurd hh a2, fun hh => absurd hh.1 a1⟩
theorem fld_iff (fc : Nat) (s : Schema) (f : AField) (v : AVal) (lv : Int) (keys : Bool) : ckF (fc + 1) s f v lv keys = 0 ↔
    (f.Card = 4 ∧ v.Kind = 11 ∧ c17otherP v = false ∧ ∀ j, j < v.List.length → ckE fc s f.Type_ (v.List.getD j d_AVal) lv keys = 0) ∨
    (f.Card = 5 ∧ v.Kind = 12 ∧ c17otherP v = false ∧ ∀ j, j < v.Pairs.length → c17scalarP f.Key (v.Pairs.getD j d_Pair).Key = 0 ∧
      (keys = true → ∀ k : Int, 0 ≤ k → k < j → ¬ ((v.Pairs.getD k.toNat d_Pair).Key.Bits = (v.Pairs.getD j d_Pair).Key.Bits ∧ (v.Pairs.getD k.toNat d_Pair).Key.Text = (v.Pairs.getD j d_Pair).Key.Text)) ∧
      ckE fc s f.Type_ (v.Pairs.getD j d_Pair).Val lv keys = 0) ∨
    (f.Card ≠ 4 ∧ f.Card ≠ 5 ∧ ckE fc s f.Type_ v lv keys = 0) := by
  show (c17fld (c17V fc).1 (c17elQ fc) (c17V fc).2.1 (c17fldQ fc) (c17V fc).2.2.1 (c17slotQ fc) (c17V fc).2.2.2 (c17msgQ fc) s f v lv keys).val = 0 ↔ _
  unfold c17fld
  simp only [val_br, val_ret, val_ob, val_cut, val_cnt, val_each, val_ix, val_lt, AVal.re_eq]
  by_cases h4 : f.Card = 4
  · have e4 : (f.Card == 4) = true := by simpa using h4
    have n5 : ¬ f.Card = 5 := by omega
    rw [e4, cond_true]
    by_cases hk : v.Kind = 11
    · have ek : (v.Kind != 11) = false := by simpa using hk
      rw [ek, cond_false]
      cases ho : c17otherP v with
      | true => simp [h4]
      | false =>
        rw [cond_false]
        have k1 := forE_chk (d := d_AVal) (b := fun (_ : Nat) (a : AVal) (_ : Unit) => bif ckE fc s f.Type_ a lv keys != 0 then (Sum.inr (Sum.inr (ckE fc s f.Type_ a lv keys)) : Unit ⊕ (Unit ⊕ Int)) else .inl ()) (f := fun _ _ => Sum.inr 0) (fun _ a => ckE fc s f.Type_ a lv keys = 0) BadI (N := Sum.inr 0) (fun _ _ => rfl) v.List 0 (fun j _ => by
          generalize v.List.getD j d_AVal = a
          by_cases q : ckE fc s f.Type_ a lv keys = 0
          · exact .inl ⟨q, by rw [q]; rfl⟩
          · have e : (ckE fc s f.Type_ a lv keys != 0) = true := by simpa using q
            exact .inr ⟨q, _, ⟨_, q, rfl⟩, by rw [e]; rfl⟩)
        rcases k1 with ⟨a1, a2⟩ | ⟨a1, n, a2, a3⟩
        · rw [a2, thenS_inr]
          exact ⟨fun _ => .inl ⟨h4, hk, rfl, a1⟩, fun _ => rfl⟩
        · rw [a3, thenS_inr]
          refine ⟨fun hh => absurd hh a2, fun hh => ?_⟩
          rcases hh with hh | hh | hh
          · exact absurd hh.2.2.2 a1
          · exact absurd hh.1 n5
          · exact absurd h4 hh.1
    · have ek : (v.Kind != 11) = true := by simpa using hk
      rw [ek, cond_true]
      refine ⟨(fun hh => by cases hh), fun hh => ?_⟩
      rcases hh with hh | hh | hh
      · exact absurd hh.2.1 hk
      · exact absurd hh.1 n5
      · exact absurd h4 hh.1
  · have e4 : (f.Card == 4) = false := by simpa using h4
    rw [e4, cond_false, thenS_inl]
    by_cases h5 : f.Card = 5
    · have e5 : (f.Card == 5) = true := by simpa using h5
      rw [e5, cond_true]
      by_cases hk : v.Kind = 12
      · have ek : (v.Kind != 12) = false := by simpa using hk
        rw [ek, cond_false]
        cases ho : c17otherP v with
        | true => simp [h4, h5]
        | false =>
          rw [cond_false]
          have k1 := forE_chk (d := d_Pair) (b := fun (j : Nat) (a : Pair) (_ : Unit) => bif c17scalarP f.Key a.Key != 0 then (Sum.inr (c17scalarP f.Key a.Key) : Unit ⊕ Int) else
              thenS (forN (fun (i : Int) (_ : Unit) => bif keys then bif (v.Pairs.getD i.toNat d_Pair).Key.Bits == a.Key.Bits then bif (v.Pairs.getD i.toNat d_Pair).Key.Text == a.Key.Text then (Sum.inr (Sum.inr (Sum.inr 9)) : Unit ⊕ (Unit ⊕ (Unit ⊕ Int))) else .inl () else .inl () else .inr (.inl ())) (fun _ _ => Sum.inl ()) ((j : Int) - 0).toNat 0 ())
                (fun _ => bif ckE fc s f.Type_ a.Val lv keys != 0 then .inr (ckE fc s f.Type_ a.Val lv keys) else .inl ())) (f := fun _ _ => (0 : Int))
            (fun j a => c17scalarP f.Key a.Key = 0 ∧ (keys = true → ∀ k : Int, 0 ≤ k → k < j → ¬ ((v.Pairs.getD k.toNat d_Pair).Key.Bits = a.Key.Bits ∧ (v.Pairs.getD k.toNat d_Pair).Key.Text = a.Key.Text)) ∧ ckE fc s f.Type_ a.Val lv keys = 0) (fun r => r ≠ 0) (N := 0) (fun _ _ => rfl) v.Pairs 0 (fun j _ => by
              rw [Nat.zero_add]
              generalize v.Pairs.getD j d_Pair = a
              by_cases q1 : c17scalarP f.Key a.Key = 0
              · have e1 : (c17scalarP f.Key a.Key != 0) = false := by simpa using q1
                rw [e1, cond_false]
                have dup : (keys = true → ∀ k : Int, 0 ≤ k → k < j → ¬ ((v.Pairs.getD k.toNat d_Pair).Key.Bits = a.Key.Bits ∧ (v.Pairs.getD k.toNat d_Pair).Key.Text = a.Key.Text)) ∧ forN (fun (i : Int) (_ : Unit) => bif keys then bif (v.Pairs.getD i.toNat d_Pair).Key.Bits == a.Key.Bits then bif (v.Pairs.getD i.toNat d_Pair).Key.Text == a.Key.Text then (Sum.inr (Sum.inr (Sum.inr 9)) : Unit ⊕ (Unit ⊕ (Unit ⊕ Int))) else .inl () else .inl () else .inr (.inl ())) (fun _ _ => Sum.inl ()) ((j : Int) - 0).toNat 0 () = Sum.inl () ∨
                    (¬ (keys = true → ∀ k : Int, 0 ≤ k → k < j → ¬ ((v.Pairs.getD k.toNat d_Pair).Key.Bits = a.Key.Bits ∧ (v.Pairs.getD k.toNat d_Pair).Key.Text = a.Key.Text)) ∧ forN (fun (i : Int) (_ : Unit) => bif keys then bif (v.Pairs.getD i.toNat d_Pair).Key.Bits == a.Key.Bits then bif (v.Pairs.getD i.toNat d_Pair).Key.Text == a.Key.Text then (Sum.inr (Sum.inr (Sum.inr 9)) : Unit ⊕ (Unit ⊕ (Unit ⊕ Int))) else .inl () else .inl () else .inr (.inl ())) (fun _ _ => Sum.inl ()) ((j : Int) - 0).toNat 0 () = Sum.inr (Sum.inr 9)) := by
                  cases keys with
                  | false =>
                    refine .inl ⟨(fun hh => by cases hh), ?_⟩
                    generalize ((j : Int) - 0).toNat = n
                    cases n <;> rfl
                  | true =>
                    have k3 := forN_chk (b := fun (i : Int) (_ : Unit) => bif (v.Pairs.getD i.toNat d_Pair).Key.Bits == a.Key.Bits then bif (v.Pairs.getD i.toNat d_Pair).Key.Text == a.Key.Text then (Sum.inr (Sum.inr (Sum.inr 9)) : Unit ⊕ (Unit ⊕ (Unit ⊕ Int))) else .inl () else .inl ()) (f := fun _ _ => Sum.inl ()) (fun k => ¬ ((v.Pairs.getD k.toNat d_Pair).Key.Bits = a.Key.Bits ∧ (v.Pairs.getD k.toNat d_Pair).Key.Text = a.Key.Text)) (fun r => r = Sum.inr (Sum.inr 9)) (N := Sum.inl ()) (fun _ _ => rfl) ((j : Int) - 0).toNat 0 (fun k _ _ => by
                      by_cases p1 : (v.Pairs.getD k.toNat d_Pair).Key.Bits = a.Key.Bits
                      · have g1 : ((v.Pairs.getD k.toNat d_Pair).Key.Bits == a.Key.Bits) = true := by simpa using p1
                        by_cases p2 : (v.Pairs.getD k.toNat d_Pair).Key.Text = a.Key.Text
                        · have g2 : ((v.Pairs.getD k.toNat d_Pair).Key.Text == a.Key.Text) = true := by simpa using p2
                          exact .inr ⟨fun hh => hh ⟨p1, p2⟩, _, rfl, by rw [g1, g2]; rfl⟩
                        · have g2 : ((v.Pairs.getD k.toNat d_Pair).Key.Text == a.Key.Text) = false := by simpa using p2
                          exact .inl ⟨fun hh => p2 hh.2, by rw [g1, g2]; rfl⟩
                      · have g1 : ((v.Pairs.getD k.toNat d_Pair).Key.Bits == a.Key.Bits) = false := by simpa using p1
                        exact .inl ⟨fun hh => p1 hh.1, by rw [g1]; rfl⟩)
                    have hl : (((j : Int) - 0).toNat : Int) = j := by omega
                    rw [hl] at k3
                    simp only [Int.zero_add] at k3
                    rcases k3 with ⟨c1, c2⟩ | ⟨c1, c2⟩
                    · exact .inl ⟨fun _ => c1, c2⟩
                    · exact .inr ⟨fun hh => c1 (hh rfl), c2⟩
                rcases dup with ⟨u1, u2⟩ | ⟨u1, u2⟩
                · rw [u2, thenS_inl]
                  by_cases q2 : ckE fc s f.Type_ a.Val lv keys = 0
                  · have e2 : (ckE fc s f.Type_ a.Val lv keys != 0) = false := by simpa using q2
                    exact .inl ⟨⟨q1, u1, q2⟩, by rw [e2]; rfl⟩
                  · have e2 : (ckE fc s f.Type_ a.Val lv keys != 0) = true := by simpa using q2
                    exact .inr ⟨fun hh => q2 hh.2.2, _, q2, by rw [e2]; rfl⟩
                · rw [u2, thenS_inr]
                  exact .inr ⟨fun hh => u1 hh.2.1, 9, by decide, rfl⟩
              · have e1 : (c17scalarP f.Key a.Key != 0) = true := by simpa using q1
                exact .inr ⟨fun hh => q1 hh.1, _, q1, by rw [e1]; rfl⟩)
          simp only [Nat.zero_add] at k1
          rcases k1 with ⟨a1, a2⟩ | ⟨a1, a2⟩
          · rw [a2]
            exact ⟨fun _ => .inr (.inl ⟨h5, hk, rfl, a1⟩), fun _ => rfl⟩
          · refine ⟨fun hh => absurd hh a2, fun hh => ?_⟩
            rcases hh with hh | hh | hh
            · exact absurd hh.1 h4
            · exact absurd hh.2.2.2 a1
            · exact absurd h5 hh.2.1
      · have ek : (v.Kind != 12) = true := by simpa using hk
        rw [ek, cond_true]
        refine ⟨(fun hh => by cases hh), fun hh => ?_⟩
        rcases hh with hh | hh | hh
        · exact absurd hh.1 h4
        · exact absurd hh.2.1 hk
        · exact absurd h5 hh.2.1
    · have e5 : (f.Card == 5) = false := by simpa using h5
      rw [e5, cond_false]
      refine ⟨fun hh => .inr (.inr ⟨h4, h5, hh⟩), fun hh => ?_⟩
      rcases hh with hh | hh | hh
      · exact absurd hh.1 h4
      · exact absurd hh.1 h5
      · exact hh.2.2
theorem el_iff (fc : Nat) (s : Schema) (t : AType) (v : AVal) (lv : Int) (keys : Bool) (ht : t.Kind = 10) : ckE (fc + 1) s t v lv keys = 0 ↔ (r14msgP s t.Name).2 = true ∧ ckM fc s (r14msgP s t.Name).1 v lv keys = 0 := by
  show (c17el (c17V fc).1 (c17elQ fc) (c17V fc).2.1 (c17fldQ fc) (c17V fc).2.2.1 (c17slotQ fc) (c17V fc).2.2.2 (c17msgQ fc) s t v lv keys).val = 0 ↔ _
  unfold c17el
  have e : (t.Kind == 10) = true := by simpa using ht
  simp only [val_br, val_ret, val_ob, val_lt, AVal.re_eq, e, cond_true]
  cases (r14msgP s t.Name).2 <;> simp
theorem el_other (fc fc' : Nat) (s : Schema) (t : AType) (v : AVal) (lv : Int) (keys : Bool) (ht : t.Kind ≠ 10) : ckE (fc + 1) s t v lv keys = ckE (fc' + 1) s t v lv keys := by
  show (c17el (c17V fc).1 (c17elQ fc) (c17V fc).2.1 (c17fldQ fc) (c17V fc).2.2.1 (c17slotQ fc) (c17V fc).2.2.2 (c17msgQ fc) s t v lv keys).val = (c17el (c17V fc').1 (c17elQ fc') (c17V fc').2.1 (c17fldQ fc') (c17V fc').2.2.1 (c17slotQ fc') (c17V fc').2.2.2 (c17msgQ fc') s t v lv keys).val
  unfold c17el
  have e : (t.Kind == 10) = false := by simpa using ht
  simp only [val_br, val_ret, val_ob, val_lt, AVal.re_eq, e, cond_false]
end Go.Proofs.YtemjcccdcnhmhaaGreatDoor
