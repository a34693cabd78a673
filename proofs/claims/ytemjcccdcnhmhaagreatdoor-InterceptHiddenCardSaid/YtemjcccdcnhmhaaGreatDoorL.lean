/-
  Intercept: the law InterceptBefores.
-/
import Derived.Test.YtemjcccdcnhmhaaGreatDoorX
namespace Go.Proofs.YtemjcccdcnhmhaaGreatDoor
open Go.RowKit Go.Vc
set_option linter.unusedVariables false
set_option linter.unusedSimpArgs false
set_option maxRecDepth 100000

theorem few_ok (l : List Icept) (h : fewP l = true) : l.length ≤ 12 ∧ okIs l := by
  unfold fewP few at h
  simp only [val_br, val_each, val_ix, val_ret] at h
  rw [forE_cong (b' := fun _ (a : Icept) (_ : Unit) => cond (bif decide (300 < (↑a.Key.length : Int)) then false else bif decide (300 < (↑a.Val.length : Int)) then false else true) (.inl ()) (.inr false)) (f' := fun _ _ => true) l 0 () (fun j a y _ _ => by cases decide (300 < (↑a.Key.length : Int)) <;> cases decide (300 < (↑a.Val.length : Int)) <;> rfl) (fun _ => rfl), forE_all] at h
  by_cases c : 12 < (l.length : Int)
  · simp only [decide_eq_true c, cond_true] at h; cases h
  · simp only [decide_eq_false c, cond_false] at h
    refine ⟨by omega, fun x hx => ?_⟩
    have k := List.all_eq_true.mp h x hx
    by_cases c2 : 300 < (↑x.Key.length : Int)
    · simp only [decide_eq_true c2, cond_true] at k; cases k
    · omega
theorem short_ok (hd : Head) (h : shortP hd = true) : hd.Metas.length ≤ 30 ∧ hd.Service.length + hd.Method.length ≤ 600 := by
  unfold shortP short at h
  simp only [val_br, val_ret] at h
  by_cases c1 : 300 < (↑hd.Service.length : Int)
  · simp only [decide_eq_true c1, cond_true] at h; cases h
  by_cases c2 : 300 < (↑hd.Method.length : Int)
  · simp only [decide_eq_true c2, decide_eq_false c1, cond_true, cond_false] at h; cases h
  by_cases c3 : 30 < (↑hd.Metas.length : Int)
  · simp only [decide_eq_true c3, decide_eq_false c2, decide_eq_false c1, cond_true, cond_false] at h; cases h
  omega
theorem traced_ok (t : List Trace) (h : tracedP t = true) : okT t := by
  unfold tracedP traced at h
  simp only [val_br, val_each, val_ix, val_ret] at h
  rw [forE_cong (b' := fun _ (a : Trace) (_ : Unit) => cond (bif decide (700 < (↑a.Method.length : Int)) then false else bif decide (200 < (↑a.Times.length : Int)) then false else true) (.inl ()) (.inr false)) (f' := fun _ _ => true) t 0 () (fun j a y _ _ => by cases decide (700 < (↑a.Method.length : Int)) <;> cases decide (200 < (↑a.Times.length : Int)) <;> rfl) (fun _ => rfl), forE_all] at h
  by_cases c : 30 < (t.length : Int)
  · simp only [decide_eq_true c, cond_true] at h; cases h
  · simp only [decide_eq_false c, cond_false] at h
    refine ⟨by omega, fun x hx => ?_⟩
    have k := List.all_eq_true.mp h x hx
    by_cases c1 : 700 < (↑x.Method.length : Int)
    · simp only [decide_eq_true c1, cond_true] at k; cases k
    by_cases c2 : 200 < (↑x.Times.length : Int)
    · simp only [decide_eq_true c2, decide_eq_false c1, cond_true, cond_false] at k; cases k
    · omega
theorem right_parts (l : List Icept) (t : List Trace) (now : Int) (hd : Head) (h : rightP l t now hd = true) : fewP l = true ∧ tracedP t = true ∧ shortP hd = true ∧ 0 ≤ now ∧ now ≤ 1099511627776 := by
  unfold rightP right at h
  simp only [val_br, val_ret] at h
  cases h1 : fewP l <;> rw [h1] at h <;> simp only [cond_false, cond_true] at h
  · cases h
  cases h2 : rcheckP l == 0 <;> rw [h2] at h <;> simp only [cond_false, cond_true] at h
  · cases h
  cases h3 : tracedP t <;> rw [h3] at h <;> simp only [cond_false, cond_true] at h
  · cases h
  cases h4 : shortP hd <;> rw [h4] at h <;> simp only [cond_false, cond_true] at h
  · cases h
  by_cases h5 : 0 ≤ now
  · simp only [decide_eq_true h5, cond_true, decide_eq_true_eq] at h
    exact ⟨rfl, rfl, rfl, h5, h⟩
  · simp only [decide_eq_false h5, cond_false] at h; cases h
theorem right_ok (l : List Icept) (t : List Trace) (now : Int) (hd : Head) (h : rightP l t now hd = true) : okB l t hd := by
  obtain ⟨h1, h2, h3, _, _⟩ := right_parts l t now hd h
  obtain ⟨f1, f2⟩ := few_ok l h1
  obtain ⟨s1, s2⟩ := short_ok hd h3
  exact ⟨traced_ok t h2, f2, by omega, by omega, by omega⟩
theorem forE_stay {A Y R : Type} {b : Nat → A → Y → Y ⊕ R} {f : Nat → Y → R} {d : A} : ∀ (l : List A) (k : Nat) (y : Y), (∀ j y, j < l.length → b (k + j) (l.getD j d) y = .inl y) → forE b f l k y = f (k + l.length) y
  | [], _, _, _ => rfl
  | a :: l, k, y, h => by
    unfold forE
    have h0 : b k a y = .inl y := h 0 y (by simp)
    rw [h0]
    show forE b f l (k + 1) y = _
    rw [forE_stay l (k + 1) y (d := d) (fun j y hj => by have := h (j + 1) y (by simp; omega); rw [Nat.add_assoc, Nat.add_comm 1]; exact this)]
    congr 1; simp; omega
theorem sameHead_refl (h : Head) : sameHeadP h h = true := by
  unfold sameHeadP sameHead
  simp only [val_as, val_br, val_each, val_ix, val_ret, bne_self_eq_false, cond_false]
  refine forE_stay (d := d_Meta) h.Metas 0 () (fun j y hj => ?_)
  have e : Int.toNat (↑(0 + j) : Int) = j := by omega
  simp only [e, bne_self_eq_false, cond_false]
theorem sameTraces_refl (t : List Trace) : sameTracesP t t = true := by
  unfold sameTracesP sameTraces
  simp only [val_as, val_br, val_each, val_eachG, val_ix, val_ret, bne_self_eq_false, cond_false]
  refine forE_stay (d := d_Trace) t 0 () (fun j y hj => ?_)
  have e : Int.toNat (↑(0 + j) : Int) = j := by omega
  simp only [e, bne_self_eq_false, cond_false]
  refine forE_stay (d := 0) _ 0 () (fun i y hi => ?_)
  have e2 : Int.toNat (↑(0 + i) : Int) = i := by omega
  simp only [e2, bne_self_eq_false, cond_false]
theorem law1_eq (l : List Icept) (t : List Trace) (now : Int) (hd : Head) : (law1 l t now hd).val = true := by
  unfold law1
  simp only [val_br, val_ob, val_lt, val_ret, sameHead_refl, sameTraces_refl, beq_self_eq_true, cond_true, Bool.cond_self]

theorem law1_is (l : List Icept) (t : List Trace) (now : Int) (hd : Head) : Is (law1 l t now hd) :=
  by
  refine is_br (fun _ => is_ret) (fun h0 => ?_)
  have hb := right_ok l t now hd (by simpa using h0)
  exact is_ob hb (is_ob hb (is_lt fun v1 hv1 => is_br (fun _ => is_br (fun _ => is_beq (fun _ => is_beq (fun _ => is_ret) (fun _ => is_ret)) (fun _ => is_ret)) (fun _ => is_ret)) (fun _ => is_ret)))
noncomputable def e_law1 : Ent Z := entN Z [e_right, e_awake, e_before, e_rbefore, e_sameHead, e_sameTraces] [] (args (aCons (aLf cd_LIcept) (aCons (aLf cd_LTrace) (aCons (aLf (cInt .i64)) (a1 (aAgg cd_Head)))))) (argsI (n := 65) rfl) (shr [.slot 0 false [none]] (l1 cBool)) [] Tryz.func3 Tryz.ntmps3 (by kernel_rfl) 1 rfl (fun a => law1 (a.1) (a.2.1) (a.2.2.1) (a.2.2.2)) (fun a => none) (fun a e _ => by kernel_rfl) (fun a => true) (fun a h => ⟨law1_is (a.1) (a.2.1) (a.2.2.1) (a.2.2.2), law1_eq (a.1) (a.2.1) (a.2.2.1) (a.2.2.2)⟩)
end Go.Proofs.YtemjcccdcnhmhaaGreatDoor
