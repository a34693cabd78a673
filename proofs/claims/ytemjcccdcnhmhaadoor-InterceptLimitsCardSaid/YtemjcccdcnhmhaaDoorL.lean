/-
  Intercept: the laws.
-/
import Derived.Test.YtemjcccdcnhmhaaDoorJ
namespace Go.Proofs.YtemjcccdcnhmhaaDoor
open Go.RowKit Go.Vc
set_option linter.unusedVariables false
set_option linter.unusedSimpArgs false
set_option maxRecDepth 100000

theorem few_ok (l : List Icept) (h : fewP l = true) : l.length ≤ 12 ∧ okIs l := by
  unfold fewP few at h
  simp only [val_br, val_each, val_ix, val_ret] at h
  rw [forE_cong (b' := fun _ (a : Icept) (_ : Unit) => cond (bif decide (300 < (↑a.Key.length : Int)) then false else bif decide (300 < (↑a.Val.length : Int)) then false else true) (.inl ()) (.inr false)) (f' := fun _ _ => true) l 0 () (fun j a y _ _ => by cases decide (300 < (↑a.Key.length : Int)) <;> cases decide (300 < (↑a.Val.length : Int)) <;> rfl) (fun _ => rfl), forE_all] at h
  by_cases c : 12 < (l.length : Int)
  · simp only [decide_eq_true c, cond_true] at h; cases h
  · simp only [decide_eq_false c, cond_false] at h
    refine ⟨by omega, fun x hx => ?_⟩
    have k := List.all_eq_true.mp h x hx
    by_cases c2 : 300 < (↑x.Key.length : Int)
    · simp only [decide_eq_true c2, cond_true] at k; cases k
    · omega
theorem short_ok (hd : Head) (h : shortP hd = true) : hd.Metas.length ≤ 30 := by
  unfold shortP short at h
  simp only [val_br, val_ret] at h
  by_cases c1 : 300 < (↑hd.Service.length : Int)
  · simp only [decide_eq_true c1, cond_true] at h; cases h
  by_cases c2 : 300 < (↑hd.Method.length : Int)
  · simp only [decide_eq_true c2, decide_eq_false c1, cond_true, cond_false] at h; cases h
  by_cases c3 : 30 < (↑hd.Metas.length : Int)
  · simp only [decide_eq_true c3, decide_eq_false c2, decide_eq_false c1, cond_true, cond_false] at h; cases h
  omega
theorem st3 : stOfP 3 = rstOfP 3 := by kernel_rfl
theorem act_is2 (x : Icept) : Ifc.is (actionP x) 79 = (x.Kind == 2) ∧ (x.Kind = 2 → Pv.gI (Ifc.get (actionP x) 79 0) = x.Num) := by
  unfold actionP action
  simp only [val_br, val_ret]
  by_cases k : x.Kind = 2
  · have d : (x.Kind == 1) = false := by rw [beq_eq_false_iff_ne, k]; decide
    have e : (x.Kind == 2) = true := by rw [k]; rfl
    simp only [d, e, cond_true, cond_false]
    exact ⟨rfl, fun _ => rfl⟩
  · have e : (x.Kind == 2) = false := by rw [beq_eq_false_iff_ne]; exact k
    simp only [e, cond_false]
    refine ⟨?_, fun h => absurd h k⟩
    cases x.Kind == 1 <;> cases x.Kind == 3 <;> cases x.Kind == 4 <;> cases x.Kind == 5 <;> cases x.Kind == 6 <;> rfl
theorem message_eq (l : List Icept) (n : Int) : messageP l n = rmessageP l n := by
  unfold messageP message rmessageP rmessage
  simp only [val_as, val_each, val_ix, val_br, val_lt, val_ob, val_ret, st3]
  refine forE_cong l 0 () (fun j a y _ _ => ?_) (fun _ => rfl)
  obtain ⟨e1, e2⟩ := act_is2 a
  by_cases k : a.Kind = 2
  · rw [e1, e2 k]
  · have e : (a.Kind == 2) = false := by rw [beq_eq_false_iff_ne]; exact k
    rw [e1, e]; rfl
theorem forE_stay {A Y R : Type} {b : Nat → A → Y → Y ⊕ R} {f : Nat → Y → R} {d : A} : ∀ (l : List A) (k : Nat) (y : Y), (∀ j y, j < l.length → b (k + j) (l.getD j d) y = .inl y) → forE b f l k y = f (k + l.length) y
  | [], _, _, _ => rfl
  | a :: l, k, y, h => by
    unfold forE
    have h0 : b k a y = .inl y := h 0 y (by simp)
    rw [h0]
    show forE b f l (k + 1) y = _
    rw [forE_stay l (k + 1) y (d := d) (fun j y hj => by have := h (j + 1) y (by simp; omega); rw [Nat.add_assoc, Nat.add_comm 1]; exact this)]
    congr 1; simp; omega
theorem sameHead_refl (h : Head) : sameHeadP h h = true := by
  unfold sameHeadP sameHead
  simp only [val_as, val_br, val_each, val_ix, val_ret, bne_self_eq_false, cond_false]
  refine forE_stay (d := d_Meta) h.Metas 0 () (fun j y hj => ?_)
  have e : Int.toNat (↑(0 + j) : Int) = j := by omega
  simp only [e, bne_self_eq_false, cond_false]

noncomputable def law3 (l : List Icept) (n : Int) : Pg Bool :=
  .br (!fewP l) (.ret true)
    (.ob (okIs l)
      (.lt (rcheckP l) fun (v1 : Int) =>
        .br (v1 == v1)
          (.lt (messageP l n) fun (v2 : Status) =>
            .lt (rmessageP l n) fun (v3 : Status) => .br (v2.Code == v3.Code) (.br (v2.Text == v3.Text) (.ret true) (.ret false)) (.ret false))
          (.ret false)))
noncomputable def law3P (l : List Icept) (n : Int) : Bool := (law3 l n).val

theorem law3_eq (l : List Icept) (n : Int) : (law3 l n).val = true := by
  unfold law3
  simp only [val_br, val_ob, val_lt, val_ret, message_eq, beq_self_eq_true, cond_true, Bool.cond_self]

theorem law3_is (l : List Icept) (n : Int) : Is (law3 l n) :=
  by
  exact is_br (fun _ => is_ret) (fun h1 => is_ob (few_ok l (by simpa using h1)).2 (is_lt fun v1 hv1 => is_br (fun _ => is_lt fun v2 hv2 => is_lt fun v3 hv3 => is_br (fun _ => is_br (fun _ => is_ret) (fun _ => is_ret)) (fun _ => is_ret)) (fun _ => is_ret)))
noncomputable def e_law3 : Ent Z := entN Z [e_few, e_awake, e_message, e_rmessage, e_check, e_rcheck] [] (args (aCons (aLf cd_LIcept) (a1 (aLf (cInt .i64))))) (argsI (n := 39) rfl) (shr [.slot 0 false [none]] (l1 cBool)) [] Tryd.func3 Tryd.ntmps3 (by kernel_rfl) 1 rfl (fun a => law3 (a.1) (a.2)) (fun a => none) (fun a e _ => by kernel_rfl) (fun a => true) (fun a h => ⟨law3_is (a.1) (a.2), law3_eq (a.1) (a.2)⟩)

noncomputable def law4 (hd : Head) (key : Str) (v : Str) : Pg Bool :=
  .br (!shortP hd) (.ret true)
    (.br (decide (300 < (↑(List.length key) : Int))) (.ret true)
      (.br (decide (300 < (↑(List.length v) : Int))) (.ret true)
        (.ob (hd.Metas.length ≤ 1000 ∧ List.length key ≤ 1000)
          (.ob (hd.Metas.length ≤ 1000)
            (.lt (meta_P hd key) fun (v1 : Str × Bool) =>
              .lt (rmetaP hd key) fun (v2 : Str × Bool) =>
                .br (v1.fst == v2.fst)
                  (.br (v1.snd == v2.snd)
                    (.lt (stampV hd key v) fun (v3 : Head × Int) => .br (sameHeadP v3.fst v3.fst) (.br (v3.snd == v3.snd) (.ret true) (.ret false)) (.ret false))
                    (.ret false))
                  (.ret false))))))
noncomputable def law4P (hd : Head) (key : Str) (v : Str) : Bool := (law4 hd key v).val

theorem law4_eq (hd : Head) (key v : Str) : (law4 hd key v).val = true := by
  unfold law4
  simp only [val_br, val_ob, val_lt, val_ret, meta_eq, sameHead_refl, beq_self_eq_true, cond_true, Bool.cond_self]

theorem law4_is (hd : Head) (key : Str) (v : Str) : Is (law4 hd key v) :=
  by
  exact is_br (fun _ => is_ret) (fun h1 => is_brd (fun _ => is_ret) (fun h2 => is_brd (fun _ => is_ret) (fun h3 => is_ob ⟨by have := short_ok hd (by simpa using h1); omega, by omega⟩ (is_ob (by have := short_ok hd (by simpa using h1); omega) (is_lt fun v1 hv1 => is_lt fun v2 hv2 => is_br (fun _ => is_br (fun _ => is_lt fun v3 hv3 => is_br (fun _ => is_br (fun _ => is_ret) (fun _ => is_ret)) (fun _ => is_ret)) (fun _ => is_ret)) (fun _ => is_ret))))))
noncomputable def e_law4 : Ent Z := entN Z [e_awake, e_short, e_meta_, e_rmeta, e_stamp, e_rstamp, e_sameHead] [] (args (aCons (aAgg cd_Head) (aCons (aLf cStr) (a1 (aLf cStr))))) (argsI (n := 76) rfl) (shr [.slot 0 false [none]] (l1 cBool)) [] Tryd.func4 Tryd.ntmps4 (by kernel_rfl) 1 rfl (fun a => law4 (a.1) (a.2.1) (a.2.2)) (fun a => none) (fun a e _ => by kernel_rfl) (fun a => true) (fun a h => ⟨law4_is (a.1) (a.2.1) (a.2.2), law4_eq (a.1) (a.2.1) (a.2.2)⟩)
end Go.Proofs.YtemjcccdcnhmhaaDoor
