/-
  Intercept: the law InterceptOrdered.
-/
import Derived.Test.YtemjcccdcnhmhaaGreatDoorL
namespace Go.Proofs.YtemjcccdcnhmhaaGreatDoor
open Go.RowKit Go.Vc
set_option linter.unusedVariables false
set_option linter.unusedSimpArgs false
set_option maxRecDepth 100000

theorem before_cases (l : List Icept) (t : List Trace) (now : Int) (hd : Head) : (∃ e, errs e ∧ runH t now l hd = .inr e ∧ beforeP l t now hd = (hd, t, stOfP e)) ∨
    (∃ h', runH t now l hd = .inl h' ∧ (1 ≤ h'.Deadline ∧ h'.Deadline ≤ now) ∧ beforeP l t now hd = (hd, t, stOfP 23)) ∨ (∃ h', runH t now l hd = .inl h' ∧ ¬ (1 ≤ h'.Deadline ∧ h'.Deadline ≤ now) ∧ ∃ tr, beforeP l t now hd = (h', tr, Status.mk 0 [])) := by
  rw [before_fin]
  unfold finB
  cases hr : runH t now l hd with
  | inr e => exact .inl ⟨e, runH_err t now l hd e hr, rfl, rfl⟩
  | inl x =>
    right
    by_cases h1 : 1 ≤ x.Deadline
    · by_cases h2 : x.Deadline ≤ now
      · exact .inl ⟨x, rfl, ⟨h1, h2⟩, by simp only [decide_eq_true h1, decide_eq_true h2, Bool.and_self, cond_true]⟩
      · refine .inr ⟨x, rfl, fun h => h2 h.2, ?_⟩
        simp only [decide_eq_true h1, decide_eq_false h2, Bool.and_false, cond_false]
        cases decide (0 < spanOf l 0) <;> exact ⟨_, rfl⟩
    · refine .inr ⟨x, rfl, fun h => h1 h.1, ?_⟩
      simp only [decide_eq_false h1, Bool.false_and, cond_false]
      cases decide (0 < spanOf l 0) <;> exact ⟨_, rfl⟩
theorem earlier_le (a b : Int) (h : 1 ≤ a) : 1 ≤ earlierP a b ∧ earlierP a b ≤ a := by
  unfold earlierP earlier
  simp only [val_br, val_ret, val_cut, val_lt, Bool.cond_eq_ite, decide_eq_true_eq]
  (repeat' split) <;> omega
theorem stampV_dl (h : Head) (key val : Str) : (stampV h key val).1.Deadline = h.Deadline := by
  unfold stampV
  cases rentryP key val != 0 <;> cases decide (16 < ((nextM h.Metas key val).length : Int)) <;> rfl
theorem passV_dl (x : Icept) (t : List Trace) (now : Int) (h : Head) (hd : 1 ≤ h.Deadline) : 1 ≤ (passV x t now h).1.Deadline ∧ (passV x t now h).1.Deadline ≤ h.Deadline := by
  unfold passV
  have triv : 1 ≤ h.Deadline ∧ h.Deadline ≤ h.Deadline := ⟨hd, Int.le_refl _⟩
  cases x.Kind == 1
  · cases x.Kind == 3
    · cases x.Kind == 4
      · cases x.Kind == 5
        · exact triv
        · exact earlier_le h.Deadline (afterP now x.Num) hd
      · simp only [cond_true, cond_false]; rw [stampV_dl]; exact triv
    · cases decide (x.Num ≤ recentP t (pathP h.Service h.Method) (wrp .i64 (now - x.Span))) <;> exact triv
  · cases !(rmetaP h x.Key).2 <;> cases (rmetaP h x.Key).1 != x.Val <;> exact triv
theorem runH_late (t : List Trace) (now : Int) : ∀ (l : List Icept) (h h' : Head), runH t now l h = .inl h' → 1 ≤ h.Deadline ∧ h.Deadline ≤ now → 1 ≤ h'.Deadline ∧ h'.Deadline ≤ now
  | [], h, h', e, hd => by cases e; exact hd
  | x :: l, h, h', e, hd => by
    unfold runH at e
    cases hc : (passV x t now h).2 != 0 with
    | true => rw [hc] at e; cases e
    | false =>
      rw [hc] at e
      have := passV_dl x t now h hd.1
      exact runH_late t now l _ _ e ⟨this.1, by omega⟩
theorem ne_b {a : Int} (h : a ≠ 0) : (a != 0) = true := by simpa using h
theorem law6_eq (a b : List Icept) (t : List Trace) (now : Int) (hd : Head) : (law6 a b t now hd).val = true := by
  unfold law6
  simp only [val_br, val_ob, val_lt, val_cut, val_ret]
  by_cases c1 : 12 < (↑a.length : Int)
  · simp only [decide_eq_true c1, cond_true]
  by_cases c2 : 12 < (↑b.length : Int)
  · simp only [decide_eq_false c1, decide_eq_true c2, cond_true, cond_false]
  simp only [decide_eq_false c1, decide_eq_false c2, cond_false]
  cases rightP (a ++ b) t now hd with
  | false => rfl
  | true =>
    simp only [Bool.not_true, cond_false]
    have app := runH_app t now a b hd
    have code0 : ((0 : Int) != 0) = false := rfl
    have code03 : ((0 : Int) == 3) = false := rfl
    rcases before_cases a t now hd with ⟨e, he, hr, hb⟩ | ⟨h1, hr, hl, hb⟩ | ⟨h1, hr, hl, tr, hb⟩
    · rw [hr] at app
      obtain ⟨k1, k2, k3⟩ := st_same he
      rcases before_cases (a ++ b) t now hd with ⟨e', _, hr', hb'⟩ | ⟨h', hr', _, _⟩ | ⟨h', hr', _, _⟩
      · rw [app] at hr'
        cases hr'
        have e3 : ((stOfP e).Code == 3) = false := by simpa using k3
        simp only [hb, hb', ne_b k2, cond_true, sameHead_refl, sameTraces_refl, Bool.not_true, cond_false, thenS_inl, e3, beq_self_eq_true]
      · rw [app] at hr'; cases hr'
      · rw [app] at hr'; cases hr'
    · rw [hr] at app
      have app : runH t now (a ++ b) hd = runH t now b h1 := app
      have z : ∃ st : Status, st.Code ≠ 0 ∧ beforeP (a ++ b) t now hd = (hd, t, st) := by
        rcases before_cases (a ++ b) t now hd with ⟨e', he', _, hb'⟩ | ⟨h', _, _, hb'⟩ | ⟨h', hr', hl', _⟩
        · exact ⟨_, (st_same he').2.1, hb'⟩
        · exact ⟨_, by rw [st23.2]; decide, hb'⟩
        · rw [app] at hr'
          exact absurd (runH_late t now b h1 h' hr' hl) hl'
      obtain ⟨st, z1, z2⟩ := z
      have e3 : ((3 : Int) != 0) = true := rfl
      have e33 : ((3 : Int) == 3) = true := rfl
      simp only [hb, z2, ne_b z1, cond_true, sameHead_refl, sameTraces_refl, Bool.not_true, cond_false, st23.2, e3, e33, thenS_inl]
    · rw [hr] at app
      have app : runH t now (a ++ b) hd = runH t now b h1 := app
      rcases before_cases b t now h1 with ⟨e, he, hrb, hbb⟩ | ⟨h2, hrb, hl2, hbb⟩ | ⟨h2, hrb, hl2, tr2, hbb⟩
      · rcases before_cases (a ++ b) t now hd with ⟨e', _, hr', hb'⟩ | ⟨h', hr', _, _⟩ | ⟨h', hr', _, _⟩
        · rw [app, hrb] at hr'
          cases hr'
          obtain ⟨k1, k2, k3⟩ := st_same he
          simp only [hb, hb', hbb, ne_b k2, cond_true, sameHead_refl, sameTraces_refl, Bool.not_true, cond_false, code0, code03, thenS_inl, beq_self_eq_true]
        · rw [app, hrb] at hr'; cases hr'
        · rw [app, hrb] at hr'; cases hr'
      · rcases before_cases (a ++ b) t now hd with ⟨e', _, hr', hb'⟩ | ⟨h', hr', _, hb'⟩ | ⟨h', hr', hl', _⟩
        · rw [app, hrb] at hr'; cases hr'
        · have e3 : ((3 : Int) != 0) = true := rfl
          simp only [hb, hb', hbb, st23.2, e3, cond_true, sameHead_refl, sameTraces_refl, Bool.not_true, cond_false, code0, code03, thenS_inl, beq_self_eq_true]
        · rw [app, hrb] at hr'
          cases hr'
          exact absurd hl2 hl'
      · rcases before_cases (a ++ b) t now hd with ⟨e', _, hr', hb'⟩ | ⟨h', hr', hl', hb'⟩ | ⟨h', hr', _, tr', hb'⟩
        · rw [app, hrb] at hr'; cases hr'
        · rw [app, hrb] at hr'
          cases hr'
          exact absurd hl' hl2
        · rw [app, hrb] at hr'
          cases hr'
          simp only [hb, hb', hbb, code0, code03, cond_true, sameHead_refl, Bool.not_true, cond_false, thenS_inl, beq_self_eq_true]

theorem law6_is (a : List Icept) (b : List Icept) (t : List Trace) (now : Int) (hd : Head) (h : a.length ≤ 1048576 ∧ b.length ≤ 1048576) : Is (law6 a b t now hd) :=
  by
  obtain ⟨ha, hb⟩ := h
  refine is_ob (room_of (by omega) (by omega)) (is_ob (room_of (by omega) (by omega)) (is_brd (fun _ => is_ret) (fun c1 => is_brd (fun _ => is_ret) (fun c2 => is_lt fun v2 hv2 => is_br (fun _ => is_ret) (fun hr0 => ?_)))))
  have hr : rightP (a ++ b) t now hd = true := by rw [← hv2]; simpa using hr0
  have hB := right_ok (a ++ b) t now hd hr
  obtain ⟨_, _, hs, _, _⟩ := right_parts _ _ _ _ hr
  obtain ⟨s1, s2⟩ := short_ok hd hs
  obtain ⟨o1, o2, o3, o4, o5⟩ := hB
  have oa : okIs a := fun x hx => o2 x (by simp [hx])
  have ob : okIs b := fun x hx => o2 x (by simp [hx])
  refine is_ob ⟨o1, oa, by omega, by omega, by omega⟩ (is_ob (by rw [hv2]; exact ⟨o1, o2, o3, o4, o5⟩) (is_lt fun v3 hv3 => is_lt fun v4 hv4 => is_cut (is_lt fun v6 _ => is_lt fun v7 _ => is_bne (fun _ => is_br (fun _ => is_ret) (fun _ => is_br (fun _ => is_ret) (fun _ => is_bne (fun _ => is_br (fun _ => is_ret) (fun _ => is_br (fun _ => is_ret) (fun _ => is_ret))) (fun _ => is_ret)))) (fun _ => is_bne (fun _ => is_br (fun _ => is_ret) (fun _ => is_br (fun _ => is_ret) (fun _ => is_ret))) (fun _ => is_ret)))
    (fun y1 _ => is_beq (fun _ => is_bne (fun _ => is_ret) (fun _ => is_ret)) (fun _ => is_bne (fun _ => is_beq (fun _ => is_beq (fun _ => is_ret) (fun _ => is_ret)) (fun _ => is_ret)) (fun _ => is_ob ?_ (is_lt fun v5 hv5 => is_beq (fun _ => is_beq (fun _ => is_bne (fun _ => is_ret) (fun _ => is_br (fun _ => is_ret) (fun _ => is_ret))) (fun _ => is_ret)) (fun _ => is_ret)))))))
  have hx : v3.1.Service = hd.Service ∧ v3.1.Method = hd.Method ∧ v3.1.Metas.length ≤ hd.Metas.length + a.length := by
    rw [hv3]
    rcases before_cases a t now hd with ⟨e, _, _, q⟩ | ⟨h1, _, _, q⟩ | ⟨h1, hr1, _, tr, q⟩
    · rw [q]; exact ⟨rfl, rfl, Nat.le_add_right _ _⟩
    · rw [q]; exact ⟨rfl, rfl, Nat.le_add_right _ _⟩
    · rw [q]; exact runH_pres t now a hd h1 hr1
  obtain ⟨x1, x2, x3⟩ := hx
  exact ⟨o1, ob, by omega, by omega, by rw [x1, x2]; omega⟩
noncomputable def e_law6 : Ent Z := entN Z [e_right, e_awake, e_before, e_sameHead, e_sameTraces] [jS 100010 (shp (fun sl => []) l0)] (args (aCons (aLf cd_LIcept) (aCons (aLf cd_LIcept) (aCons (aLf cd_LTrace) (aCons (aLf (cInt .i64)) (a1 (aAgg cd_Head))))))) (argsI (n := 155) rfl) (shr [.slot 0 false [none]] (l1 cBool)) [] Tryz.func5 Tryz.ntmps5 (by kernel_rfl) 1 rfl (fun a => law6 (a.1) (a.2.1) (a.2.2.1) (a.2.2.2.1) (a.2.2.2.2)) (fun a => some ((a.1).length ≤ 1048576 ∧ (a.2.1).length ≤ 1048576)) (fun a e _ => by kernel_rfl) (fun a => true) (fun a h => ⟨law6_is (a.1) (a.2.1) (a.2.2.1) (a.2.2.2.1) (a.2.2.2.2) h, (fun a b t now hd _ => law6_eq a b t now hd) (a.1) (a.2.1) (a.2.2.1) (a.2.2.2.1) (a.2.2.2.2) h⟩)
end Go.Proofs.YtemjcccdcnhmhaaGreatDoor
