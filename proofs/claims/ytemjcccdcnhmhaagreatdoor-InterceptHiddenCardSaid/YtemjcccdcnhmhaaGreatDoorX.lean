/-
  Intercept: what Before does, plainly.
-/
import Derived.Test.YtemjcccdcnhmhaaGreatDoorR
namespace Go.Proofs.YtemjcccdcnhmhaaGreatDoor
open Go.RowKit Go.Vc
set_option linter.unusedVariables false
set_option linter.unusedSimpArgs false
set_option maxRecDepth 100000

def errs (e : Int) : Prop := e = 3 ∨ e = 7 ∨ e = 8 ∨ e = 21 ∨ e = 22
theorem st_same {e : Int} (h : errs e) : stOfP e = rstOfP e ∧ (stOfP e).Code ≠ 0 ∧ (stOfP e).Code ≠ 3 := by
  have k : ∀ (e c : Int), c ≠ 0 → c ≠ 3 → (stOfP e).Code = c → stOfP e = rstOfP e → stOfP e = rstOfP e ∧ (stOfP e).Code ≠ 0 ∧ (stOfP e).Code ≠ 3 := fun e c h0 h3 hc hs => ⟨hs, by rw [hc]; exact h0, by rw [hc]; exact h3⟩
  rcases h with rfl | rfl | rfl | rfl | rfl
  · exact k 3 7 (by decide) (by decide) (by kernel_rfl) (by kernel_rfl)
  · exact k 7 2 (by decide) (by decide) (by kernel_rfl) (by kernel_rfl)
  · exact k 8 2 (by decide) (by decide) (by kernel_rfl) (by kernel_rfl)
  · exact k 21 6 (by decide) (by decide) (by kernel_rfl) (by kernel_rfl)
  · exact k 22 7 (by decide) (by decide) (by kernel_rfl) (by kernel_rfl)
theorem st23 : stOfP 23 = rstOfP 23 ∧ (stOfP 23).Code = 3 := ⟨by kernel_rfl, by kernel_rfl⟩
theorem rentry_err (key val : Str) : rentryP key val = 0 ∨ errs (rentryP key val) := by
  unfold rentryP rentry errs
  simp only [val_br, val_ob, val_ret]
  cases !rkeyP key <;> cases decide (200 < (↑(List.length val) : Int)) <;> cases !rvalidP val <;> simp
theorem stampV_err (h : Head) (key val : Str) : (stampV h key val).2 = 0 ∨ errs (stampV h key val).2 := by
  unfold stampV
  have := rentry_err key val
  by_cases h0 : rentryP key val = 0
  · rw [h0]
    cases decide (16 < ((nextM h.Metas key val).length : Int)) <;> simp [errs]
  · have h1 : (rentryP key val != 0) = true := by simpa using h0
    rw [h1]
    exact .inr (this.resolve_left h0)
theorem passV_err (x : Icept) (t : List Trace) (now : Int) (h : Head) : (passV x t now h).2 = 0 ∨ errs (passV x t now h).2 := by
  unfold passV
  have := stampV_err h x.Key x.Val
  cases x.Kind == 1
  · cases x.Kind == 3
    · cases x.Kind == 4
      · cases x.Kind == 5 <;> simp
      · exact this
    · cases decide (x.Num ≤ recentP t (pathP h.Service h.Method) (wrp .i64 (now - x.Span))) <;> simp [errs]
  · cases !(rmetaP h x.Key).2 <;> cases (rmetaP h x.Key).1 != x.Val <;> simp [errs]
noncomputable def runH (t : List Trace) (now : Int) : List Icept → Head → Head ⊕ Int
  | [], h => .inl h
  | x :: l, h => bif (passV x t now h).2 != 0 then .inr (passV x t now h).2 else runH t now l (passV x t now h).1
def spanOf : List Icept → Int → Int
  | [], s => s
  | x :: l, s => spanOf l (bif x.Kind == 3 then max s x.Span else s)
noncomputable def finB (l : List Icept) (t : List Trace) (now : Int) (hd : Head) : Head × List Trace × Status :=
  match runH t now l hd with
  | .inr e => (hd, t, stOfP e)
  | .inl x => bif decide (1 ≤ x.Deadline) && decide (x.Deadline ≤ now) then (hd, t, stOfP 23) else
    bif decide (0 < spanOf l 0) then (x, keepT (wrp .i64 (now - spanOf l 0)) (nextT t (pathP hd.Service hd.Method) now), Status.mk 0 []) else (x, t, Status.mk 0 [])
theorem runH_pres (t : List Trace) (now : Int) : ∀ (l : List Icept) (h h' : Head), runH t now l h = .inl h' → h'.Service = h.Service ∧ h'.Method = h.Method ∧ h'.Metas.length ≤ h.Metas.length + l.length
  | [], h, h', e => by cases e; exact ⟨rfl, rfl, Nat.le_refl _⟩
  | x :: l, h, h', e => by
    obtain ⟨p1, p2, p3⟩ := passV_facts x t now h
    unfold runH at e
    cases hc : (passV x t now h).2 != 0 with
    | true => rw [hc] at e; cases e
    | false =>
      rw [hc] at e
      obtain ⟨q1, q2, q3⟩ := runH_pres t now l _ _ e
      exact ⟨q1.trans p1, q2.trans p2, by simp only [List.length_cons]; omega⟩
theorem runH_err (t : List Trace) (now : Int) : ∀ (l : List Icept) (h : Head) (e : Int), runH t now l h = .inr e → errs e
  | [], h, e, he => by cases he
  | x :: l, h, e, he => by
    unfold runH at he
    cases hc : (passV x t now h).2 != 0 with
    | true =>
      rw [hc] at he
      cases he
      exact (passV_err x t now h).resolve_left (by simpa using hc)
    | false => rw [hc] at he; exact runH_err t now l _ e he
theorem runH_app (t : List Trace) (now : Int) : ∀ (a b : List Icept) (h : Head), runH t now (a ++ b) h = Sum.elim (fun h' => runH t now b h') .inr (runH t now a h)
  | [], b, h => rfl
  | x :: a, b, h => by
    simp only [List.cons_append, runH]
    cases (passV x t now h).2 != 0 with
    | true => rfl
    | false => exact runH_app t now a b _
theorem before_loop (hd : Head) (t : List Trace) (now : Int) : ∀ (l : List Icept) (k : Nat) (s : Int) (h : Head), forE (fun (_ : Nat) (a : Icept) (y2 : Int × Head) => bif (passV a t now y2.2).2 != 0 then (Sum.inr (Sum.inr (hd, t, stOfP (passV a t now y2.2).2)) : (Int × Head) ⊕ ((Int × Head) ⊕ (Head × List Trace × Status)))
      else bif a.Kind == 3 then .inl (max y2.1 a.Span, (passV a t now y2.2).1) else .inl (y2.1, (passV a t now y2.2).1)) (fun _ y2 => .inl y2) l k (s, h) = Sum.elim (fun h' => .inl (spanOf l s, h')) (fun e => .inr (hd, t, stOfP e)) (runH t now l h)
  | [], k, s, h => rfl
  | a :: l, k, s, h => by
    unfold forE runH spanOf
    cases (passV a t now h).2 != 0 with
    | true => rfl
    | false =>
      cases a.Kind == 3 with
      | true => exact before_loop hd t now l (k + 1) (max s a.Span) _
      | false => exact before_loop hd t now l (k + 1) s _
theorem before_fin (l : List Icept) (t : List Trace) (now : Int) (hd : Head) : beforeP l t now hd = finB l t now hd := by
  unfold beforeP before finB
  simp only [val_cut, val_as, val_each, val_ix, val_ob, val_lt, val_br, val_ret]
  rw [before_loop]
  cases hr : runH t now l hd with
  | inr e => rfl
  | inl x =>
    simp only [Sum.elim_inl, thenS_inl]
    cases decide (1 ≤ x.Deadline) <;> cases decide (x.Deadline ≤ now) <;> rfl
theorem rbefore_round (hd : Head) (t : List Trace) (now : Int) (a : Icept) (y2 : Int × Head) : (bif a.Kind == 1 then
        bif !(rmetaP y2.2 a.Key).2 then (Sum.inr (Sum.inr (hd, t, rstOfP 21)) : (Int × Head) ⊕ ((Int × Head) ⊕ (Head × List Trace × Status))) else bif (rmetaP y2.2 a.Key).1 != a.Val then .inr (.inr (hd, t, rstOfP 21)) else .inl y2
      else bif a.Kind == 3 then bif decide (a.Num ≤ rrecentP t (rpathP y2.2.Service y2.2.Method) (wrp .i64 (now - a.Span))) then .inr (.inr (hd, t, rstOfP 22)) else .inl (max y2.1 a.Span, y2.2)
      else bif a.Kind == 4 then bif (stampV y2.2 a.Key a.Val).2 != 0 then .inr (.inr (hd, t, rstOfP (stampV y2.2 a.Key a.Val).2)) else .inl (y2.1, (stampV y2.2 a.Key a.Val).1)
      else bif a.Kind == 5 then .inl (y2.1, Head.mk y2.2.Service y2.2.Method (rearlierP y2.2.Deadline (rafterP now a.Num)) y2.2.Metas) else .inl y2) =
    bif (passV a t now y2.2).2 != 0 then (Sum.inr (Sum.inr (hd, t, stOfP (passV a t now y2.2).2)) : (Int × Head) ⊕ ((Int × Head) ⊕ (Head × List Trace × Status)))
      else bif a.Kind == 3 then .inl (max y2.1 a.Span, (passV a t now y2.2).1) else .inl (y2.1, (passV a t now y2.2).1) := by
  have d : ∀ i j : Int, i ≠ j → a.Kind = i → (a.Kind == j) = false := fun i j h e => by rw [beq_eq_false_iff_ne, e]; exact h
  have s : ∀ i : Int, a.Kind = i → (a.Kind == i) = true := fun i e => by rw [e]; exact beq_self_eq_true i
  have b21 : ((21 : Int) != 0) = true := rfl
  have b22 : ((22 : Int) != 0) = true := rfl
  have b0 : ((0 : Int) != 0) = false := rfl
  have s21 := (st_same (e := 21) (by simp [errs])).1
  have s22 := (st_same (e := 22) (by simp [errs])).1
  unfold passV
  by_cases k1 : a.Kind = 1
  · simp only [s 1 k1, d 1 3 (by decide) k1, cond_true, cond_false]
    cases !(rmetaP y2.2 a.Key).2 <;> cases (rmetaP y2.2 a.Key).1 != a.Val <;> simp only [cond_true, cond_false, b21, b0, s21]
  by_cases k3 : a.Kind = 3
  · simp only [s 3 k3, d 3 1 (by decide) k3, cond_true, cond_false, rrecent_eq, rpath_eq]
    cases decide (a.Num ≤ recentP t (pathP y2.2.Service y2.2.Method) (wrp .i64 (now - a.Span))) <;> simp only [cond_true, cond_false, b22, b0, s22]
  by_cases k4 : a.Kind = 4
  · simp only [s 4 k4, d 4 1 (by decide) k4, d 4 3 (by decide) k4, cond_true, cond_false]
    cases hc : (stampV y2.2 a.Key a.Val).2 != 0 with
    | true => rw [(st_same ((stampV_err y2.2 a.Key a.Val).resolve_left (by simpa using hc))).1]
    | false => rfl
  by_cases k5 : a.Kind = 5
  · simp only [s 5 k5, d 5 1 (by decide) k5, d 5 3 (by decide) k5, d 5 4 (by decide) k5, cond_true, cond_false, rearlier_eq, rafter_eq, b0]
  have n : ∀ i : Int, a.Kind ≠ i → (a.Kind == i) = false := fun i h => by rw [beq_eq_false_iff_ne]; exact h
  simp only [n 1 k1, n 3 k3, n 4 k4, n 5 k5, cond_false, b0]
theorem rbefore_eq (l : List Icept) (t : List Trace) (now : Int) (hd : Head) : (rbefore l t now hd).val = beforeP l t now hd := by
  rw [before_fin]
  unfold rbefore finB
  simp only [val_cut, val_as, val_each, val_ix, val_ob, val_lt, val_br, val_ret, rbefore_round]
  rw [before_loop]
  cases hr : runH t now l hd with
  | inr e => rfl
  | inl x =>
    obtain ⟨q1, q2, _⟩ := runH_pres t now l hd x hr
    simp only [Sum.elim_inl, thenS_inl, rpath_eq, q1, q2, st23.1]
    cases decide (1 ≤ x.Deadline) <;> cases decide (x.Deadline ≤ now) <;> rfl

theorem rbefore_is (l : List Icept) (t : List Trace) (now : Int) (hd : Head) (h : okB l t hd) : Is (rbefore l t now hd) :=
  by
  obtain ⟨h1, h2, h3, h4, h5⟩ := h
  refine is_cut (is_eachI (fun k y => y.2.Service = hd.Service ∧ y.2.Method = hd.Method ∧ y.2.Metas.length ≤ 100 + k) ⟨rfl, rfl, h4⟩ (.inl rfl) (fun i1 y2 hlt _ hI => ?_) (fun y2 _ _ => is_ret)) (fun y4 hy4 => is_cut (is_brd (fun _ => is_brd (fun _ => is_ret) (fun _ => is_ret)) (fun _ => is_ret)) (fun y5 hy5 => is_brd (fun _ => ?_) (fun _ => is_ret)))
  · obtain ⟨q1, q2, q3⟩ := hI
    have k2 := h2 _ (getD_mem (d := d_Icept) hlt)
    have hp : y2.2.Service.length + y2.2.Method.length ≤ 1000000 := by rw [q1, q2]; exact h5
    refine ⟨is_ix (by omega) (by omega) (is_beq (fun _ => is_ix (by omega) (by omega) (is_lt fun v7 hv7 => is_lt fun v8 hv8 => is_br (fun _ => is_ret) (fun _ => is_ix (by omega) (by omega) (is_bne (fun _ => is_ret) (fun _ => is_ret)))))
      (fun _ => is_beq (fun _ => is_ob hp (is_ix (by omega) (by omega) (is_ix (by omega) (by omega) (is_lt fun v9 hv9 => is_brd (fun _ => is_ix (by omega) (by omega) is_ret) (fun _ => is_ix (by omega) (by omega) is_ret)))))
      (fun _ => is_beq (fun _ => is_ix (by omega) (by omega) (is_ix (by omega) (by omega) (is_ob (by omega) (is_lt fun v10 hv10 => is_bne (fun _ => is_ret) (fun _ => is_ret)))))
      (fun _ => is_beq (fun _ => is_ix (by omega) (by omega) is_ret) (fun _ => is_ret))))), fun y' hy' => ?_⟩
    simp only [val_ix, val_ob, val_lt, val_br, val_ret, rbefore_round] at hy'
    obtain ⟨p1, p2, p3⟩ := passV_facts (l.getD i1 d_Icept) t now y2.2
    revert hy'
    cases (passV (l.getD i1 d_Icept) t now y2.2).2 != 0 <;> cases (l.getD i1 d_Icept).Kind == 3 <;> simp only [cond_true, cond_false] <;> intro e <;> cases e <;> exact ⟨p1.trans q1, p2.trans q2, by show (passV (l.getD i1 d_Icept) t now y2.2).1.Metas.length ≤ 100 + (i1 + 1); omega⟩
  · simp only [val_cut, val_as, val_each, val_ix, val_ob, val_lt, val_br, val_ret, rbefore_round] at hy4
    rw [before_loop] at hy4
    cases hr : runH t now l hd with
    | inr e => rw [hr] at hy4; cases hy4
    | inl x =>
      obtain ⟨q1, q2, _⟩ := runH_pres t now l hd x hr
      rw [hr] at hy4
      cases hy4
      exact is_ob (by show x.Service.length + x.Method.length ≤ _; rw [q1, q2]; exact h5) (is_ob h1 (is_lt fun v6 hv6 => is_ob (by subst hv6; exact nextT_ok _ _ _ h1) is_ret))
noncomputable def e_rbefore : Ent Z := entN Z [e_rmeta, e_rrecent, e_rpath, e_rstamp, e_rearlier, e_rafter, e_rstOf, e_rkept, e_rnoted] [jS 4 (shp (fun sl => [.slot 13 false [none], .slot 12 false [none], .cells (pid (sl 11)) [none, none, none, none]]) (lCons (cInt .i64) (lCons (cInt .i64) (l1 cd_Head)))), jS 100024 (shp (fun sl => [.slot 12 false [none], .cells (pid (sl 11)) [none, none, none, none]]) (lCons (cInt .i64) (l1 cd_Head))), jS 100026 (shp (fun sl => []) l0)] (args (aCons (aLf cd_LIcept) (aCons (aLf cd_LTrace) (aCons (aLf (cInt .i64)) (a1 (aAgg cd_Head)))))) (argsI (n := 150) rfl) (shr [.slot 0 true [none, none, none, none], .slot 1 false [none], .slot 2 true [none, none]] (lCons cd_Head (lCons cd_LTrace (l1 cd_Status)))) [] Tryz.func10 Tryz.ntmps10 (by kernel_rfl) 3 rfl (fun a => rbefore (a.1) (a.2.1) (a.2.2.1) (a.2.2.2)) (fun a => some (okB (a.1) (a.2.1) (a.2.2.2))) (fun a e _ => by kernel_rfl) (fun a => beforeP (a.1) (a.2.1) (a.2.2.1) (a.2.2.2)) (fun a h => ⟨rbefore_is (a.1) (a.2.1) (a.2.2.1) (a.2.2.2) h, (fun l t now hd _ => rbefore_eq l t now hd) (a.1) (a.2.1) (a.2.2.1) (a.2.2.2) h⟩)

noncomputable def law1 (l : List Icept) (t : List Trace) (now : Int) (hd : Head) : Pg Bool :=
  .br (!rightP l t now hd) (.ret true)
    (.ob (okB l t hd)
      (.ob (okB l t hd)
        (.lt (beforeP l t now hd) fun (v1 : Head × List Trace × Status) =>
          .br (sameHeadP v1.fst v1.fst)
            (.br (sameTracesP v1.snd.fst v1.snd.fst)
              (.br (v1.snd.snd.Code == v1.snd.snd.Code) (.br (v1.snd.snd.Text == v1.snd.snd.Text) (.ret true) (.ret false)) (.ret false)) (.ret false))
            (.ret false))))
noncomputable def law1P (l : List Icept) (t : List Trace) (now : Int) (hd : Head) : Bool := (law1 l t now hd).val

noncomputable def law6 (a : List Icept) (b : List Icept) (t : List Trace) (now : Int) (hd : Head) : Pg Bool :=
  .ob (roomP a.length 56)
    (.ob (roomP (a.length + b.length) 56)
      (.br (decide (12 < (↑a.length : Int))) (.ret true)
        (.br (decide (12 < (↑b.length : Int))) (.ret true)
          (.lt (a ++ b) fun (v2 : List Icept) =>
            .br (!rightP v2 t now hd) (.ret true)
              (.ob (okB a t hd)
                (.ob (okB v2 t hd)
                  (.lt (beforeP a t now hd) fun (v3 : Head × List Trace × Status) =>
                    .lt (beforeP v2 t now hd) fun (v4 : Head × List Trace × Status) =>
                      .cut
                        (fun (y1 : Unit) =>
                          .br (v3.snd.snd.Code == 3) (.br (v4.snd.snd.Code != 0) (.ret true) (.ret false))
                            (.br (v3.snd.snd.Code != 0)
                              (.br (v4.snd.snd.Code == v3.snd.snd.Code) (.br (v4.snd.snd.Text == v3.snd.snd.Text) (.ret true) (.ret false)) (.ret false))
                              (.ob (okB b t v3.fst)
                                (.lt (beforeP b t now v3.fst) fun (v5 : Head × List Trace × Status) =>
                                  .br (v4.snd.snd.Code == v5.snd.snd.Code)
                                    (.br (v4.snd.snd.Text == v5.snd.snd.Text)
                                      (.br (v4.snd.snd.Code != 0) (.ret true) (.br (sameHeadP v5.fst v4.fst) (.ret true) (.ret false))) (.ret false))
                                    (.ret false)))))
                        (.lt (sameTracesP v3.snd.fst t) fun (v6 : Bool) =>
                          .lt (sameHeadP v3.fst hd) fun (v7 : Bool) =>
                            .br (v4.snd.snd.Code != 0)
                              (.br (!sameHeadP v4.fst hd) (.ret (.inr false))
                                (.br (!sameTracesP v4.snd.fst t) (.ret (.inr false))
                                  (.br (v3.snd.snd.Code != 0) (.br (!v7) (.ret (.inr false)) (.br (!v6) (.ret (.inr false)) (.ret (.inl ()))))
                                    (.ret (.inl ())))))
                              (.br (v3.snd.snd.Code != 0) (.br (!v7) (.ret (.inr false)) (.br (!v6) (.ret (.inr false)) (.ret (.inl ()))))
                                (.ret (.inl ())))))))))))
noncomputable def law6P (a : List Icept) (b : List Icept) (t : List Trace) (now : Int) (hd : Head) : Bool := (law6 a b t now hd).val
end Go.Proofs.YtemjcccdcnhmhaaGreatDoor
