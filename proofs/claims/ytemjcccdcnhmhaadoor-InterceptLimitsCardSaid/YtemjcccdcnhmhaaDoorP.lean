/-
  Intercept: the law InterceptLimits.
-/
import Derived.Test.YtemjcccdcnhmhaaDoorL
namespace Go.Proofs.YtemjcccdcnhmhaaDoor
open Go.RowKit Go.Vc
set_option linter.unusedVariables false
set_option linter.unusedSimpArgs false
set_option maxRecDepth 100000

theorem chk_lim (n span : Int) (h : rcheckP [Icept.mk 3 [] [] n span] = 0) : 1 ≤ n ∧ n ≤ 1000 ∧ 1 ≤ span ∧ span ≤ 1099511627776 := by
  have e : rcheckP [Icept.mk 3 [] [] n span] = (bif !rfieldsP (Icept.mk 3 [] [] n span) then 1 else 0) := by
    unfold rcheckP rcheck
    have d8 : decide (8 < (↑[Icept.mk 3 [] [] n span].length : Int)) = false := rfl
    simp only [val_br, val_each, val_ix, val_lt, val_ret, forE, d8, cond_false]
    cases rfieldsP (Icept.mk 3 [] [] n span) <;> rfl
  have f : rfieldsP (Icept.mk 3 [] [] n span) = (bif decide (1 ≤ n) then bif decide (n ≤ 1000) then bif decide (1 ≤ span) then decide (span ≤ 1099511627776) else false else false else false) := by
    unfold rfieldsP rfields
    simp only [val_br, val_cut, val_ret]
    rfl
  rw [e, f] at h
  by_cases a : 1 ≤ n
  · by_cases b : n ≤ 1000
    · by_cases c : 1 ≤ span
      · by_cases d : span ≤ 1099511627776
        · exact ⟨a, b, c, d⟩
        · simp [a, b, c, d] at h
      · simp [a, b, c] at h
    · simp [a, b] at h
  · simp [a] at h
def hd0 : Head := Head.mk [97, 46, 83] [71, 101, 116] 0 []
noncomputable def p0 : Str := pathP hd0.Service hd0.Method
def cntF (th : Int) (l : List Int) : Int := l.foldl (fun y a => bif decide (th < a) then wrp .i64 (y + 1) else y) 0
theorem cntF_go (th : Int) : ∀ (l : List Int) (k : Int), 0 ≤ k → k + l.length ≤ 9223372036854775807 → l.foldl (fun y a => bif decide (th < a) then wrp .i64 (y + 1) else y) k = k + (l.filter fun a => decide (th < a)).length
  | [], k, _, _ => by simp
  | a :: l, k, h0, h1 => by
    simp only [List.length_cons] at h1
    rw [List.foldl_cons, List.filter_cons]
    by_cases c : th < a
    · have e : wrp .i64 (k + 1) = k + 1 := wrp_in (k := .i64) (show _ ∧ _ from ⟨by omega, by omega⟩)
      simp only [decide_eq_true c, cond_true, if_true, e]
      rw [cntF_go th l (k + 1) (by omega) (by omega)]
      simp only [List.length_cons]; omega
    · simp only [decide_eq_false c, cond_false, if_false, Bool.false_eq_true]
      exact cntF_go th l k h0 (by omega)
theorem cntF_eq (th : Int) (l : List Int) (h : l.length ≤ 1000) : cntF th l = (l.filter fun a => decide (th < a)).length := by
  unfold cntF
  rw [cntF_go th l 0 (Int.le_refl _) (by omega)]; omega
noncomputable def trOf (ts : List Int) : List Trace := bif ts.isEmpty then [] else [⟨p0, ts⟩]
theorem recent_tr (ts : List Int) (th : Int) : recentP (trOf ts) p0 th = cntF th ts := by
  unfold recentP recent cntF
  simp only [val_lt, val_br, val_ix, val_as, val_each, val_ret]
  cases ts with
  | nil => rfl
  | cons a ts =>
    have e1 : trOf (a :: ts) = [⟨p0, a :: ts⟩] := rfl
    have e2 : ixOf (fun (x : Trace) => x.Method == p0) [⟨p0, a :: ts⟩] = 0 := by
      show ixFrom _ _ _ = _
      unfold ixFrom
      rw [beq_self_eq_true]; rfl
    rw [e1, e2]
    show forE (fun k b y => bif decide (th < b) then Sum.inl (wrp .i64 (y + 1)) else Sum.inl y) (fun k y => y) (a :: ts) 0 0 = _
    rw [forE_cong (b' := fun _ b y => Sum.inl (bif decide (th < b) then wrp .i64 (y + 1) else y)) (f' := fun _ y => y) (a :: ts) 0 0 (fun j b y _ _ => by cases decide (th < b) <;> rfl) (fun _ => rfl), forE_fold]
theorem next_tr (ts : List Int) (now : Int) : nextT (trOf ts) p0 now = [⟨p0, ts ++ [now]⟩] := by
  cases ts with
  | nil => rfl
  | cons a ts =>
    have e1 : trOf (a :: ts) = [⟨p0, a :: ts⟩] := rfl
    have e2 : eqM p0 ⟨p0, a :: ts⟩ = true := by show (p0 == p0) = true; rw [beq_self_eq_true]
    rw [e1]
    unfold nextT addT
    simp only [List.any_cons, e2, Bool.true_or, cond_true]
theorem keep_tr (ts : List Int) (th : Int) : keepT th [⟨p0, ts⟩] = trOf (ts.filter fun y => !decide (y ≤ th)) := by
  unfold keepT fltT trOf
  simp only [List.map_cons, List.map_nil]
  cases h : (ts.filter fun y => !decide (y ≤ th)) <;> simp [h]
theorem code22 : (stOfP 22).Code = 7 := by kernel_rfl
theorem before_lim (n span : Int) (hs : 1 ≤ span) (ts : List Int) (now : Int) : beforeP [Icept.mk 3 [] [] n span] (trOf ts) now hd0 =
    bif decide (n ≤ cntF (wrp .i64 (now - span)) ts) then (hd0, trOf ts, stOfP 22) else (hd0, trOf ((ts ++ [now]).filter fun y => !decide (y ≤ wrp .i64 (now - span))), Status.mk 0 []) := by
  have hp : passV (Icept.mk 3 [] [] n span) (trOf ts) now hd0 = (bif decide (n ≤ recentP (trOf ts) p0 (wrp .i64 (now - span))) then (hd0, 22) else (hd0, 0)) := rfl
  have hm : max 0 span = span := by omega
  have ht : decide (0 < span) = true := decide_eq_true (by omega)
  unfold beforeP before
  simp only [val_cut, val_br, val_ob, val_ret, val_as, val_each, val_ix, val_lt, forE, hp, recent_tr]
  cases decide (n ≤ cntF (wrp .i64 (now - span)) ts) with
  | true => rfl
  | false =>
    show (bif decide (0 < max 0 span) then (hd0, keepT (wrp .i64 (now - max 0 span)) (nextT (trOf ts) p0 now), Status.mk 0 []) else (hd0, trOf ts, Status.mk 0 [])) = _
    rw [hm, ht, next_tr, keep_tr]; rfl
def LInv (span : Int) (i : Nat) (y : List Trace × List Int × Int) : Prop :=
  0 ≤ y.2.2 ∧ y.2.2 ≤ i * 1073741824 ∧ y.2.1.length ≤ i ∧ ∃ ts, y.1 = trOf ts ∧ ts.length ≤ i ∧ ∀ th, y.2.2 - span ≤ th → (ts.filter fun a => decide (th < a)) = y.2.1.filter fun a => decide (th < a)
noncomputable def stepV (n span a : Int) (y : List Trace × List Int × Int) : (List Trace × List Int × Int) ⊕ Bool :=
  bif decide (a < 0) then .inl y else bif decide (1073741824 < a) then .inl y else
    bif ((beforeP [Icept.mk 3 [] [] n span] y.1 (wrp .i64 (y.2.2 + a)) hd0).2.2.Code == 0) != decide (cntF (wrp .i64 (wrp .i64 (y.2.2 + a) - span)) y.2.1 < n) then .inr false
    else bif (beforeP [Icept.mk 3 [] [] n span] y.1 (wrp .i64 (y.2.2 + a)) hd0).2.2.Code == 0 then .inl ((beforeP [Icept.mk 3 [] [] n span] y.1 (wrp .i64 (y.2.2 + a)) hd0).2.1, y.2.1 ++ [wrp .i64 (y.2.2 + a)], wrp .i64 (y.2.2 + a))
    else .inl ((beforeP [Icept.mk 3 [] [] n span] y.1 (wrp .i64 (y.2.2 + a)) hd0).2.1, y.2.1, wrp .i64 (y.2.2 + a))
theorem step_inv (n span a : Int) (hs : 1 ≤ span) (hs2 : span ≤ 1099511627776) (i : Nat) (hi : i < 60) (y : List Trace × List Int × Int) (h : LInv span i y) : ∃ y', stepV n span a y = .inl y' ∧ LInv span (i + 1) y' := by
  obtain ⟨t, acc, cur⟩ := y
  obtain ⟨h1, h2, h3, ts, e, h4, h5⟩ := h
  simp only at h1 h2 h3 e h5
  subst e
  have triv : LInv span (i + 1) (trOf ts, acc, cur) := ⟨h1, by simp only; omega, by simp only; omega, ts, rfl, by omega, h5⟩
  unfold stepV
  by_cases c1 : a < 0
  · exact ⟨_, by simp only [decide_eq_true c1, cond_true], triv⟩
  by_cases c2 : 1073741824 < a
  · exact ⟨_, by simp only [decide_eq_true c2, decide_eq_false c1, cond_true, cond_false], triv⟩
  have w1 : wrp .i64 (cur + a) = cur + a := wrp_in (k := .i64) (show _ ∧ _ from ⟨by omega, by omega⟩)
  have w2 : wrp .i64 (cur + a - span) = cur + a - span := wrp_in (k := .i64) (show _ ∧ _ from ⟨by omega, by omega⟩)
  have ec : cntF (cur + a - span) ts = cntF (cur + a - span) acc := by
    rw [cntF_eq _ _ (by omega), cntF_eq _ _ (by omega), h5 _ (by omega)]
  simp only [decide_eq_false c1, decide_eq_false c2, cond_false, w1, w2, before_lim n span hs, ec]
  by_cases c3 : n ≤ cntF (cur + a - span) acc
  · have c4 : ¬ cntF (cur + a - span) acc < n := by omega
    simp only [decide_eq_true c3, decide_eq_false c4, cond_true, code22]
    refine ⟨(trOf ts, acc, cur + a), rfl, by simp only; omega, by simp only; omega, by simp only; omega, ts, rfl, by omega, fun th hth => h5 th ?_⟩
    simp only at hth; omega
  · have c4 : cntF (cur + a - span) acc < n := by omega
    simp only [decide_eq_false c3, decide_eq_true c4, cond_false]
    refine ⟨(trOf ((ts ++ [cur + a]).filter fun y => !decide (y ≤ cur + a - span)), acc ++ [cur + a], cur + a), rfl, by simp only; omega, by simp only; omega, by simp only [List.length_append, List.length_cons, List.length_nil]; omega, (ts ++ [cur + a]).filter fun y => !decide (y ≤ cur + a - span), rfl, ?_, ?_⟩
    · refine Nat.le_trans (List.length_filter_le _ _) ?_
      simp only [List.length_append, List.length_cons, List.length_nil]; omega
    · intro th hth
      simp only at hth
      rw [List.filter_filter, List.filter_append, List.filter_append]
      have e1 : (fun x : Int => decide (th < x) && !decide (x ≤ cur + a - span)) = fun x : Int => decide (th < x) := by
        funext x
        by_cases k : th < x
        · have : ¬ x ≤ cur + a - span := by omega
          simp [k, this]
        · simp [k]
      rw [e1, h5 th (by omega)]
theorem tr_len (ts : List Int) (h : ts.length ≤ 1000) : okT (trOf ts) := by
  cases ts with
  | nil => exact okT0
  | cons a ts =>
    refine ⟨by show 1 ≤ 1000; decide, fun x hx => ?_⟩
    rw [List.mem_singleton.mp hx]
    exact h
theorem forE_inv {A Y R : Type} {b : Nat → A → Y → Y ⊕ R} {f : Nat → Y → R} {d : A} {r : R} (I : Nat → Y → Prop) (hf : ∀ i y, f i y = r) : ∀ (l : List A) (k : Nat) (y : Y), I k y → (∀ j y, j < l.length → I (k + j) y → ∃ y', b (k + j) (l.getD j d) y = .inl y' ∧ I (k + j + 1) y') → forE b f l k y = r
  | [], k, y, _, _ => hf k y
  | a :: l, k, y, h0, h => by
    unfold forE
    obtain ⟨y', e, h1⟩ := h 0 y (by simp) h0
    have e' : b k a y = .inl y' := e
    rw [e']
    refine forE_inv (d := d) I hf l (k + 1) y' h1 (fun j z hj hz => ?_)
    have := h (j + 1) z (by simp; omega) (by rw [← Nat.add_assoc, Nat.add_right_comm]; exact hz)
    rw [← Nat.add_assoc, Nat.add_right_comm] at this
    exact this

noncomputable def law5 (n : Int) (span : Int) (times : List Int) : Pg Bool :=
  .br (rcheckP [Icept.mk 3 [] [] n span] != 0) (.ret true)
    (.br (decide (60 < (↑times.length : Int))) (.ret true)
      (.each true ixP times 0
        (fun (i1 a7 : Int) (y2 : List Trace × List Int × Int) =>
          .ix i1 times.length
            (.br (decide (a7 < 0)) (.ret (.inl y2))
              (.ix i1 times.length
                (.br (decide (1073741824 < a7)) (.ret (.inl y2))
                  (.ix i1 times.length
                    (.lt (wrp .i64 (y2.snd.snd + a7)) fun (v8 : Int) =>
                      .cut
                        (fun (y6 : Int) =>
                          .ob
                            (okB [Icept.mk 3 [] [] n span] y2.fst
                              (Head.mk [97, 46, 83] [71, 101, 116] 0 []))
                            (.lt
                              (beforeP [Icept.mk 3 [] [] n span] y2.fst v8
                                (Head.mk [97, 46, 83] [71, 101, 116] 0 []))
                              fun (v9 : Head × List Trace × Status) =>
                              .br ((v9.snd.snd.Code == 0) != decide (y6 < n)) (.ret (.inr false))
                                (.br (v9.snd.snd.Code == 0)
                                  (.ob (roomP (y2.snd.fst.length + 1) 8) (.ret (.inl (v9.snd.fst, y2.snd.fst ++ [v8], v8))))
                                  (.ret (.inl (v9.snd.fst, y2.snd.fst, v8))))))
                        (.each true ixP y2.snd.fst 0
                          (fun (i3 a5 y4 : Int) =>
                            .ix i3 y2.snd.fst.length
                              (.ob (i3.toNat < y2.snd.fst.length)
                                (.lt (wrp .i64 (v8 - span)) fun (v10 : Int) =>
                                  .br (decide (v10 < a5)) (.ret (.inl (wrp .i64 (y4 + 1)))) (.ret (.inl y4)))))
                          (fun (i3 y4 : Int) => .ret (.inl y4)) 0)))))))
        (fun (i1 : Int) (y2 : List Trace × List Int × Int) => .ret true) ([], [], 0)))
noncomputable def law5P (n : Int) (span : Int) (times : List Int) : Bool := (law5 n span times).val

theorem cnt_each {R : Type} (th : Int) (l : List Int) : forE (R := Int ⊕ R) (fun (_ : Nat) (b : Int) (y : Int) => bif decide (th < b) then Sum.inl (wrp .i64 (y + 1)) else Sum.inl y) (fun _ y => Sum.inl y) l 0 0 = Sum.inl (cntF th l) := by
  rw [forE_cong (b' := fun _ b y => Sum.inl (bif decide (th < b) then wrp .i64 (y + 1) else y)) (f' := fun _ y => Sum.inl y) l 0 0 (fun j b y _ _ => by cases decide (th < b) <;> rfl) (fun _ => rfl), forE_fold]; rfl
theorem linv0 (span : Int) : LInv span 0 ([], [], 0) := ⟨Int.le_refl _, by simp, Nat.le_refl _, [], rfl, Nat.le_refl _, fun _ _ => rfl⟩
theorem law5_eq (n span : Int) (times : List Int) : (law5 n span times).val = true := by
  unfold law5
  simp only [val_br, val_each, val_ret]
  by_cases h0 : rcheckP [Icept.mk 3 [] [] n span] = 0
  · obtain ⟨_, _, hs, hs2⟩ := chk_lim n span h0
    by_cases h1 : 60 < (↑times.length : Int)
    · simp only [decide_eq_true h1, cond_true, Bool.cond_self]
    · simp only [h0, bne_self_eq_false, decide_eq_false h1, cond_false]
      refine forE_inv (d := 0) (LInv span) (fun _ _ => rfl) times 0 _ (linv0 span) (fun j y hj hI => ?_)
      obtain ⟨y', e, h⟩ := step_inv n span (times.getD j 0) hs hs2 (0 + j) (by omega) y hI
      refine ⟨y', ?_, h⟩
      rw [← e]
      simp only [val_ix, val_br, val_lt, val_cut, val_ob, val_ret, val_each, cnt_each, thenS_inl]
      rfl
  · simp only [bne_iff_ne.mpr h0, cond_true]

theorem law5_is (n : Int) (span : Int) (times : List Int) : Is (law5 n span times) :=
  by
  refine is_bne (fun _ => is_ret) (fun h0 => is_brd (fun _ => is_ret) (fun h60 => is_eachI (LInv span) (linv0 span) (.inl rfl) (fun i y hlt _ hI => ⟨?_, fun y' hy' => ?_⟩) (fun y _ _ => is_ret)))
  · obtain ⟨q1, q2, q3, ts, q4, q5, q6⟩ := hI
    exact is_ix (by omega) (by omega) (is_brd (fun _ => is_ret) (fun c1 => is_ix (by omega) (by omega) (is_brd (fun _ => is_ret) (fun c2 => is_ix (by omega) (by omega) (is_lt fun v8 hv8 => is_cut (is_each (.inl rfl) (fun i3 y4 _ _ => is_ix (by omega) (by omega) (is_ob (by omega) (is_lt fun v10 _ => is_brd (fun _ => is_ret) (fun _ => is_ret)))) (fun y4 _ => is_ret)) (fun y6 hy6 => is_ob ⟨by rw [q4]; exact tr_len ts (by omega), okIs1 _ (Nat.zero_le _), by show 1 ≤ 100; decide, by decide, by decide⟩ (is_lt fun v9 hv9 => is_br (fun _ => is_ret) (fun _ => is_br (fun _ => is_ob (room_of (by omega) (by omega)) is_ret) (fun _ => is_ret)))))))))
  · obtain ⟨_, _, hs, hs2⟩ := chk_lim n span h0
    obtain ⟨y2, e, h2⟩ := step_inv n span (times.getD i 0) hs hs2 i (by omega) y hI
    simp only [val_ix, val_br, val_lt, val_cut, val_ob, val_ret, val_each, cnt_each, thenS_inl] at hy'
    have e2 : stepV n span (times.getD i 0) y = .inl y' := hy'
    rw [e] at e2
    cases e2
    exact h2
noncomputable def e_law5 : Ent Z := entN Z [e_awake, e_rcheck, e_before] [jS 9 (shp (fun sl => [.slot 12 false [none], .slot 9 false [none], .slot 10 false [some 3], .slot 11 false [none]]) (lCons (cInt .i64) (lCons cd_LTrace (lCons cd_Li64 (l1 (cInt .i64)))))), jS 15 (shp (fun sl => [.slot 14 false [none], .slot 13 false [none]]) (lCons (cInt .i64) (l1 (cInt .i64)))), jS 100019 (shp (fun sl => [.slot 13 false [none]]) (l1 (cInt .i64)))] (args (aCons (aLf (cInt .i64)) (aCons (aLf (cInt .i64)) (a1 (aLf cd_Li64))))) (argsI (n := 97) rfl) (shr [.slot 0 false [none]] (l1 cBool)) [] Tryd.func5 Tryd.ntmps5 (by kernel_rfl) 1 rfl (fun a => law5 (a.1) (a.2.1) (a.2.2)) (fun a => none) (fun a e _ => by kernel_rfl) (fun a => true) (fun a h => ⟨law5_is (a.1) (a.2.1) (a.2.2), law5_eq (a.1) (a.2.1) (a.2.2)⟩)
end Go.Proofs.YtemjcccdcnhmhaaDoor
