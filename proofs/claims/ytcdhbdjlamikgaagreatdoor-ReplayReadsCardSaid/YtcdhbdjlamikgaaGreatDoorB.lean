/-
  Replay: Summary and Only.
-/
import Derived.Test.YtcdhbdjlamikgaaGreatDoorA
namespace Go.Proofs.YtcdhbdjlamikgaaGreatDoor
open Go.RowKit Go.Vc
set_option linter.unusedVariables false
set_option linter.unusedSimpArgs false
set_option maxRecDepth 100000

/-- Loops 'for i := 0; ok && i < n; i++ { ok = f(i) }'. -/
def okStep (n : Nat) (f : Int → Bool) (x : Int × Bool) : (Int × Bool) ⊕ Bool :=
  bif x.2 then (bif decide (x.1 < (n : Int)) then .inl (wrp .i64 (x.1 + 1), f x.1) else .inr x.2) else .inr x.2
theorem okStep_all (n : Nat) (f : Int → Bool) (hn : n ≤ 9223372036854775807) : ∀ (m i k : Nat) (b : Bool), i ≤ n → n - i < m → n - i = k → whN (okStep n f) default m ((i : Int), b) = (b && (List.range' i k).all fun j => f j)
  | 0, i, k, b, _, h, _ => by omega
  | m + 1, i, k, b, hi, hm, hk => by
    unfold whN okStep
    cases b with
    | false => rfl
    | true =>
      simp only [cond_true, Bool.true_and]
      by_cases h : i < n
      · have hd : decide ((i : Int) < (n : Int)) = true := decide_eq_true (by omega)
        have hw : wrp .i64 ((i : Int) + 1) = ((i + 1 : Nat) : Int) := wrp_next (by omega)
        rw [hd, hw]
        obtain ⟨k', rfl⟩ : ∃ k', k = k' + 1 := ⟨k - 1, by omega⟩
        have := okStep_all n f hn m (i + 1) k' (f i) (by omega) (by omega) (by omega)
        unfold okStep at this
        simp only [cond_true]
        rw [this, List.range'_succ, List.all_cons]
      · have hd : decide ((i : Int) < (n : Int)) = false := decide_eq_false (by omega)
        obtain rfl : k = 0 := by omega
        rw [hd]
        rfl
theorem range_shift (f : Int → Bool) : ∀ (k i : Nat), (List.range' (i + 1) k).all (fun j => f j) = (List.range' i k).all fun j => f ((j : Int) + 1)
  | 0, i => rfl
  | k + 1, i => by
    rw [List.range'_succ, List.range'_succ, List.all_cons, List.all_cons, range_shift f k (i + 1)]
    rfl
theorem okStep_same {A : Type} [DecidableEq A] (eqf : A → A → Bool) (d : A) : ∀ (a b : List A), (∀ x ∈ a, ∀ y, eqf x y = decide (x = y)) → a.length = b.length → ((List.range' 0 a.length).all fun j => eqf (a.getD (j : Int).toNat d) (b.getD (j : Int).toNat d)) = decide (a = b)
  | [], [], _, _ => rfl
  | x :: a, y :: b, heq, h => by
    have h' : a.length = b.length := by simpa using h
    have := okStep_same eqf d a b (fun z hz => heq z (by simp [hz])) h'
    rw [List.length_cons, List.range'_succ, List.all_cons, range_shift (fun j => eqf ((x :: a).getD j.toNat d) ((y :: b).getD j.toNat d))]
    have e : (fun j : Nat => eqf ((x :: a).getD ((j : Int) + 1).toNat d) ((y :: b).getD ((j : Int) + 1).toNat d)) = fun j : Nat => eqf (a.getD (j : Int).toNat d) (b.getD (j : Int).toNat d) := by
      funext j
      have : ((j : Int) + 1).toNat = j + 1 := by omega
      rw [this]
      simp
    rw [e, this]
    have e2 : eqf ((x :: a).getD ((0 : Nat) : Int).toNat d) ((y :: b).getD ((0 : Nat) : Int).toNat d) = decide (x = y) := heq x (by simp) y
    rw [e2]
    by_cases h1 : x = y <;> by_cases h2 : a = b <;> simp [h1, h2]
  | [], _ :: _, _, h => by cases h
  | _ :: _, [], _, h => by cases h
theorem okLoop {A : Type} [DecidableEq A] (eqf : A → A → Bool) (d : A) (a b : List A) (heq : ∀ x ∈ a, ∀ y, eqf x y = decide (x = y)) (ha : a.length ≤ 9223372036854775807) :
    whN (okStep a.length fun i => eqf (a.getD i.toNat d) (b.getD i.toNat d)) default (a.length + 1) (0, (a.length : Int) == (b.length : Int)) = decide (a = b) := by
  have := okStep_all a.length (fun i => eqf (a.getD i.toNat d) (b.getD i.toNat d)) ha (a.length + 1) 0 a.length ((a.length : Int) == (b.length : Int)) (by omega) (by omega) (by omega)
  refine this.trans ?_
  by_cases h : a.length = b.length
  · have e : ((a.length : Int) == (b.length : Int)) = true := by simp [h]
    rw [e, okStep_same eqf d a b heq h, Bool.true_and]
  · have e : ((a.length : Int) == (b.length : Int)) = false := by simp; omega
    rw [e, Bool.false_and]
    exact (decide_eq_false fun e => h (by rw [e])).symm
theorem okLoop_is {n1 n2 : Nat} {p : Prop} {f : Int → Bool} (hn : n1 ≤ 9223372036854775807) : Is (.wh (n1 + 1) default
        (fun (x3 : Int × Bool) =>
          .br x3.snd
            (.as p
              (.br (decide (x3.fst < (↑n1 : Int)))
                (.ix x3.fst n1 (.ix x3.fst n2 (.ret (.inl (wrp .i64 (x3.fst + 1), f x3.fst)))))
                (.ret (.inr x3.snd))))
            (.ret (.inr x3.snd)))
        (0, (↑n1 : Int) == (↑n2 : Int)) : Pg Bool) := by
  refine is_wh (fun x => 0 ≤ x.1 ∧ x.1 ≤ n1 ∧ (x.2 = true → n1 = n2)) (fun x => (n1 - x.1).toNat) ⟨by omega, by omega, fun e => Int.ofNat.inj (eq_of_beq e)⟩ (by simp only [Int.sub_zero, Int.toNat_natCast]; omega) fun x hx => ⟨is_br (fun e => is_as fun _ => is_brd (fun h => is_ix (by omega) (by omega) (is_ix (by omega) (by have := hx.2.2 e; omega) is_ret)) fun _ => is_ret) fun _ => is_ret, ?_⟩
  intro x' hx'
  simp only [val_br, val_as, val_ix, val_ret, Bool.cond_eq_ite, decide_eq_true_eq] at hx'
  split at hx'
  · rename_i e
    split at hx'
    · rename_i h
      injection hx' with hx'
      subst hx'
      have hw : wrp .i64 (x.1 + 1) = x.1 + 1 := wrp_in (k := .i64) (by simp only [InR]; omega)
      simp only [hw]
      exact ⟨⟨by omega, by omega, fun _ => hx.2.2 e⟩, by omega⟩
    · cases hx'
  · cases hx'


noncomputable def texts (a : List Str) (b : List Str) : Pg Bool :=
  .as (a.length ≤ 9223372036854775807)
    (.as (b.length ≤ 9223372036854775807)
      (.wh (a.length + 1) default
        (fun (x3 : Int × Bool) =>
          .br x3.snd
            (.as (a.length ≤ 9223372036854775807)
              (.br (decide (x3.fst < (↑a.length : Int)))
                (.ix x3.fst a.length (.ix x3.fst b.length (.ret (.inl (wrp .i64 (x3.fst + 1), a.getD x3.fst.toNat [] == b.getD x3.fst.toNat [])))))
                (.ret (.inr x3.snd))))
            (.ret (.inr x3.snd)))
        (0, (↑a.length : Int) == (↑b.length : Int))))
noncomputable def textsP (a : List Str) (b : List Str) : Bool := (texts a b).val

theorem texts_is (a : List Str) (b : List Str) : Is (texts a b) :=
  is_as fun h1 => is_as fun _ => okLoop_is (f := fun i => a.getD i.toNat [] == b.getD i.toNat []) h1
noncomputable def e_texts : Ent Z := entN Z [] [jS 3 (shp (fun sl => [.slot 6 false [none], .slot 5 false [none]]) (lCons (cInt .i64) (l1 cBool)))] (args (aCons (aLf cd_Lstr) (a1 (aLf cd_Lstr)))) (argsI (n := 31) rfl) (shr [.slot 0 false [none]] (l1 cBool)) [] Tryz.func21 Tryz.ntmps21 (by kernel_rfl) 1 rfl (fun a => texts (a.1) (a.2)) (fun a => none) (fun a e _ => by kernel_rfl) (fun a => textsP (a.1) (a.2)) (fun a h => ⟨texts_is (a.1) (a.2), rfl⟩)

theorem texts_eq (a b : List Str) (h : a.length ≤ 9223372036854775807) : textsP a b = decide (a = b) := okLoop (fun x y => x == y) [] a b (fun x _ y => by by_cases h : x = y <;> simp [h]) h

noncomputable def sameTape (a : Tape) (b : Tape) : Pg Bool :=
  .br (a.Method == b.Method)
    (.br (a.Status.Code == b.Status.Code && (a.Status.Text == b.Status.Text && true)) (.br (textsP a.In b.In) (.ret (textsP a.Out b.Out)) (.ret false)) (.ret false))
    (.ret false)
noncomputable def sameTapeP (a : Tape) (b : Tape) : Bool := (sameTape a b).val

theorem sameTape_is (a : Tape) (b : Tape) : Is (sameTape a b) :=
  is_br (fun _ => is_br (fun _ => is_br (fun _ => is_ret) (fun _ => is_ret)) (fun _ => is_ret)) (fun _ => is_ret)
noncomputable def e_sameTape : Ent Z := entN Z [e_texts] [] (args (aCons (aAgg cd_Tape) (a1 (aAgg cd_Tape)))) (argsI (n := 31) rfl) (shr [.slot 0 false [none]] (l1 cBool)) [] Tryz.func13 Tryz.ntmps13 (by kernel_rfl) 1 rfl (fun a => sameTape (a.1) (a.2)) (fun a => none) (fun a e _ => by kernel_rfl) (fun a => sameTapeP (a.1) (a.2)) (fun a h => ⟨sameTape_is (a.1) (a.2), rfl⟩)

noncomputable def same (a : List Tape) (b : List Tape) : Pg Bool :=
  .as (a.length ≤ 9223372036854775807)
    (.as (b.length ≤ 9223372036854775807)
      (.wh (a.length + 1) default
        (fun (x3 : Int × Bool) =>
          .br x3.snd
            (.as (a.length ≤ 9223372036854775807)
              (.br (decide (x3.fst < (↑a.length : Int)))
                (.ix x3.fst a.length
                  (.ix x3.fst b.length (.ret (.inl (wrp .i64 (x3.fst + 1), sameTapeP (a.getD x3.fst.toNat d_Tape) (b.getD x3.fst.toNat d_Tape))))))
                (.ret (.inr x3.snd))))
            (.ret (.inr x3.snd)))
        (0, (↑a.length : Int) == (↑b.length : Int))))
noncomputable def sameP (a : List Tape) (b : List Tape) : Bool := (same a b).val

theorem same_is (a : List Tape) (b : List Tape) : Is (same a b) :=
  is_as fun h1 => is_as fun _ => okLoop_is (f := fun i => sameTapeP (a.getD i.toNat d_Tape) (b.getD i.toNat d_Tape)) h1
noncomputable def e_same : Ent Z := entN Z [e_sameTape] [jS 3 (shp (fun sl => [.slot 6 false [none], .slot 5 false [none]]) (lCons (cInt .i64) (l1 cBool)))] (args (aCons (aLf cd_LTape) (a1 (aLf cd_LTape)))) (argsI (n := 31) rfl) (shr [.slot 0 false [none]] (l1 cBool)) [] Tryz.func7 Tryz.ntmps7 (by kernel_rfl) 1 rfl (fun a => same (a.1) (a.2)) (fun a => none) (fun a e _ => by kernel_rfl) (fun a => sameP (a.1) (a.2)) (fun a h => ⟨same_is (a.1) (a.2), rfl⟩)

theorem set5 {y : List Int} {k : Nat} {v : Int} (h : y.length = 5) : (y.set k v).length = 5 := by simp [h]

noncomputable def summary (l : List Mismatch) : Pg (List Int) :=
  .as (l.length ≤ 9223372036854775807)
    (.each false ixP l d_Mismatch
      (fun (i1 : Int) (a3 : Mismatch) (y2 : List Int) =>
        .ix i1 l.length
          (.lt (y2.set 0 (wrp .i64 (y2.getD 0 0 + 1))) fun (v4 : List Int) =>
            .br (decide (1 ≤ a3.Kind))
              (.br (decide (a3.Kind ≤ 4))
                (.ob (0 ≤ a3.Kind ∧ a3.Kind < 5)
                  (.ob (a3.Kind.toNat < y2.length)
                    (.ob (0 ≤ a3.Kind ∧ a3.Kind < 5)
                      (.ob (a3.Kind.toNat < y2.length) (.ret (.inl (y2.set a3.Kind.toNat (wrp .i64 (y2.getD a3.Kind.toNat 0 + 1)))))))))
                (.ob ((0 : Int) ≤ 0 ∧ (0 : Int) < 5)
                  (.ob (0 < y2.length) (.ob ((0 : Int) ≤ 0 ∧ (0 : Int) < 5) (.ob (0 < y2.length) (.ret (.inl v4)))))))
              (.ob ((0 : Int) ≤ 0 ∧ (0 : Int) < 5)
                (.ob (0 < y2.length) (.ob ((0 : Int) ≤ 0 ∧ (0 : Int) < 5) (.ob (0 < y2.length) (.ret (.inl v4))))))))
      (fun (i1 : Int) (y2 : List Int) =>
        .ob (y2.length = 5)
          (.ob (5 = 5)
            (.ret
              [[y2.getD 0 0, y2.getD 1 0, y2.getD 2 0, y2.getD 3 0, y2.getD 4 0].getD 0
                  0,
                [y2.getD 0 0, y2.getD 1 0, y2.getD 2 0, y2.getD 3 0, y2.getD 4 0].getD 1
                  0,
                [y2.getD 0 0, y2.getD 1 0, y2.getD 2 0, y2.getD 3 0, y2.getD 4 0].getD 2
                  0,
                [y2.getD 0 0, y2.getD 1 0, y2.getD 2 0, y2.getD 3 0, y2.getD 4 0].getD 3
                  0,
                [y2.getD 0 0, y2.getD 1 0, y2.getD 2 0, y2.getD 3 0, y2.getD 4 0].getD 4
                  0])))
      [0, 0, 0, 0, 0])
noncomputable def summaryP (l : List Mismatch) : List Int := (summary l).val

theorem summary_is (l : List Mismatch) : Is (summary l) :=
  by
  refine is_as fun _ => is_eachI (fun _ y => y.length = 5) rfl (.inr (by omega)) (fun i1 y2 _ _ hI => ⟨is_ix (by omega) (by omega) (is_lt fun v4 hv4 => is_brd (fun _ => is_brd (fun _ => is_ob (by omega) (is_ob (by omega) (is_ob (by omega) (is_ob (by omega) (is_ret))))) (fun _ => is_ob (by omega) (is_ob (by omega) (is_ob (by omega) (is_ob (by omega) (is_ret)))))) (fun _ => is_ob (by omega) (is_ob (by omega) (is_ob (by omega) (is_ob (by omega) (is_ret)))))), fun y' hy' => ?_⟩) (fun y2 _ hI => is_ob hI (is_ob rfl (is_ret)))
  revert hy'
  simp only [val_ix, val_lt, val_br, val_ob, val_ret, Bool.cond_eq_ite]
  (repeat' split) <;> intro e <;> injection e with e <;> subst e <;> exact set5 hI
noncomputable def e_summary : Ent Z := entN Z [] [jS 3 (shp (fun sl => [.slot 8 false [none], .row (pid (sl 3)) 24]) (lCons (cInt .i64) (l1 cd_Li64)))] (args (a1 (aLf cd_LMismatch))) (argsI (n := 32) rfl) (shr [.slot 0 true [none, none, none, none, none]] (l1 (cArr 5 0 (cInt .i64)))) [] Tryz.func5 Tryz.ntmps5 (by kernel_rfl) 1 rfl (fun a => summary a) (fun a => none) (fun a e _ => by kernel_rfl) (fun a => summaryP a) (fun a h => ⟨summary_is a, rfl⟩)

noncomputable def rsummary (l : List Mismatch) : Pg (List Int) :=
  .each true ixP l d_Mismatch
    (fun (i1 : Int) (a3 : Mismatch) (y2 : List Int) =>
      .ix i1 l.length
        (.lt (y2.set 0 (wrp .i64 (y2.getD 0 0 + 1))) fun (v4 : List Int) =>
          .br (decide (a3.Kind < 1))
            (.ob ((0 : Int) ≤ 0 ∧ (0 : Int) < 5)
              (.ob (0 < y2.length) (.ob ((0 : Int) ≤ 0 ∧ (0 : Int) < 5) (.ob (0 < y2.length) (.ret (.inl v4))))))
            (.br (decide (4 < a3.Kind))
              (.ob ((0 : Int) ≤ 0 ∧ (0 : Int) < 5)
                (.ob (0 < y2.length) (.ob ((0 : Int) ≤ 0 ∧ (0 : Int) < 5) (.ob (0 < y2.length) (.ret (.inl v4))))))
              (.ob (0 ≤ a3.Kind ∧ a3.Kind < 5)
                (.ob (a3.Kind.toNat < y2.length)
                  (.ob (0 ≤ a3.Kind ∧ a3.Kind < 5)
                    (.ob (a3.Kind.toNat < y2.length) (.ret (.inl (y2.set a3.Kind.toNat (wrp .i64 (y2.getD a3.Kind.toNat 0 + 1))))))))))))
    (fun (i1 : Int) (y2 : List Int) =>
      .ob (y2.length = 5)
        (.ob (5 = 5)
          (.ret
            [[y2.getD 0 0, y2.getD 1 0, y2.getD 2 0, y2.getD 3 0, y2.getD 4 0].getD 0
                0,
              [y2.getD 0 0, y2.getD 1 0, y2.getD 2 0, y2.getD 3 0, y2.getD 4 0].getD 1
                0,
              [y2.getD 0 0, y2.getD 1 0, y2.getD 2 0, y2.getD 3 0, y2.getD 4 0].getD 2
                0,
              [y2.getD 0 0, y2.getD 1 0, y2.getD 2 0, y2.getD 3 0, y2.getD 4 0].getD 3
                0,
              [y2.getD 0 0, y2.getD 1 0, y2.getD 2 0, y2.getD 3 0, y2.getD 4 0].getD 4
                0])))
    [0, 0, 0, 0, 0]
noncomputable def rsummaryP (l : List Mismatch) : List Int := (rsummary l).val

theorem rsummary_is (l : List Mismatch) : Is (rsummary l) :=
  by
  refine is_eachI (fun _ y => y.length = 5) rfl (.inl rfl) (fun i1 y2 _ _ hI => ⟨is_ix (by omega) (by omega) (is_lt fun v4 hv4 => is_brd (fun _ => is_ob (by omega) (is_ob (by omega) (is_ob (by omega) (is_ob (by omega) (is_ret))))) (fun _ => is_brd (fun _ => is_ob (by omega) (is_ob (by omega) (is_ob (by omega) (is_ob (by omega) (is_ret))))) (fun _ => is_ob (by omega) (is_ob (by omega) (is_ob (by omega) (is_ob (by omega) (is_ret))))))), fun y' hy' => ?_⟩) (fun y2 _ hI => is_ob hI (is_ob rfl (is_ret)))
  revert hy'
  simp only [val_ix, val_lt, val_br, val_ob, val_ret, Bool.cond_eq_ite]
  (repeat' split) <;> intro e <;> injection e with e <;> subst e <;> exact set5 hI
noncomputable def e_rsummary : Ent Z := entN Z [] [jS 3 (shp (fun sl => [.slot 4 false [none], .row (pid (sl 3)) 24]) (lCons (cInt .i64) (l1 cd_Li64)))] (args (a1 (aLf cd_LMismatch))) (argsI (n := 30) rfl) (shr [.slot 0 true [none, none, none, none, none]] (l1 (cArr 5 0 (cInt .i64)))) [] Tryz.func6 Tryz.ntmps6 (by kernel_rfl) 1 rfl (fun a => rsummary a) (fun a => none) (fun a e _ => by kernel_rfl) (fun a => rsummaryP a) (fun a h => ⟨rsummary_is a, rfl⟩)

def okTs (l : List Tape) : Prop := l.length ≤ 1048576 ∧ ∀ t ∈ l, t.In.length ≤ 1048576 ∧ t.Out.length ≤ 1048576
theorem okTs_at {l : List Tape} (h : okTs l) (k : Nat) : (l.getD k d_Tape).In.length ≤ 1048576 ∧ (l.getD k d_Tape).Out.length ≤ 1048576 := by
  by_cases hk : k < l.length
  · have : l.getD k d_Tape = l[k] := by simp [hk]
    rw [this]
    exact h.2 _ (List.getElem_mem hk)
  · have : l.getD k d_Tape = d_Tape := by rw [List.getD, List.getElem?_eq_none (by omega)]; rfl
    rw [this]
    exact ⟨by decide, by decide⟩

noncomputable def only (l : List Tape) (method : Str) : Pg (List Tape) :=
  .as (l.length ≤ 9223372036854775807)
    (.each false ixP l d_Tape
      (fun (i1 : Int) (a3 : Tape) (y2 : List Tape) =>
        .ix i1 l.length
          (.br (a3.Method == method)
            (.ob (roomP (0 + a3.In.length) 16)
              (.ob (roomP (0 + a3.Out.length) 16) (.ob (roomP (y2.length + 1) 88) (.ret (.inl (y2 ++ [a3]))))))
            (.ret (.inl y2))))
      (fun (i1 : Int) (y2 : List Tape) => .ret y2) [])
noncomputable def onlyP (l : List Tape) (method : Str) : List Tape := (only l method).val

theorem only_is (l : List Tape) (method : Str) (h : okTs l) : Is (only l method) :=
  by
  refine is_as fun _ => is_eachI (fun k y => y.length ≤ k) (Nat.le_refl _) (.inr (by omega)) (fun i1 y2 h1 _ hI => ?_) (fun y2 _ _ => is_ret)
  have hI : y2.length ≤ i1 := hI
  have hl := h.1
  obtain ⟨q1, q2⟩ := okTs_at h i1
  refine ⟨is_ix (by omega) (by omega) (is_br (fun _ => is_ob (room_of (by omega) (by omega)) (is_ob (room_of (by omega) (by omega)) (is_ob (room_of (by omega) (by omega)) is_ret))) fun _ => is_ret), fun y' hy' => ?_⟩
  revert hy'
  simp only [val_ix, val_lt, val_br, val_ob, val_ret, Bool.cond_eq_ite]
  show _ → y'.length ≤ i1 + 1
  (repeat' split) <;> intro e <;> injection e with e <;> subst e <;> (try simp only [List.length_append, List.length_cons, List.length_nil]) <;> omega
noncomputable def e_only : Ent Z := entN Z [] [jS 3 (shp (fun sl => [.slot 10 false [none], .slot 5 false [some 41]]) (lCons (cInt .i64) (l1 cd_LTape)))] (args (aCons (aLf cd_LTape) (a1 (aLf cStr)))) (argsI (n := 34) rfl) (shr [.slot 0 false [none]] (l1 cd_LTape)) [] Tryz.func8 Tryz.ntmps8 (by kernel_rfl) 1 rfl (fun a => only (a.1) (a.2)) (fun a => some (okTs (a.1))) (fun a e _ => by kernel_rfl) (fun a => onlyP (a.1) (a.2)) (fun a h => ⟨only_is (a.1) (a.2) h, rfl⟩)

noncomputable def ronly (l : List Tape) (method : Str) : Pg (List Tape) :=
  .each true ixP l d_Tape
    (fun (i1 : Int) (a3 : Tape) (y2 : List Tape) =>
      .ix i1 l.length (.br (a3.Method == method) (.ix i1 l.length (.ob (roomP (y2.length + 1) 88) (.ret (.inl (y2 ++ [a3]))))) (.ret (.inl y2))))
    (fun (i1 : Int) (y2 : List Tape) => .ret y2) []
noncomputable def ronlyP (l : List Tape) (method : Str) : List Tape := (ronly l method).val

theorem ronly_is (l : List Tape) (method : Str) (h : okTs l) : Is (ronly l method) :=
  by
  refine is_eachI (fun k y => y.length ≤ k) (Nat.le_refl _) (.inl rfl) (fun i1 y2 h1 _ hI => ?_) (fun y2 _ _ => is_ret)
  have hI : y2.length ≤ i1 := hI
  have hl := h.1
  refine ⟨is_ix (by omega) (by omega) (is_br (fun _ => is_ix (by omega) (by omega) (is_ob (room_of (by omega) (by omega)) is_ret)) fun _ => is_ret), fun y' hy' => ?_⟩
  revert hy'
  simp only [val_ix, val_lt, val_br, val_ob, val_ret, Bool.cond_eq_ite]
  show _ → y'.length ≤ i1 + 1
  (repeat' split) <;> intro e <;> injection e with e <;> subst e <;> (try simp only [List.length_append, List.length_cons, List.length_nil]) <;> omega
noncomputable def e_ronly : Ent Z := entN Z [] [jS 3 (shp (fun sl => [.slot 6 false [none], .slot 5 false [some 41]]) (lCons (cInt .i64) (l1 cd_LTape)))] (args (aCons (aLf cd_LTape) (a1 (aLf cStr)))) (argsI (n := 28) rfl) (shr [.slot 0 false [none]] (l1 cd_LTape)) [] Tryz.func9 Tryz.ntmps9 (by kernel_rfl) 1 rfl (fun a => ronly (a.1) (a.2)) (fun a => some (okTs (a.1))) (fun a e _ => by kernel_rfl) (fun a => ronlyP (a.1) (a.2)) (fun a h => ⟨ronly_is (a.1) (a.2) h, rfl⟩)
end Go.Proofs.YtcdhbdjlamikgaaGreatDoor
