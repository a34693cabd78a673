/-
  Replay: the law ReplaySums.
-/
import Derived.Test.YtcdhbdjlamikgaaGreatDoorB
import Derived.Test.YtcdhbdjlamikgaaGreatDoorR
import Derived.Test.YtcdhbdjlamikgaaGreatDoorEng11
namespace Go.Proofs.YtcdhbdjlamikgaaGreatDoor
open Go.RowKit Go.Vc
set_option linter.unusedVariables false
set_option linter.unusedSimpArgs false
set_option maxRecDepth 100000

def kS (a : Mismatch) : Nat := bif decide (1 ≤ a.Kind) then (bif decide (a.Kind ≤ 4) then a.Kind.toNat else 0) else 0
theorem kS_lt (a : Mismatch) : kS a < 5 := by
  unfold kS
  by_cases h1 : 1 ≤ a.Kind <;> by_cases h2 : a.Kind ≤ 4 <;> simp only [h1, h2, decide_true, decide_false, cond_true, cond_false] <;> omega
def stS (y : List Int) (a : Mismatch) : List Int := y.set (kS a) (wrp .i64 (y.getD (kS a) 0 + 1))
def finS (y : List Int) : List Int := [y.getD 0 0, y.getD 1 0, y.getD 2 0, y.getD 3 0, y.getD 4 0]
theorem summary_eq (l : List Mismatch) : summaryP l = finS (l.foldl stS [0, 0, 0, 0, 0]) := by
  unfold summaryP summary
  simp only [val_as, val_each, val_ix, val_lt, val_br, val_ob, val_ret]
  rw [← forE_fold (R := List Int) stS (fun _ y => finS y) l 0]
  refine forE_cong l 0 _ (fun j a y _ _ => ?_) (fun y => rfl)
  unfold stS kS
  by_cases h1 : 1 ≤ a.Kind <;> by_cases h2 : a.Kind ≤ 4 <;> simp only [h1, h2, decide_true, decide_false, cond_true, cond_false]
theorem rsummary_eq (l : List Mismatch) : rsummaryP l = finS (l.foldl stS [0, 0, 0, 0, 0]) := by
  unfold rsummaryP rsummary
  simp only [val_as, val_each, val_ix, val_lt, val_br, val_ob, val_ret]
  rw [← forE_fold (R := List Int) stS (fun _ y => finS y) l 0]
  refine forE_cong l 0 _ (fun j a y _ _ => ?_) (fun y => rfl)
  unfold stS kS
  by_cases h1 : 1 ≤ a.Kind <;> by_cases h2 : a.Kind ≤ 4 <;> simp only [show (a.Kind < 1) = ¬ (1 ≤ a.Kind) by simp, show (4 < a.Kind) = ¬ (a.Kind ≤ 4) by simp, h1, h2, not_true, not_false_eq_true, decide_true, decide_false, cond_true, cond_false]
def totS (y : List Int) : Int := y.getD 0 0 + y.getD 1 0 + y.getD 2 0 + y.getD 3 0 + y.getD 4 0
def okS5 (y : List Int) : Prop := ∃ a b c d e, y = [a, b, c, d, e] ∧ 0 ≤ a ∧ 0 ≤ b ∧ 0 ≤ c ∧ 0 ≤ d ∧ 0 ≤ e
theorem st_ok {y : List Int} {a : Mismatch} (h : okS5 y) (hb : totS y ≤ 1048576) : okS5 (stS y a) ∧ totS (stS y a) = totS y + 1 := by
  obtain ⟨u, v, x, z, q, rfl, h1, h2, h3, h4, h5⟩ := h
  have hb : u + v + x + z + q ≤ 1048576 := hb
  have hk := kS_lt a
  have w : ∀ n : Int, 0 ≤ n → n ≤ 1048576 → wrp .i64 (n + 1) = n + 1 := fun n _ _ => wrp_in (k := .i64) (by simp only [InR]; omega)
  unfold stS
  generalize kS a = k at hk
  rcases (by omega : k = 0 ∨ k = 1 ∨ k = 2 ∨ k = 3 ∨ k = 4) with rfl | rfl | rfl | rfl | rfl
  · show okS5 [wrp .i64 (u + 1), v, x, z, q] ∧ wrp .i64 (u + 1) + v + x + z + q = u + v + x + z + q + 1
    rw [w u (by omega) (by omega)]
    exact ⟨⟨_, _, _, _, _, rfl, by omega, h2, h3, h4, h5⟩, by omega⟩
  · show okS5 [u, wrp .i64 (v + 1), x, z, q] ∧ u + wrp .i64 (v + 1) + x + z + q = u + v + x + z + q + 1
    rw [w v (by omega) (by omega)]
    exact ⟨⟨_, _, _, _, _, rfl, h1, by omega, h3, h4, h5⟩, by omega⟩
  · show okS5 [u, v, wrp .i64 (x + 1), z, q] ∧ u + v + wrp .i64 (x + 1) + z + q = u + v + x + z + q + 1
    rw [w x (by omega) (by omega)]
    exact ⟨⟨_, _, _, _, _, rfl, h1, h2, by omega, h4, h5⟩, by omega⟩
  · show okS5 [u, v, x, wrp .i64 (z + 1), q] ∧ u + v + x + wrp .i64 (z + 1) + q = u + v + x + z + q + 1
    rw [w z (by omega) (by omega)]
    exact ⟨⟨_, _, _, _, _, rfl, h1, h2, h3, by omega, h5⟩, by omega⟩
  · show okS5 [u, v, x, z, wrp .i64 (q + 1)] ∧ u + v + x + z + wrp .i64 (q + 1) = u + v + x + z + q + 1
    rw [w q (by omega) (by omega)]
    exact ⟨⟨_, _, _, _, _, rfl, h1, h2, h3, h4, by omega⟩, by omega⟩
theorem fold_ok : ∀ (l : List Mismatch) (y : List Int), okS5 y → totS y + l.length ≤ 1048576 → okS5 (l.foldl stS y) ∧ totS (l.foldl stS y) = totS y + l.length
  | [], y, h, _ => ⟨h, by simp⟩
  | a :: l, y, h, hb => by
    simp only [List.length_cons] at hb
    obtain ⟨h1, h2⟩ := st_ok (a := a) h (by omega)
    obtain ⟨h3, h4⟩ := fold_ok l (stS y a) h1 (by rw [h2]; omega)
    refine ⟨h3, ?_⟩
    show totS (l.foldl stS (stS y a)) = _
    rw [h4, h2]
    simp only [List.length_cons]
    omega
theorem sum_len (l : List Mismatch) (h : l.length ≤ 1048576) : ∃ a b c d e : Int, summaryP l = [a, b, c, d, e] ∧ wrp .i64 (wrp .i64 (wrp .i64 (wrp .i64 (a + b) + c) + d) + e) = (l.length : Int) := by
  obtain ⟨⟨a, b, c, d, e, hy, h1, h2, h3, h4, h5⟩, ht⟩ := fold_ok l [0, 0, 0, 0, 0] ⟨0, 0, 0, 0, 0, rfl, by decide, by decide, by decide, by decide, by decide⟩ (by show (0 : Int) + l.length ≤ 1048576; omega)
  rw [hy] at ht
  have ht : a + b + c + d + e = 0 + (l.length : Int) := ht
  have w : ∀ n : Int, 0 ≤ n → n ≤ 1048576 → wrp .i64 n = n := fun n _ _ => wrp_in (k := .i64) (by simp only [InR]; omega)
  refine ⟨a, b, c, d, e, by rw [summary_eq, hy]; rfl, ?_⟩
  rw [w (a + b) (by omega) (by omega), w (a + b + c) (by omega) (by omega), w (a + b + c + d) (by omega) (by omega), w (a + b + c + d + e) (by omega) (by omega)]
  omega
theorem only_eq (l : List Tape) (m : Str) : onlyP l m = ronlyP l m := rfl
theorem only_ok {l : List Tape} {m : Str} (h : okTs l) : okTs (onlyP l m) := by
  have e : onlyP l m = l.foldl (fun y a => bif a.Method == m then y ++ [a] else y) [] := by
    rw [← forE_fold (R := List Tape) (fun y a => bif a.Method == m then y ++ [a] else y) (fun _ y => y) l 0]
    unfold onlyP only
    simp only [val_as, val_each, val_ix, val_lt, val_br, val_ob, val_ret]
    refine forE_cong l 0 _ (fun j a y _ _ => ?_) (fun y => rfl)
    cases a.Method == m <;> rfl
  have key : ∀ (l y : List Tape), (l.foldl (fun y a => bif a.Method == m then y ++ [a] else y) y).length ≤ y.length + l.length ∧ ∀ t ∈ l.foldl (fun y a => bif a.Method == m then y ++ [a] else y) y, t ∈ y ∨ t ∈ l := by
    intro l
    induction l with
    | nil => intro y; exact ⟨by simp, fun t ht => .inl ht⟩
    | cons a l ih =>
      intro y
      rw [List.foldl_cons]
      cases hb : a.Method == m with
      | true =>
        obtain ⟨h1, h2⟩ := ih (y ++ [a])
        rw [cond_true]
        refine ⟨by simp only [List.length_append, List.length_cons, List.length_nil] at h1 ⊢; omega, fun t ht => ?_⟩
        rcases h2 t ht with h | h
        · rcases List.mem_append.1 h with h | h
          · exact .inl h
          · exact .inr (by simp at h; simp [h])
        · exact .inr (by simp [h])
      | false =>
        obtain ⟨h1, h2⟩ := ih y
        rw [cond_false]
        refine ⟨by simp only [List.length_cons]; omega, fun t ht => ?_⟩
        rcases h2 t ht with h | h
        · exact .inl h
        · exact .inr (by simp [h])
  rw [e]
  obtain ⟨h1, h2⟩ := key l []
  refine ⟨by simp only [List.length_nil] at h1; have := h.1; omega, fun t ht => ?_⟩
  rcases h2 t ht with h3 | h3
  · cases h3
  · exact h.2 t h3
theorem sameTape_self (x : Tape) (h : x.In.length ≤ 9223372036854775807 ∧ x.Out.length ≤ 9223372036854775807) : sameTapeP x x = true := by
  unfold sameTapeP sameTape
  simp only [val_br, val_ret, texts_eq _ _ h.1, texts_eq _ _ h.2]
  simp
theorem same_all (l : List Tape) (h : okTs l) : sameP l l = true := by
  have h1 := h.1
  have e := okStep_all l.length (fun i => sameTapeP (l.getD i.toNat d_Tape) (l.getD i.toNat d_Tape)) (by omega) (l.length + 1) 0 l.length ((l.length : Int) == (l.length : Int)) (by omega) (by omega) (by omega)
  refine Eq.trans (b := _) e ?_
  rw [Bool.and_eq_true]
  refine ⟨by simp, List.all_eq_true.2 fun j hj => ?_⟩
  have := okTs_at h (j : Int).toNat
  exact sameTape_self _ ⟨by omega, by omega⟩

noncomputable def law5 (l : List Mismatch) (t : List Tape) (name : Str) : Pg Bool :=
  .ob (5 = 5)
    (.ob ((0 : Int) ≤ 0 ∧ (0 : Int) < 5)
      (.ob (0 < 5)
        (.ob ((0 : Int) ≤ 1 ∧ (1 : Int) < 5)
          (.ob (1 < 5)
            (.ob ((0 : Int) ≤ 2 ∧ (2 : Int) < 5)
              (.ob (2 < 5)
                (.ob ((0 : Int) ≤ 3 ∧ (3 : Int) < 5)
                  (.ob (3 < 5)
                    (.ob ((0 : Int) ≤ 4 ∧ (4 : Int) < 5)
                      (.ob (4 < 5)
                        (.ob (5 = 5)
                          (.lt (summaryP l) fun (v1 : List Int) =>
                            .lt (rsummaryP l) fun (v2 : List Int) =>
                              .br
                                ([v1.getD 0 0, v1.getD 1 0, v1.getD 2 0, v1.getD 3 0,
                                          v1.getD 4 0].getD
                                      0 0 ==
                                    v2.getD 0 0 &&
                                  ([v1.getD 0 0, v1.getD 1 0, v1.getD 2 0, v1.getD 3 0,
                                            v1.getD 4 0].getD
                                        1 0 ==
                                      v2.getD 1 0 &&
                                    ([v1.getD 0 0, v1.getD 1 0, v1.getD 2 0, v1.getD 3 0,
                                              v1.getD 4 0].getD
                                          2 0 ==
                                        v2.getD 2 0 &&
                                      ([v1.getD 0 0, v1.getD 1 0, v1.getD 2 0, v1.getD 3 0,
                                                v1.getD 4 0].getD
                                            3 0 ==
                                          v2.getD 3 0 &&
                                        ([v1.getD 0 0, v1.getD 1 0, v1.getD 2 0, v1.getD 3 0,
                                                  v1.getD 4 0].getD
                                              4 0 ==
                                            v2.getD 4 0 &&
                                          true)))))
                                (.lt
                                  (wrp .i64
                                    (wrp .i64
                                        (wrp .i64
                                            (wrp .i64
                                                ([v1.getD 0 0, v1.getD 1 0, v1.getD 2 0, v1.getD 3 0,
                                                        v1.getD 4 0].getD
                                                    0 0 +
                                                  [v1.getD 0 0, v1.getD 1 0, v1.getD 2 0, v1.getD 3 0,
                                                        v1.getD 4 0].getD
                                                    1 0) +
                                              [v1.getD 0 0, v1.getD 1 0, v1.getD 2 0, v1.getD 3 0,
                                                    v1.getD 4 0].getD
                                                2 0) +
                                          [v1.getD 0 0, v1.getD 1 0, v1.getD 2 0, v1.getD 3 0,
                                                v1.getD 4 0].getD
                                            3 0) +
                                      [v1.getD 0 0, v1.getD 1 0, v1.getD 2 0, v1.getD 3 0,
                                            v1.getD 4 0].getD
                                        4 0))
                                  fun (v3 : Int) =>
                                  .br (v3 == (↑l.length : Int))
                                    (.ob (okTs t)
                                      (.ob (okTs t)
                                        (.br (sameP (onlyP t name) (ronlyP t name)) (.as (l.length ≤ 9223372036854775807) (.ret true))
                                          (.as (l.length ≤ 9223372036854775807) (.ret false)))))
                                    (.as (l.length ≤ 9223372036854775807) (.ret false)))
                                (.ret false)))))))))))))
noncomputable def law5P (l : List Mismatch) (t : List Tape) (name : Str) : Bool := (law5 l t name).val

theorem law5_eq (l : List Mismatch) (t : List Tape) (name : Str) (h : l.length ≤ 1048576 ∧ okTs t) : law5P l t name = true := by
  obtain ⟨a, b, c, d, e, hs, hn⟩ := sum_len l h.1
  have hr : rsummaryP l = [a, b, c, d, e] := by rw [rsummary_eq, ← summary_eq, hs]
  unfold law5P law5
  simp only [val_ob, val_lt, val_br, val_as, val_ret, hs, hr, ← only_eq, same_all _ (only_ok h.2)]
  simp only [List.getD_cons_zero, List.getD_cons_succ, hn]
  simp

theorem law5_is (l : List Mismatch) (t : List Tape) (name : Str) (h : l.length ≤ 1048576 ∧ okTs t) : Is (law5 l t name) :=
  is_ob (by omega) (is_ob (by omega) (is_ob (by omega) (is_ob (by omega) (is_ob (by omega) (is_ob (by omega) (is_ob (by omega) (is_ob (by omega) (is_ob (by omega) (is_ob (by omega) (is_ob (by omega) (is_ob (by omega) (is_lt fun v1 hv1 => is_lt fun v2 hv2 => is_br (fun _ => is_lt fun v3 hv3 => is_beq (fun _ => is_ob h.2 (is_ob h.2 (is_br (fun _ => is_as fun _ => is_ret) (fun _ => is_as fun _ => is_ret)))) (fun _ => is_as fun _ => is_ret)) (fun _ => is_ret)))))))))))))
noncomputable def e_law5 : Ent Z := entN Z [e_summary, e_rsummary, e_same, e_only, e_ronly, e_awake] [] (args (aCons (aLf cd_LMismatch) (aCons (aLf cd_LTape) (a1 (aLf cStr))))) (argsI (n := 47) rfl) (shr [.slot 0 false [none]] (l1 cBool)) [] Tryz.func3 Tryz.ntmps3 (by kernel_rfl) 1 rfl (fun a => law5 (a.1) (a.2.1) (a.2.2)) (fun a => some ((a.1).length ≤ 1048576 ∧ okTs (a.2.1))) (fun a e _ => by kernel_rfl) (fun a => true) (fun a h => ⟨law5_is (a.1) (a.2.1) (a.2.2) h, law5_eq (a.1) (a.2.1) (a.2.2) h⟩)
end Go.Proofs.YtcdhbdjlamikgaaGreatDoor
