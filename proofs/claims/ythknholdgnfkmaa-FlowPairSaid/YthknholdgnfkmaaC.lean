/-
  The contracts of flow's Take, Give, Accept, Return and of the reference's: what each returns, for every argument, and that nothing that was in memory has changed.
-/
import Derived.Test.YthknholdgnfkmaaB
namespace Go.Proofs.Ythknholdgnfkmaa
open Go.RowKit
set_option maxHeartbeats 1000000 in
theorem ret_any (s l h : Int) (w : World) :
    Calls Try.prog 10 #[.agg #[.int .i64 s, .int .i64 l, .int .i64 h]] w fun e w' => e = .returned (.tuple #[.agg #[.int .i64 s, .int .i64 (retR s l h).1, .int .i64 (retR s l h).2.1], .int .i64 (retR s l h).2.2]) ∧ Below w.heap.size w w' := by
  by_cases v : validB s l h = true
  · obtain ⟨v1, v2, v3, v4, v5, v6⟩ := validB_yes v
    by_cases h0 : h = 0
    · rw [show retR s l h = (l, h, 0) by simp [retR, h0]]
      subst h0
      go_enter Try.func10, Try.ntmps10
      go_wp2_with (first | (go_at_call 13; refine (valid_yes _ _ _ _ v).mono ?_; rintro e w' ⟨rfl, rfl⟩) | (go_at_call 14; refine (rvalid_yes _ _ _ _ v).mono ?_; rintro e w' ⟨rfl, rfl⟩) | go_in)
      exact bodyPost_ret (by simp [results, Try.results10, go_sem]) rfl ⟨rfl, by ((repeat' (first | exact Below.refl _ _ | refine Below.alloc ?_ ?_ _ | refine Below.setCell ?_ ?_ _ | refine Below.drew ?_)) <;> simp <;> omega)⟩
    · have h0' : (h == 0) = false := by simpa using h0
      by_cases h1 : s ≤ 2 * h
      · rw [show retR s l h = (l + h, 0, h) by simp [retR, v, h0, h1]]
        clear h0
        go_enter Try.func10, Try.ntmps10
        go_wp2_with (first | (go_at_call 13; refine (valid_yes _ _ _ _ v).mono ?_; rintro e w' ⟨rfl, rfl⟩) | (go_at_call 14; refine (rvalid_yes _ _ _ _ v).mono ?_; rintro e w' ⟨rfl, rfl⟩) | go_in)
        exact bodyPost_ret (by simp [results, Try.results10, go_sem]) rfl ⟨rfl, by ((repeat' (first | exact Below.refl _ _ | refine Below.alloc ?_ ?_ _ | refine Below.setCell ?_ ?_ _ | refine Below.drew ?_)) <;> simp <;> omega)⟩
      · rw [show retR s l h = (l, h, 0) by simp [retR, h1]]
        clear h0
        go_enter Try.func10, Try.ntmps10
        go_wp2_with (first | (go_at_call 13; refine (valid_yes _ _ _ _ v).mono ?_; rintro e w' ⟨rfl, rfl⟩) | (go_at_call 14; refine (rvalid_yes _ _ _ _ v).mono ?_; rintro e w' ⟨rfl, rfl⟩) | go_in)
        exact bodyPost_ret (by simp [results, Try.results10, go_sem]) rfl ⟨rfl, by ((repeat' (first | exact Below.refl _ _ | refine Below.alloc ?_ ?_ _ | refine Below.setCell ?_ ?_ _ | refine Below.drew ?_)) <;> simp <;> omega)⟩
  · rw [show retR s l h = (l, h, 0) by simp [retR, v]]
    have v : validB s l h = false := by simpa using v
    go_enter Try.func10, Try.ntmps10
    go_wp2_with (first | (go_at_call 13; refine (valid_no _ _ _ _ v).mono ?_; rintro e w' ⟨rfl, rfl⟩) | (go_at_call 14; refine (rvalid_no _ _ _ _ v).mono ?_; rintro e w' ⟨rfl, rfl⟩) | go_in)
    exact bodyPost_ret (by simp [results, Try.results10, go_sem]) rfl ⟨rfl, by ((repeat' (first | exact Below.refl _ _ | refine Below.alloc ?_ ?_ _ | refine Below.setCell ?_ ?_ _ | refine Below.drew ?_)) <;> simp <;> omega)⟩
set_option maxHeartbeats 1000000 in
theorem rret_any (s l h : Int) (w : World) :
    Calls Try.prog 11 #[.agg #[.int .i64 s, .int .i64 l, .int .i64 h]] w fun e w' => e = .returned (.tuple #[.agg #[.int .i64 s, .int .i64 (retR s l h).1, .int .i64 (retR s l h).2.1], .int .i64 (retR s l h).2.2]) ∧ Below w.heap.size w w' := by
  by_cases v : validB s l h = true
  · obtain ⟨v1, v2, v3, v4, v5, v6⟩ := validB_yes v
    by_cases h0 : h = 0
    · rw [show retR s l h = (l, h, 0) by simp [retR, h0]]
      subst h0
      go_enter Try.func11, Try.ntmps11
      go_wp2_with (first | (go_at_call 13; refine (valid_yes _ _ _ _ v).mono ?_; rintro e w' ⟨rfl, rfl⟩) | (go_at_call 14; refine (rvalid_yes _ _ _ _ v).mono ?_; rintro e w' ⟨rfl, rfl⟩) | go_in)
      exact bodyPost_ret (by simp [results, Try.results11, go_sem]) rfl ⟨rfl, by ((repeat' (first | exact Below.refl _ _ | refine Below.alloc ?_ ?_ _ | refine Below.setCell ?_ ?_ _ | refine Below.drew ?_)) <;> simp <;> omega)⟩
    · have h0' : (h == 0) = false := by simpa using h0
      by_cases h1 : s ≤ 2 * h
      · rw [show retR s l h = (l + h, 0, h) by simp [retR, v, h0, h1]]
        clear h0
        go_enter Try.func11, Try.ntmps11
        go_wp2_with (first | (go_at_call 13; refine (valid_yes _ _ _ _ v).mono ?_; rintro e w' ⟨rfl, rfl⟩) | (go_at_call 14; refine (rvalid_yes _ _ _ _ v).mono ?_; rintro e w' ⟨rfl, rfl⟩) | go_in)
        exact bodyPost_ret (by simp [results, Try.results11, go_sem]) rfl ⟨rfl, by ((repeat' (first | exact Below.refl _ _ | refine Below.alloc ?_ ?_ _ | refine Below.setCell ?_ ?_ _ | refine Below.drew ?_)) <;> simp <;> omega)⟩
      · rw [show retR s l h = (l, h, 0) by simp [retR, h1]]
        clear h0
        go_enter Try.func11, Try.ntmps11
        go_wp2_with (first | (go_at_call 13; refine (valid_yes _ _ _ _ v).mono ?_; rintro e w' ⟨rfl, rfl⟩) | (go_at_call 14; refine (rvalid_yes _ _ _ _ v).mono ?_; rintro e w' ⟨rfl, rfl⟩) | go_in)
        exact bodyPost_ret (by simp [results, Try.results11, go_sem]) rfl ⟨rfl, by ((repeat' (first | exact Below.refl _ _ | refine Below.alloc ?_ ?_ _ | refine Below.setCell ?_ ?_ _ | refine Below.drew ?_)) <;> simp <;> omega)⟩
  · rw [show retR s l h = (l, h, 0) by simp [retR, v]]
    have v : validB s l h = false := by simpa using v
    go_enter Try.func11, Try.ntmps11
    go_wp2_with (first | (go_at_call 13; refine (valid_no _ _ _ _ v).mono ?_; rintro e w' ⟨rfl, rfl⟩) | (go_at_call 14; refine (rvalid_no _ _ _ _ v).mono ?_; rintro e w' ⟨rfl, rfl⟩) | go_in)
    exact bodyPost_ret (by simp [results, Try.results11, go_sem]) rfl ⟨rfl, by ((repeat' (first | exact Below.refl _ _ | refine Below.alloc ?_ ?_ _ | refine Below.setCell ?_ ?_ _ | refine Below.drew ?_)) <;> simp <;> omega)⟩

set_option maxHeartbeats 400000 in
theorem mgive_ok (b : Nat) (l h n : Int) (w : World) (c1 : w.cell? ⟨b, 1, none⟩ = some (.int .i64 l)) (c2 : w.cell? ⟨b, 2, none⟩ = some (.int .i64 h)) (fz : w.frozen? ⟨b, 1, none⟩ = false)
    (v3 : 0 ≤ l) (v4 : 0 ≤ h) (v5 : l ≤ 1048576) (v6 : h ≤ 1048576 - l) (h0 : 1 ≤ n) (h1 : n ≤ 1048576 - l - h) :
    Calls Try.prog 28 #[.pointer (some ⟨b, 0, none⟩), .int .i64 n] w fun e w' => e = .returned (.int .i64 0) ∧ ∃ k, (w.drewN k).setCell ⟨b, 1, none⟩ (.int .i64 (l + n)) = w' := by
  go_enter Try.func28, Try.ntmps28
  go_wp2
  go_quiet (fail)
  go_wp2
  go_ret
  exact ⟨rfl, _, rfl⟩
set_option maxHeartbeats 400000 in
theorem mgive_full (b : Nat) (l h n : Int) (w : World) (c1 : w.cell? ⟨b, 1, none⟩ = some (.int .i64 l)) (c2 : w.cell? ⟨b, 2, none⟩ = some (.int .i64 h))
    (v3 : 0 ≤ l) (v4 : 0 ≤ h) (v5 : l ≤ 1048576) (v6 : h ≤ 1048576 - l) (h0 : 1 ≤ n) (h1 : 1048576 - l - h < n) :
    Calls Try.prog 28 #[.pointer (some ⟨b, 0, none⟩), .int .i64 n] w fun e w' => e = .returned (.int .i64 6) ∧ ∃ k, w.drewN k = w' := by
  go_enter Try.func28, Try.ntmps28
  go_wp2
  go_quiet (fail)
  go_wp2
  go_ret
  exact ⟨rfl, _, rfl⟩

end Go.Proofs.Ythknholdgnfkmaa
