/-
  The contracts of flow's change, Take, Give, Accept, Return and of the reference's: what each returns, for every argument, and that nothing that was in memory has changed.
-/
import Derived.Test.YthknholdgnfkmaaA
import Derived.Deep.QuietTactic
import Derived.BigQuiet
namespace Go.Proofs.Ythknholdgnfkmaa
open Go.RowKit


theorem bcell {W w1 : World} (hb : Below W.heap.size W w1) : (∀ b o, b < W.heap.size → w1.cell? ⟨b, o, none⟩ = W.cell? ⟨b, o, none⟩) ∧ (∀ b o, b < W.heap.size → w1.frozen? ⟨b, o, none⟩ = W.frozen? ⟨b, o, none⟩) :=
  ⟨fun b o h => hb.cell (p := ⟨b, o, none⟩) h, fun b o h => hb.frozen (p := ⟨b, o, none⟩) h⟩
set_option maxHeartbeats 1000000 in
theorem chtake_any (s l h n : Int) (w : World) :
    Calls Try.prog 24 #[.agg #[.int .i64 s, .int .i64 l, .int .i64 h], .int .i64 n, .func (.func 25) #[] #[]] w fun e w' => e = .returned (.tuple #[.agg #[.int .i64 s, .int .i64 (takeR s l h n).1, .int .i64 h], .int .i64 (takeR s l h n).2]) ∧ Below w.heap.size w w' := by
  by_cases v : validB s l h = true
  · obtain ⟨v1, v2, v3, v4, v5, v6⟩ := validB_yes v
    by_cases h0 : 0 ≤ n
    · by_cases h1 : n ≤ l
      · rw [show takeR s l h n = (l - n, 0) by simp [takeR, v, h0, h1]]
        go_enter Try.func24, Try.ntmps24
        go_wp2_with (first | (go_at_call 13; refine (valid_yes _ _ _ _ v).mono ?_; rintro e w' ⟨rfl, rfl⟩) | (go_at_call 14; refine (rvalid_yes _ _ _ _ v).mono ?_; rintro e w' ⟨rfl, rfl⟩) | go_in)
        exact bodyPost_ret (by simp [results, Try.results24, go_sem]) rfl ⟨rfl, by ((repeat' (first | exact Below.refl _ _ | refine Below.alloc ?_ ?_ _ | refine Below.setCell ?_ ?_ _ | refine Below.drew ?_)) <;> simp <;> omega)⟩
      · rw [show takeR s l h n = (l, 22) by simp [takeR, v, h0, h1]]
        go_enter Try.func24, Try.ntmps24
        go_wp2_with (first | (go_at_call 13; refine (valid_yes _ _ _ _ v).mono ?_; rintro e w' ⟨rfl, rfl⟩) | (go_at_call 14; refine (rvalid_yes _ _ _ _ v).mono ?_; rintro e w' ⟨rfl, rfl⟩) | go_in)
        exact bodyPost_ret (by simp [results, Try.results24, go_sem]) rfl ⟨rfl, by ((repeat' (first | exact Below.refl _ _ | refine Below.alloc ?_ ?_ _ | refine Below.setCell ?_ ?_ _ | refine Below.drew ?_)) <;> simp <;> omega)⟩
    · rw [show takeR s l h n = (l, 1) by simp [takeR, h0]]
      go_enter Try.func24, Try.ntmps24
      go_wp2_with (first | (go_at_call 13; refine (valid_yes _ _ _ _ v).mono ?_; rintro e w' ⟨rfl, rfl⟩) | (go_at_call 14; refine (rvalid_yes _ _ _ _ v).mono ?_; rintro e w' ⟨rfl, rfl⟩) | go_in)
      exact bodyPost_ret (by simp [results, Try.results24, go_sem]) rfl ⟨rfl, by ((repeat' (first | exact Below.refl _ _ | refine Below.alloc ?_ ?_ _ | refine Below.setCell ?_ ?_ _ | refine Below.drew ?_)) <;> simp <;> omega)⟩
  · rw [show takeR s l h n = (l, 1) by simp [takeR, v]]
    have v : validB s l h = false := by simpa using v
    go_enter Try.func24, Try.ntmps24
    go_wp2_with (first | (go_at_call 13; refine (valid_no _ _ _ _ v).mono ?_; rintro e w' ⟨rfl, rfl⟩) | (go_at_call 14; refine (rvalid_no _ _ _ _ v).mono ?_; rintro e w' ⟨rfl, rfl⟩) | go_in)
    exact bodyPost_ret (by simp [results, Try.results24, go_sem]) rfl ⟨rfl, by ((repeat' (first | exact Below.refl _ _ | refine Below.alloc ?_ ?_ _ | refine Below.setCell ?_ ?_ _ | refine Below.drew ?_)) <;> simp <;> omega)⟩
set_option maxHeartbeats 1000000 in
theorem rtake_any (s l h n : Int) (w : World) :
    Calls Try.prog 17 #[.agg #[.int .i64 s, .int .i64 l, .int .i64 h], .int .i64 n] w fun e w' => e = .returned (.tuple #[.agg #[.int .i64 s, .int .i64 (takeR s l h n).1, .int .i64 h], .int .i64 (takeR s l h n).2]) ∧ Below w.heap.size w w' := by
  by_cases v : validB s l h = true
  · obtain ⟨v1, v2, v3, v4, v5, v6⟩ := validB_yes v
    by_cases h0 : 0 ≤ n
    · by_cases h1 : n ≤ l
      · rw [show takeR s l h n = (l - n, 0) by simp [takeR, v, h0, h1]]
        go_enter Try.func17, Try.ntmps17
        go_wp2_with (first | (go_at_call 13; refine (valid_yes _ _ _ _ v).mono ?_; rintro e w' ⟨rfl, rfl⟩) | (go_at_call 14; refine (rvalid_yes _ _ _ _ v).mono ?_; rintro e w' ⟨rfl, rfl⟩) | go_in)
        exact bodyPost_ret (by simp [results, Try.results17, go_sem]) rfl ⟨rfl, by ((repeat' (first | exact Below.refl _ _ | refine Below.alloc ?_ ?_ _ | refine Below.setCell ?_ ?_ _ | refine Below.drew ?_)) <;> simp <;> omega)⟩
      · rw [show takeR s l h n = (l, 22) by simp [takeR, v, h0, h1]]
        go_enter Try.func17, Try.ntmps17
        go_wp2_with (first | (go_at_call 13; refine (valid_yes _ _ _ _ v).mono ?_; rintro e w' ⟨rfl, rfl⟩) | (go_at_call 14; refine (rvalid_yes _ _ _ _ v).mono ?_; rintro e w' ⟨rfl, rfl⟩) | go_in)
        exact bodyPost_ret (by simp [results, Try.results17, go_sem]) rfl ⟨rfl, by ((repeat' (first | exact Below.refl _ _ | refine Below.alloc ?_ ?_ _ | refine Below.setCell ?_ ?_ _ | refine Below.drew ?_)) <;> simp <;> omega)⟩
    · rw [show takeR s l h n = (l, 1) by simp [takeR, h0]]
      go_enter Try.func17, Try.ntmps17
      go_wp2_with (first | (go_at_call 13; refine (valid_yes _ _ _ _ v).mono ?_; rintro e w' ⟨rfl, rfl⟩) | (go_at_call 14; refine (rvalid_yes _ _ _ _ v).mono ?_; rintro e w' ⟨rfl, rfl⟩) | go_in)
      exact bodyPost_ret (by simp [results, Try.results17, go_sem]) rfl ⟨rfl, by ((repeat' (first | exact Below.refl _ _ | refine Below.alloc ?_ ?_ _ | refine Below.setCell ?_ ?_ _ | refine Below.drew ?_)) <;> simp <;> omega)⟩
  · rw [show takeR s l h n = (l, 1) by simp [takeR, v]]
    have v : validB s l h = false := by simpa using v
    go_enter Try.func17, Try.ntmps17
    go_wp2_with (first | (go_at_call 13; refine (valid_no _ _ _ _ v).mono ?_; rintro e w' ⟨rfl, rfl⟩) | (go_at_call 14; refine (rvalid_no _ _ _ _ v).mono ?_; rintro e w' ⟨rfl, rfl⟩) | go_in)
    exact bodyPost_ret (by simp [results, Try.results17, go_sem]) rfl ⟨rfl, by ((repeat' (first | exact Below.refl _ _ | refine Below.alloc ?_ ?_ _ | refine Below.setCell ?_ ?_ _ | refine Below.drew ?_)) <;> simp <;> omega)⟩
set_option maxHeartbeats 1000000 in
theorem chacc_any (s l h n : Int) (w : World) :
    Calls Try.prog 24 #[.agg #[.int .i64 s, .int .i64 l, .int .i64 h], .int .i64 n, .func (.func 29) #[] #[]] w fun e w' => e = .returned (.tuple #[.agg #[.int .i64 s, .int .i64 (accR s l h n).1, .int .i64 (accR s l h n).2.1], .int .i64 (accR s l h n).2.2]) ∧ Below w.heap.size w w' := by
  by_cases v : validB s l h = true
  · obtain ⟨v1, v2, v3, v4, v5, v6⟩ := validB_yes v
    by_cases h0 : 0 ≤ n
    · by_cases h1 : n ≤ l
      · rw [show accR s l h n = (l - n, h + n, 0) by simp [accR, v, h0, h1]]
        go_enter Try.func24, Try.ntmps24
        go_wp2_with (first | (go_at_call 13; refine (valid_yes _ _ _ _ v).mono ?_; rintro e w' ⟨rfl, rfl⟩) | (go_at_call 14; refine (rvalid_yes _ _ _ _ v).mono ?_; rintro e w' ⟨rfl, rfl⟩) | go_in)
        exact bodyPost_ret (by simp [results, Try.results24, go_sem]) rfl ⟨rfl, by ((repeat' (first | exact Below.refl _ _ | refine Below.alloc ?_ ?_ _ | refine Below.setCell ?_ ?_ _ | refine Below.drew ?_)) <;> simp <;> omega)⟩
      · rw [show accR s l h n = (l, h, 22) by simp [accR, v, h0, h1]]
        go_enter Try.func24, Try.ntmps24
        go_wp2_with (first | (go_at_call 13; refine (valid_yes _ _ _ _ v).mono ?_; rintro e w' ⟨rfl, rfl⟩) | (go_at_call 14; refine (rvalid_yes _ _ _ _ v).mono ?_; rintro e w' ⟨rfl, rfl⟩) | go_in)
        exact bodyPost_ret (by simp [results, Try.results24, go_sem]) rfl ⟨rfl, by ((repeat' (first | exact Below.refl _ _ | refine Below.alloc ?_ ?_ _ | refine Below.setCell ?_ ?_ _ | refine Below.drew ?_)) <;> simp <;> omega)⟩
    · rw [show accR s l h n = (l, h, 1) by simp [accR, h0]]
      go_enter Try.func24, Try.ntmps24
      go_wp2_with (first | (go_at_call 13; refine (valid_yes _ _ _ _ v).mono ?_; rintro e w' ⟨rfl, rfl⟩) | (go_at_call 14; refine (rvalid_yes _ _ _ _ v).mono ?_; rintro e w' ⟨rfl, rfl⟩) | go_in)
      exact bodyPost_ret (by simp [results, Try.results24, go_sem]) rfl ⟨rfl, by ((repeat' (first | exact Below.refl _ _ | refine Below.alloc ?_ ?_ _ | refine Below.setCell ?_ ?_ _ | refine Below.drew ?_)) <;> simp <;> omega)⟩
  · rw [show accR s l h n = (l, h, 1) by simp [accR, v]]
    have v : validB s l h = false := by simpa using v
    go_enter Try.func24, Try.ntmps24
    go_wp2_with (first | (go_at_call 13; refine (valid_no _ _ _ _ v).mono ?_; rintro e w' ⟨rfl, rfl⟩) | (go_at_call 14; refine (rvalid_no _ _ _ _ v).mono ?_; rintro e w' ⟨rfl, rfl⟩) | go_in)
    exact bodyPost_ret (by simp [results, Try.results24, go_sem]) rfl ⟨rfl, by ((repeat' (first | exact Below.refl _ _ | refine Below.alloc ?_ ?_ _ | refine Below.setCell ?_ ?_ _ | refine Below.drew ?_)) <;> simp <;> omega)⟩

end Go.Proofs.Ythknholdgnfkmaa
