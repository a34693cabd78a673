/-
  The contracts of flow's Take, Give, Accept and of the reference's Give and Accept.
-/
import Derived.Test.YthknholdgnfkmaaC
namespace Go.Proofs.Ythknholdgnfkmaa
open Go.RowKit
theorem below_drewN {B : Nat} {a w : World} (h : Below B a w) (n : Nat) : Below B a (w.drewN n) := ⟨h.os, h.tape, h.output, h.size, h.block⟩
set_option maxHeartbeats 1000000 in
theorem chgive_any (s l h n : Int) (w : World) :
    Calls Try.prog 24 #[.agg #[.int .i64 s, .int .i64 l, .int .i64 h], .int .i64 n, .func (.func 27) #[] #[]] w fun e w' => e = .returned (.tuple #[.agg #[.int .i64 s, .int .i64 (giveR s l h n).1, .int .i64 h], .int .i64 (giveR s l h n).2]) ∧ Below w.heap.size w w' := by
  by_cases v : validB s l h = true
  · obtain ⟨v1, v2, v3, v4, v5, v6⟩ := validB_yes v
    by_cases h0 : 1 ≤ n
    · by_cases h1 : n ≤ 1048576 - l - h
      · rw [show giveR s l h n = (l + n, 0) by simp [giveR, v, h0, h1]]
        go_enter Try.func24, Try.ntmps24
        go_wp2_with (first | (go_at_call 13; refine (valid_yes _ _ _ _ v).mono ?_; rintro e w' ⟨rfl, rfl⟩) | (go_at_call 14; refine (rvalid_yes _ _ _ _ v).mono ?_; rintro e w' ⟨rfl, rfl⟩) | (go_at_call 28; refine (mgive_ok _ l h n _ ?_ ?_ ?_ v3 v4 v5 v6 h0 h1).mono ?_; (go_simp); (go_simp); (go_simp); rintro e w' ⟨rfl, k, rfl⟩) | go_in)
        exact bodyPost_ret (by simp [results, Try.results24, go_sem]) rfl ⟨rfl, by ((repeat' (first | (with_reducible exact Below.refl _ _) | (with_reducible refine below_drewN ?_ _) | (with_reducible refine Below.alloc ?_ ?_ _) | (with_reducible refine Below.setCell ?_ ?_ _) | (with_reducible refine Below.drew ?_))) <;> simp <;> omega)⟩
      · rw [show giveR s l h n = (l, 6) by simp [giveR, v, h0, h1]]
        have h1 : 1048576 - l - h < n := by omega
        go_enter Try.func24, Try.ntmps24
        go_wp2_with (first | (go_at_call 13; refine (valid_yes _ _ _ _ v).mono ?_; rintro e w' ⟨rfl, rfl⟩) | (go_at_call 14; refine (rvalid_yes _ _ _ _ v).mono ?_; rintro e w' ⟨rfl, rfl⟩) | (go_at_call 28; refine (mgive_full _ l h n _ ?_ ?_ v3 v4 v5 v6 h0 h1).mono ?_; (go_simp); (go_simp); rintro e w' ⟨rfl, k, rfl⟩) | go_in)
        exact bodyPost_ret (by simp [results, Try.results24, go_sem]) rfl ⟨rfl, by ((repeat' (first | (with_reducible exact Below.refl _ _) | (with_reducible refine below_drewN ?_ _) | (with_reducible refine Below.alloc ?_ ?_ _) | (with_reducible refine Below.setCell ?_ ?_ _) | (with_reducible refine Below.drew ?_))) <;> simp <;> omega)⟩
    · rw [show giveR s l h n = (l, 1) by simp [giveR, h0]]
      go_enter Try.func24, Try.ntmps24
      go_wp2_with (first | (go_at_call 13; refine (valid_yes _ _ _ _ v).mono ?_; rintro e w' ⟨rfl, rfl⟩) | (go_at_call 14; refine (rvalid_yes _ _ _ _ v).mono ?_; rintro e w' ⟨rfl, rfl⟩) | go_in)
      exact bodyPost_ret (by simp [results, Try.results24, go_sem]) rfl ⟨rfl, by ((repeat' (first | exact Below.refl _ _ | refine Below.alloc ?_ ?_ _ | refine Below.setCell ?_ ?_ _ | refine Below.drew ?_)) <;> simp <;> omega)⟩
  · rw [show giveR s l h n = (l, 1) by simp [giveR, v]]
    have v : validB s l h = false := by simpa using v
    go_enter Try.func24, Try.ntmps24
    go_wp2_with (first | (go_at_call 13; refine (valid_no _ _ _ _ v).mono ?_; rintro e w' ⟨rfl, rfl⟩) | (go_at_call 14; refine (rvalid_no _ _ _ _ v).mono ?_; rintro e w' ⟨rfl, rfl⟩) | go_in)
    exact bodyPost_ret (by simp [results, Try.results24, go_sem]) rfl ⟨rfl, by ((repeat' (first | exact Below.refl _ _ | refine Below.alloc ?_ ?_ _ | refine Below.setCell ?_ ?_ _ | refine Below.drew ?_)) <;> simp <;> omega)⟩
set_option maxHeartbeats 1000000 in
theorem rgive_any (s l h n : Int) (w : World) :
    Calls Try.prog 19 #[.agg #[.int .i64 s, .int .i64 l, .int .i64 h], .int .i64 n] w fun e w' => e = .returned (.tuple #[.agg #[.int .i64 s, .int .i64 (giveR s l h n).1, .int .i64 h], .int .i64 (giveR s l h n).2]) ∧ Below w.heap.size w w' := by
  by_cases v : validB s l h = true
  · obtain ⟨v1, v2, v3, v4, v5, v6⟩ := validB_yes v
    by_cases h0 : 1 ≤ n
    · by_cases h1 : n ≤ 1048576 - l - h
      · rw [show giveR s l h n = (l + n, 0) by simp [giveR, v, h0, h1]]
        go_enter Try.func19, Try.ntmps19
        go_wp2_with (first | (go_at_call 13; refine (valid_yes _ _ _ _ v).mono ?_; rintro e w' ⟨rfl, rfl⟩) | (go_at_call 14; refine (rvalid_yes _ _ _ _ v).mono ?_; rintro e w' ⟨rfl, rfl⟩) | (go_at_call 28; refine (mgive_ok _ l h n _ ?_ ?_ ?_ v3 v4 v5 v6 h0 h1).mono ?_; (go_simp); (go_simp); (go_simp); rintro e w' ⟨rfl, k, rfl⟩) | go_in)
        exact bodyPost_ret (by simp [results, Try.results19, go_sem]) rfl ⟨rfl, by ((repeat' (first | (with_reducible exact Below.refl _ _) | (with_reducible refine below_drewN ?_ _) | (with_reducible refine Below.alloc ?_ ?_ _) | (with_reducible refine Below.setCell ?_ ?_ _) | (with_reducible refine Below.drew ?_))) <;> simp <;> omega)⟩
      · rw [show giveR s l h n = (l, 6) by simp [giveR, v, h0, h1]]
        have h1 : 1048576 - l - h < n := by omega
        go_enter Try.func19, Try.ntmps19
        go_wp2_with (first | (go_at_call 13; refine (valid_yes _ _ _ _ v).mono ?_; rintro e w' ⟨rfl, rfl⟩) | (go_at_call 14; refine (rvalid_yes _ _ _ _ v).mono ?_; rintro e w' ⟨rfl, rfl⟩) | (go_at_call 28; refine (mgive_full _ l h n _ ?_ ?_ v3 v4 v5 v6 h0 h1).mono ?_; (go_simp); (go_simp); rintro e w' ⟨rfl, k, rfl⟩) | go_in)
        exact bodyPost_ret (by simp [results, Try.results19, go_sem]) rfl ⟨rfl, by ((repeat' (first | (with_reducible exact Below.refl _ _) | (with_reducible refine below_drewN ?_ _) | (with_reducible refine Below.alloc ?_ ?_ _) | (with_reducible refine Below.setCell ?_ ?_ _) | (with_reducible refine Below.drew ?_))) <;> simp <;> omega)⟩
    · rw [show giveR s l h n = (l, 1) by simp [giveR, h0]]
      go_enter Try.func19, Try.ntmps19
      go_wp2_with (first | (go_at_call 13; refine (valid_yes _ _ _ _ v).mono ?_; rintro e w' ⟨rfl, rfl⟩) | (go_at_call 14; refine (rvalid_yes _ _ _ _ v).mono ?_; rintro e w' ⟨rfl, rfl⟩) | go_in)
      exact bodyPost_ret (by simp [results, Try.results19, go_sem]) rfl ⟨rfl, by ((repeat' (first | exact Below.refl _ _ | refine Below.alloc ?_ ?_ _ | refine Below.setCell ?_ ?_ _ | refine Below.drew ?_)) <;> simp <;> omega)⟩
  · rw [show giveR s l h n = (l, 1) by simp [giveR, v]]
    have v : validB s l h = false := by simpa using v
    go_enter Try.func19, Try.ntmps19
    go_wp2_with (first | (go_at_call 13; refine (valid_no _ _ _ _ v).mono ?_; rintro e w' ⟨rfl, rfl⟩) | (go_at_call 14; refine (rvalid_no _ _ _ _ v).mono ?_; rintro e w' ⟨rfl, rfl⟩) | go_in)
    exact bodyPost_ret (by simp [results, Try.results19, go_sem]) rfl ⟨rfl, by ((repeat' (first | exact Below.refl _ _ | refine Below.alloc ?_ ?_ _ | refine Below.setCell ?_ ?_ _ | refine Below.drew ?_)) <;> simp <;> omega)⟩
theorem hz2 {w w1 : World} {o1 o2 : Obj} (hb : Below ((w.alloc o1).alloc o2).heap.size ((w.alloc o1).alloc o2) w1) : w.heap.size + 1 < w1.heap.size := by
  have := hb.size
  simp at this
  omega
set_option maxHeartbeats 400000 in
theorem take_any (s l h n : Int) (w : World) :
    Calls Try.prog 16 #[.agg #[.int .i64 s, .int .i64 l, .int .i64 h], .int .i64 n] w fun e w' => e = .returned (.tuple #[.agg #[.int .i64 s, .int .i64 (takeR s l h n).1, .int .i64 h], .int .i64 (takeR s l h n).2]) ∧ Below w.heap.size w w' := by
  go_enter Try.func16, Try.ntmps16
  go_wp2_with (go_at_call 24; refine (chtake_any _ _ _ _ _).mono ?_; rintro e w1 ⟨rfl, hb⟩; obtain ⟨hc, hf⟩ := bcell hb; have hz := hz2 hb; have hb2 := hb.mono (B' := w.heap.size) (by simp; omega); clear hb)
  exact bodyPost_ret (by simp [results, Try.results16, go_sem, hc]) rfl ⟨rfl, by
    refine Below.setCell (Below.setCell (Below.setCell (((((Below.refl _ _).alloc ?_ _).alloc ?_ _)).trans hb2) ?_ _) ?_ _) ?_ _
    all_goals (simp <;> omega)⟩
set_option maxHeartbeats 400000 in
theorem give_any (s l h n : Int) (w : World) :
    Calls Try.prog 18 #[.agg #[.int .i64 s, .int .i64 l, .int .i64 h], .int .i64 n] w fun e w' => e = .returned (.tuple #[.agg #[.int .i64 s, .int .i64 (giveR s l h n).1, .int .i64 h], .int .i64 (giveR s l h n).2]) ∧ Below w.heap.size w w' := by
  go_enter Try.func18, Try.ntmps18
  go_wp2_with (go_at_call 24; refine (chgive_any _ _ _ _ _).mono ?_; rintro e w1 ⟨rfl, hb⟩; obtain ⟨hc, hf⟩ := bcell hb; have hz := hz2 hb; have hb2 := hb.mono (B' := w.heap.size) (by simp; omega); clear hb)
  exact bodyPost_ret (by simp [results, Try.results18, go_sem, hc]) rfl ⟨rfl, by
    refine Below.setCell (Below.setCell (Below.setCell (((((Below.refl _ _).alloc ?_ _).alloc ?_ _)).trans hb2) ?_ _) ?_ _) ?_ _
    all_goals (simp <;> omega)⟩
end Go.Proofs.Ythknholdgnfkmaa
