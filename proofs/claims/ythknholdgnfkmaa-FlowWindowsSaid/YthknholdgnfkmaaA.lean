/-
  The contracts of the functions of package flow and of its reference (chapter 45): what each returns, for every argument, and that nothing that was in memory has changed.
-/
import Derived.Test.YthknholdgnfkmaaRows
import Derived.WalkKit
import Derived.WalkSpells
import Derived.WalkLawsBesides
import Derived.Deep.QuietTactic
import Derived.BigQuiet
import Derived.Lib.Hide
namespace Go.Proofs.Ythknholdgnfkmaa
open Go.RowKit
def validB (s l h : Int) : Bool := decide (1 ≤ s ∧ s ≤ 1048576 ∧ 0 ≤ l ∧ 0 ≤ h ∧ l ≤ 1048576 ∧ h ≤ 1048576 - l)
theorem validB_yes {s l h : Int} (v : validB s l h = true) : 1 ≤ s ∧ s ≤ 1048576 ∧ 0 ≤ l ∧ 0 ≤ h ∧ l ≤ 1048576 ∧ h ≤ 1048576 - l := of_decide_eq_true v
theorem validB_no {s l h : Int} (v : validB s l h = false) : ¬ (1 ≤ s ∧ s ≤ 1048576 ∧ 0 ≤ l ∧ 0 ≤ h ∧ l ≤ 1048576 ∧ h ≤ 1048576 - l) := of_decide_eq_false v
theorem validB_mk {s l h : Int} (v : 1 ≤ s ∧ s ≤ 1048576 ∧ 0 ≤ l ∧ 0 ≤ h ∧ l ≤ 1048576 ∧ h ≤ 1048576 - l) : validB s l h = true := decide_eq_true v
theorem validB_mk_no {s l h : Int} (v : ¬ (1 ≤ s ∧ s ≤ 1048576 ∧ 0 ≤ l ∧ 0 ≤ h ∧ l ≤ 1048576 ∧ h ≤ 1048576 - l)) : validB s l h = false := decide_eq_false v

theorem valid_yes (s l h : Int) (w : World) (v : validB s l h = true) :
    Calls Try.prog 13 #[.agg #[.int .i64 s, .int .i64 l, .int .i64 h]] w fun e w' => e = .returned (.bool true) ∧ w.alloc (.cells #[.int .i64 s, .int .i64 l, .int .i64 h] 23) = w' := by
  obtain ⟨h1, h2, h3, h4, h5, h6⟩ := validB_yes v
  have h7 : h ≤ 1048576 := by omega
  have h8 : l + h ≤ 1048576 := by omega
  clear v
  go_enter Try.func13, Try.ntmps13
  go_wp2
  go_ret
  exact ⟨rfl, rfl⟩
theorem valid_no (s l h : Int) (w : World) (v : validB s l h = false) :
    Calls Try.prog 13 #[.agg #[.int .i64 s, .int .i64 l, .int .i64 h]] w fun e w' => e = .returned (.bool false) ∧ w.alloc (.cells #[.int .i64 s, .int .i64 l, .int .i64 h] 23) = w' := by
  have V := Lib.hid (validB_no v)
  clear v
  go_enter Try.func13, Try.ntmps13
  go_wp2
  · have v := V.out
    have hd : decide (h ≤ 1048576 - l) = false := by simp; omega
    go_ret
    exact ⟨by simp [hd], rfl⟩
  all_goals (go_ret; exact ⟨rfl, rfl⟩)
theorem rvalid_yes (s l h : Int) (w : World) (v : validB s l h = true) :
    Calls Try.prog 14 #[.agg #[.int .i64 s, .int .i64 l, .int .i64 h]] w fun e w' => e = .returned (.bool true) ∧ w.alloc (.cells #[.int .i64 s, .int .i64 l, .int .i64 h] 23) = w' := by
  obtain ⟨h1, h2, h3, h4, h5, h6⟩ := validB_yes v
  have h7 : h ≤ 1048576 := by omega
  have h8 : l + h ≤ 1048576 := by omega
  clear v
  go_enter Try.func14, Try.ntmps14
  go_wp2
  go_ret
  exact ⟨rfl, rfl⟩
theorem rvalid_no (s l h : Int) (w : World) (v : validB s l h = false) :
    Calls Try.prog 14 #[.agg #[.int .i64 s, .int .i64 l, .int .i64 h]] w fun e w' => e = .returned (.bool false) ∧ w.alloc (.cells #[.int .i64 s, .int .i64 l, .int .i64 h] 23) = w' := by
  have V := Lib.hid (validB_no v)
  clear v
  go_enter Try.func14, Try.ntmps14
  go_wp2
  · have v := V.out
    have hd : decide (l + h ≤ 1048576) = false := by simp; omega
    go_ret
    exact ⟨by simp [hd], rfl⟩
  all_goals (go_ret; exact ⟨rfl, rfl⟩)

def newR (n : Int) : Int × Int := if 1 ≤ n ∧ n ≤ 1048576 then (n, 0) else (0, 1)
def takeR (s l h n : Int) : Int × Int := if validB s l h = true ∧ 0 ≤ n then (if n ≤ l then (l - n, 0) else (l, 22)) else (l, 1)
def giveR (s l h n : Int) : Int × Int := if validB s l h = true ∧ 1 ≤ n then (if n ≤ 1048576 - l - h then (l + n, 0) else (l, 6)) else (l, 1)
def accR (s l h n : Int) : Int × Int × Int := if validB s l h = true ∧ 0 ≤ n then (if n ≤ l then (l - n, h + n, 0) else (l, h, 22)) else (l, h, 1)
def retR (s l h : Int) : Int × Int × Int := if validB s l h = true ∧ h ≠ 0 ∧ s ≤ 2 * h then (l + h, 0, h) else (l, h, 0)

theorem new_any (n : Int) (w : World) :
    Calls Try.prog 8 #[.int .i64 n] w fun e w' => e = .returned (.tuple #[.agg #[.int .i64 (newR n).1, .int .i64 (newR n).1, .int .i64 0], .int .i64 (newR n).2]) ∧ Below w.heap.size w w' := by
  by_cases h1 : 1 ≤ n
  · by_cases h2 : n ≤ 1048576
    · rw [show newR n = (n, 0) by simp [newR, h1, h2]]
      go_enter Try.func8, Try.ntmps8
      go_wp2
      exact bodyPost_ret (by simp [results, Try.results8, go_sem]) rfl ⟨rfl, by ((repeat' (first | exact Below.refl _ _ | refine Below.alloc ?_ ?_ _ | refine Below.setCell ?_ ?_ _ | refine Below.drew ?_)) <;> simp <;> omega)⟩
    · rw [show newR n = (0, 1) by simp [newR, h2]]
      go_enter Try.func8, Try.ntmps8
      go_wp2
      exact bodyPost_ret (by simp [results, Try.results8, go_sem]) rfl ⟨rfl, by ((repeat' (first | exact Below.refl _ _ | refine Below.alloc ?_ ?_ _ | refine Below.setCell ?_ ?_ _ | refine Below.drew ?_)) <;> simp <;> omega)⟩
  · rw [show newR n = (0, 1) by simp [newR, h1]]
    go_enter Try.func8, Try.ntmps8
    go_wp2
    exact bodyPost_ret (by simp [results, Try.results8, go_sem]) rfl ⟨rfl, by ((repeat' (first | exact Below.refl _ _ | refine Below.alloc ?_ ?_ _ | refine Below.setCell ?_ ?_ _ | refine Below.drew ?_)) <;> simp <;> omega)⟩
theorem rnew_any (n : Int) (w : World) :
    Calls Try.prog 9 #[.int .i64 n] w fun e w' => e = .returned (.tuple #[.agg #[.int .i64 (newR n).1, .int .i64 (newR n).1, .int .i64 0], .int .i64 (newR n).2]) ∧ Below w.heap.size w w' := by
  by_cases h1 : 1 ≤ n
  · by_cases h2 : n ≤ 1048576
    · rw [show newR n = (n, 0) by simp [newR, h1, h2]]
      go_enter Try.func9, Try.ntmps9
      go_wp2
      exact bodyPost_ret (by simp [results, Try.results9, go_sem]) rfl ⟨rfl, by ((repeat' (first | exact Below.refl _ _ | refine Below.alloc ?_ ?_ _ | refine Below.setCell ?_ ?_ _ | refine Below.drew ?_)) <;> simp <;> omega)⟩
    · rw [show newR n = (0, 1) by simp [newR, h2]]
      go_enter Try.func9, Try.ntmps9
      go_wp2
      exact bodyPost_ret (by simp [results, Try.results9, go_sem]) rfl ⟨rfl, by ((repeat' (first | exact Below.refl _ _ | refine Below.alloc ?_ ?_ _ | refine Below.setCell ?_ ?_ _ | refine Below.drew ?_)) <;> simp <;> omega)⟩
  · rw [show newR n = (0, 1) by simp [newR, h1]]
    go_enter Try.func9, Try.ntmps9
    go_wp2
    exact bodyPost_ret (by simp [results, Try.results9, go_sem]) rfl ⟨rfl, by ((repeat' (first | exact Below.refl _ _ | refine Below.alloc ?_ ?_ _ | refine Below.setCell ?_ ?_ _ | refine Below.drew ?_)) <;> simp <;> omega)⟩

end Go.Proofs.Ythknholdgnfkmaa
