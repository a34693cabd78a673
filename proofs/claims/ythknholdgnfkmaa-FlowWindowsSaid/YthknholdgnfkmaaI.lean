/-
  Flow: the contracts of the functions that call none, by the engine.
-/
import Derived.Test.YthknholdgnfkmaaK
namespace Go.Proofs.Ythknholdgnfkmaa
open Go.RowKit Go.Vc
set_option linter.unusedVariables false
set_option linter.unusedSimpArgs false
set_option maxRecDepth 100000

def validC : Ct DI := fun args => match args with
  | [.one (.agg [.int .i64 s, .int .i64 l, .int .i64 h])] => some (none, .one (.lf (.bool (validB s l h))))
  | _ => none
theorem valid_vc (s l h : Int) :
    (decide ((1 : Int) ≤ s) = true →
        (decide (s ≤ (1048576 : Int)) = true →
            (decide ((0 : Int) ≤ l) = true →
                (decide ((0 : Int) ≤ h) = true →
                    (decide (l ≤ (1048576 : Int)) = true →
                        ((-9223372036854775808 : Int) ≤ (1048576 : Int) - l ∧ (1048576 : Int) - l ≤ (9223372036854775807 : Int)) ∧
                          decide (h ≤ (1048576 : Int) - l) = validB s l h ∧ True) ∧
                      (decide (l ≤ (1048576 : Int)) = false → false = validB s l h ∧ True)) ∧
                  (decide ((0 : Int) ≤ h) = false → false = validB s l h ∧ True)) ∧
              (decide ((0 : Int) ≤ l) = false → false = validB s l h ∧ True)) ∧
          (decide (s ≤ (1048576 : Int)) = false → false = validB s l h ∧ True)) ∧
      (decide ((1 : Int) ≤ s) = false → false = validB s l h ∧ True) := by
  repeat' (first | apply And.intro | intro _)
  all_goals first | trivial | (simp only [decide_eq_true_eq, decide_eq_false_iff_not] at *; omega) | (simp only [decide_eq_true_eq, decide_eq_false_iff_not] at *; unfold validB; first | (symm; rw [decide_eq_false_iff_not]; omega) | (rw [decide_eq_decide]; omega))
theorem valid_ok : CtOk Try.prog SI 13 validC := by
  refine fn_ok (T := TI) (Γ := Γ0) mixedI TI_ok Γ0_ok SI_ok Try.func13 rfl (by kernel_rfl) Try.ntmps13 rfl (by kernel_rfl) validC ?_
  intro sargs p r hc
  unfold validC at hc
  split at hc
  · rename_i s l h
    cases hc
    exact ⟨Nat.le_of_ble_eq_true rfl, fun hp => ⟨fun _ _ => none, Eq.mp (by kernel_rfl) (valid_vc s l h)⟩⟩
  · cases hc

def rvalidC : Ct DI := fun args => match args with
  | [.one (.agg [.int .i64 s, .int .i64 l, .int .i64 h])] => some (none, .one (.lf (.bool (validB s l h))))
  | _ => none
theorem rvalid_vc (s l h : Int) :
    (decide ((1 : Int) ≤ s) = true →
        (decide (s ≤ (1048576 : Int)) = true →
            (decide ((0 : Int) ≤ l) = true →
                (decide ((0 : Int) ≤ h) = true →
                    (decide (l ≤ (1048576 : Int)) = true →
                        (decide (h ≤ (1048576 : Int)) = true →
                            ((-9223372036854775808 : Int) ≤ l + h ∧ l + h ≤ (9223372036854775807 : Int)) ∧ decide (l + h ≤ (1048576 : Int)) = validB s l h ∧ True) ∧
                          (decide (h ≤ (1048576 : Int)) = false → false = validB s l h ∧ True)) ∧
                      (decide (l ≤ (1048576 : Int)) = false → false = validB s l h ∧ True)) ∧
                  (decide ((0 : Int) ≤ h) = false → false = validB s l h ∧ True)) ∧
              (decide ((0 : Int) ≤ l) = false → false = validB s l h ∧ True)) ∧
          (decide (s ≤ (1048576 : Int)) = false → false = validB s l h ∧ True)) ∧
      (decide ((1 : Int) ≤ s) = false → false = validB s l h ∧ True) := by
  repeat' (first | apply And.intro | intro _)
  all_goals first | trivial | (simp only [decide_eq_true_eq, decide_eq_false_iff_not] at *; omega) | (simp only [decide_eq_true_eq, decide_eq_false_iff_not] at *; unfold validB; first | (symm; rw [decide_eq_false_iff_not]; omega) | (rw [decide_eq_decide]; omega))
theorem rvalid_ok : CtOk Try.prog SI 14 rvalidC := by
  refine fn_ok (T := TI) (Γ := Γ0) mixedI TI_ok Γ0_ok SI_ok Try.func14 rfl (by kernel_rfl) Try.ntmps14 rfl (by kernel_rfl) rvalidC ?_
  intro sargs p r hc
  unfold rvalidC at hc
  split at hc
  · rename_i s l h
    cases hc
    exact ⟨Nat.le_of_ble_eq_true rfl, fun hp => ⟨fun _ _ => none, Eq.mp (by kernel_rfl) (rvalid_vc s l h)⟩⟩
  · cases hc

def newC : Ct DI := fun args => match args with
  | [.one (.lf (.int .i64 n))] => some (none, .tup [.agg [.int .i64 ((newR n).1), .int .i64 ((newR n).1), .int .i64 (0)], .lf (.int .i64 ((newR n).2))])
  | _ => none
theorem new_vc (n : Int) :
    (decide (n < (1 : Int)) = true → (0 : Int) = Prod.fst (newR n) ∧ (0 : Int) = Prod.fst (newR n) ∧ (0 : Int) = (0 : Int) ∧ (1 : Int) = Prod.snd (newR n) ∧ True) ∧
      (decide (n < (1 : Int)) = false →
        (decide ((1048576 : Int) < n) = true → (0 : Int) = Prod.fst (newR n) ∧ (0 : Int) = Prod.fst (newR n) ∧ (0 : Int) = (0 : Int) ∧ (1 : Int) = Prod.snd (newR n) ∧ True) ∧
          (decide ((1048576 : Int) < n) = false → n = Prod.fst (newR n) ∧ n = Prod.fst (newR n) ∧ (0 : Int) = (0 : Int) ∧ (0 : Int) = Prod.snd (newR n) ∧ True)) := by
  repeat' (first | apply And.intro | intro _)
  all_goals first | trivial | ((try simp only [newR, decide_eq_true_eq, decide_eq_false_iff_not, beq_iff_eq, bne_iff_ne, beq_eq_false_iff_ne, bne_eq_false_iff_eq, Bool.not_eq_true', Bool.not_eq_false', ne_eq] at *); first | trivial | omega | ((repeat' split) <;> (try dsimp only) <;> first | rfl | omega | (exfalso; omega)) | skip)
theorem new_ok : CtOk Try.prog SI 8 newC := by
  refine fn_ok (T := TI) (Γ := Γ0) mixedI TI_ok Γ0_ok SI_ok Try.func8 rfl (by kernel_rfl) Try.ntmps8 rfl (by kernel_rfl) newC ?_
  intro sargs p r hc
  unfold newC at hc
  split at hc
  · rename_i n
    cases hc
    exact ⟨Nat.le_of_ble_eq_true rfl, fun hp => ⟨fun _ _ => none, Eq.mp (by kernel_rfl) (new_vc n)⟩⟩
  · cases hc

def rnewC : Ct DI := fun args => match args with
  | [.one (.lf (.int .i64 n))] => some (none, .tup [.agg [.int .i64 ((newR n).1), .int .i64 ((newR n).1), .int .i64 (0)], .lf (.int .i64 ((newR n).2))])
  | _ => none
theorem rnew_vc (n : Int) :
    (decide (n < (1 : Int)) = true → (0 : Int) = Prod.fst (newR n) ∧ (0 : Int) = Prod.fst (newR n) ∧ (0 : Int) = (0 : Int) ∧ (1 : Int) = Prod.snd (newR n) ∧ True) ∧
      (decide (n < (1 : Int)) = false →
        (decide ((1048576 : Int) < n) = true → (0 : Int) = Prod.fst (newR n) ∧ (0 : Int) = Prod.fst (newR n) ∧ (0 : Int) = (0 : Int) ∧ (1 : Int) = Prod.snd (newR n) ∧ True) ∧
          (decide ((1048576 : Int) < n) = false → n = Prod.fst (newR n) ∧ n = Prod.fst (newR n) ∧ (0 : Int) = (0 : Int) ∧ (0 : Int) = Prod.snd (newR n) ∧ True)) := by
  repeat' (first | apply And.intro | intro _)
  all_goals first | trivial | ((try simp only [newR, decide_eq_true_eq, decide_eq_false_iff_not, beq_iff_eq, bne_iff_ne, beq_eq_false_iff_ne, bne_eq_false_iff_eq, Bool.not_eq_true', Bool.not_eq_false', ne_eq] at *); first | trivial | omega | ((repeat' split) <;> (try dsimp only) <;> first | rfl | omega | (exfalso; omega)) | skip)
theorem rnew_ok : CtOk Try.prog SI 9 rnewC := by
  refine fn_ok (T := TI) (Γ := Γ0) mixedI TI_ok Γ0_ok SI_ok Try.func9 rfl (by kernel_rfl) Try.ntmps9 rfl (by kernel_rfl) rnewC ?_
  intro sargs p r hc
  unfold rnewC at hc
  split at hc
  · rename_i n
    cases hc
    exact ⟨Nat.le_of_ble_eq_true rfl, fun hp => ⟨fun _ _ => none, Eq.mp (by kernel_rfl) (rnew_vc n)⟩⟩
  · cases hc

def sameC : Ct DI := fun args => match args with
  | [.one (.agg [.int .i64 s, .int .i64 l, .int .i64 h]), .one (.agg [.int .i64 s', .int .i64 l', .int .i64 h'])] => some (none, .one (.lf (.bool (s == s' && l == l' && h == h'))))
  | _ => none
theorem same_vc (s l h s' l' h' : Int) :
    ((s == s') = true → ((l == l') = true → (h == h') = (s == s' && l == l' && h == h') ∧ True) ∧ ((l == l') = false → false = (s == s' && l == l' && h == h') ∧ True)) ∧
      ((s == s') = false → false = (s == s' && l == l' && h == h') ∧ True) := by
  repeat' (first | apply And.intro | intro _)
  all_goals first | trivial | simp_all
theorem same_ok : CtOk Try.prog SI 12 sameC := by
  refine fn_ok (T := TI) (Γ := Γ0) mixedI TI_ok Γ0_ok SI_ok Try.func12 rfl (by kernel_rfl) Try.ntmps12 rfl (by kernel_rfl) sameC ?_
  intro sargs p r hc
  unfold sameC at hc
  split at hc
  · rename_i s l h s' l' h'
    cases hc
    exact ⟨Nat.le_of_ble_eq_true rfl, fun hp => ⟨fun _ _ => none, Eq.mp (by kernel_rfl) (same_vc s l h s' l' h')⟩⟩
  · cases hc
end Go.Proofs.Ythknholdgnfkmaa
