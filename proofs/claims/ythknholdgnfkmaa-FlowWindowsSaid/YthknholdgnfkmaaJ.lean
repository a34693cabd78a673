/-
  Flow: Return; the reference's Take and Give, by the engine.
-/
import Derived.Test.YthknholdgnfkmaaI
namespace Go.Proofs.Ythknholdgnfkmaa
open Go.RowKit Go.Vc
set_option linter.unusedVariables false
set_option linter.unusedSimpArgs false
set_option maxRecDepth 100000
def Γ1 : FuncId → Option (Ct DI) := look? [(13, validC), (14, rvalidC), (8, newC), (9, rnewC), (12, sameC), (16, takeC), (18, giveC), (20, accC)]
theorem Γ1_ok : ∀ f ct, Γ1 f = some ct → CtOk Try.prog SI f ct := by
  intro f ct h
  have := look?_mem h
  simp only [List.mem_cons, Prod.mk.injEq, List.not_mem_nil, or_false] at this
  rcases this with ⟨rfl, rfl⟩ | ⟨rfl, rfl⟩ | ⟨rfl, rfl⟩ | ⟨rfl, rfl⟩ | ⟨rfl, rfl⟩ | ⟨rfl, rfl⟩ | ⟨rfl, rfl⟩ | ⟨rfl, rfl⟩
  · exact valid_ok
  · exact rvalid_ok
  · exact new_ok
  · exact rnew_ok
  · exact same_ok
  · exact take_ok
  · exact give_ok
  · exact acc_ok

def retC : Ct DI := fun args => match args with
  | [.one (.agg [.int .i64 s, .int .i64 l, .int .i64 h])] => some (none, .tup [.agg [.int .i64 (s), .int .i64 ((retR s l h).1), .int .i64 ((retR s l h).2.1)], .lf (.int .i64 ((retR s l h).2.2))])
  | _ => none
theorem ret_vc (s l h : Int) :
    ((!validB s l h) = true → s = s ∧ l = Prod.fst (retR s l h) ∧ h = Prod.fst (Prod.snd (retR s l h)) ∧ (0 : Int) = Prod.snd (Prod.snd (retR s l h)) ∧ True) ∧
      ((!validB s l h) = false →
        ((h == (0 : Int)) = true → s = s ∧ l = Prod.fst (retR s l h) ∧ h = Prod.fst (Prod.snd (retR s l h)) ∧ (0 : Int) = Prod.snd (Prod.snd (retR s l h)) ∧ True) ∧
          ((h == (0 : Int)) = false →
            ((-9223372036854775808 : Int) ≤ (2 : Int) * h ∧ (2 : Int) * h ≤ (9223372036854775807 : Int)) ∧
              (decide ((2 : Int) * h < s) = true → s = s ∧ l = Prod.fst (retR s l h) ∧ h = Prod.fst (Prod.snd (retR s l h)) ∧ (0 : Int) = Prod.snd (Prod.snd (retR s l h)) ∧ True) ∧
                (decide ((2 : Int) * h < s) = false →
                  ((-9223372036854775808 : Int) ≤ l + h ∧ l + h ≤ (9223372036854775807 : Int)) ∧
                    s = s ∧ l + h = Prod.fst (retR s l h) ∧ (0 : Int) = Prod.fst (Prod.snd (retR s l h)) ∧ h = Prod.snd (Prod.snd (retR s l h)) ∧ True))) := by
  repeat' (first | apply And.intro | intro _)
  all_goals first | trivial | ((try simp only [validB, retR, takeR, giveR, accR, decide_eq_true_eq, decide_eq_false_iff_not, beq_iff_eq, bne_iff_ne, beq_eq_false_iff_ne, bne_eq_false_iff_eq, Bool.not_eq_true', Bool.not_eq_false', ne_eq] at *); first | trivial | omega | ((repeat' split) <;> (try dsimp only) <;> first | rfl | omega | (exfalso; omega)) | skip)
theorem ret_ok : CtOk Try.prog SI 10 retC := by
  refine fn_ok (T := TI) (Γ := Γ1) mixedI TI_ok Γ1_ok SI_ok Try.func10 rfl (by kernel_rfl) Try.ntmps10 rfl (by kernel_rfl) retC ?_
  intro sargs p r hc
  unfold retC at hc
  split at hc
  · rename_i s l h
    cases hc
    exact ⟨Nat.le_of_ble_eq_true rfl, fun hp => ⟨fun _ _ => none, Eq.mp (by kernel_rfl) (ret_vc s l h)⟩⟩
  · cases hc

def rretC : Ct DI := fun args => match args with
  | [.one (.agg [.int .i64 s, .int .i64 l, .int .i64 h])] => some (none, .tup [.agg [.int .i64 (s), .int .i64 ((retR s l h).1), .int .i64 ((retR s l h).2.1)], .lf (.int .i64 ((retR s l h).2.2))])
  | _ => none
theorem rret_vc (s l h : Int) :
    ((!validB s l h) = true → s = s ∧ l = Prod.fst (retR s l h) ∧ h = Prod.fst (Prod.snd (retR s l h)) ∧ (0 : Int) = Prod.snd (Prod.snd (retR s l h)) ∧ True) ∧
      ((!validB s l h) = false →
        ((h == (0 : Int)) = true → s = s ∧ l = Prod.fst (retR s l h) ∧ h = Prod.fst (Prod.snd (retR s l h)) ∧ (0 : Int) = Prod.snd (Prod.snd (retR s l h)) ∧ True) ∧
          ((h == (0 : Int)) = false →
            ((-9223372036854775808 : Int) ≤ (2 : Int) * h ∧ (2 : Int) * h ≤ (9223372036854775807 : Int)) ∧
              (decide ((2 : Int) * h < s) = true → s = s ∧ l = Prod.fst (retR s l h) ∧ h = Prod.fst (Prod.snd (retR s l h)) ∧ (0 : Int) = Prod.snd (Prod.snd (retR s l h)) ∧ True) ∧
                (decide ((2 : Int) * h < s) = false →
                  ((-9223372036854775808 : Int) ≤ l + h ∧ l + h ≤ (9223372036854775807 : Int)) ∧
                    s = s ∧ l + h = Prod.fst (retR s l h) ∧ (0 : Int) = Prod.fst (Prod.snd (retR s l h)) ∧ h = Prod.snd (Prod.snd (retR s l h)) ∧ True))) := by
  repeat' (first | apply And.intro | intro _)
  all_goals first | trivial | ((try simp only [validB, retR, takeR, giveR, accR, decide_eq_true_eq, decide_eq_false_iff_not, beq_iff_eq, bne_iff_ne, beq_eq_false_iff_ne, bne_eq_false_iff_eq, Bool.not_eq_true', Bool.not_eq_false', ne_eq] at *); first | trivial | omega | ((repeat' split) <;> (try dsimp only) <;> first | rfl | omega | (exfalso; omega)) | skip)
theorem rret_ok : CtOk Try.prog SI 11 rretC := by
  refine fn_ok (T := TI) (Γ := Γ1) mixedI TI_ok Γ1_ok SI_ok Try.func11 rfl (by kernel_rfl) Try.ntmps11 rfl (by kernel_rfl) rretC ?_
  intro sargs p r hc
  unfold rretC at hc
  split at hc
  · rename_i s l h
    cases hc
    exact ⟨Nat.le_of_ble_eq_true rfl, fun hp => ⟨fun _ _ => none, Eq.mp (by kernel_rfl) (rret_vc s l h)⟩⟩
  · cases hc

def rtakeC : Ct DI := fun args => match args with
  | [.one (.agg [.int .i64 s, .int .i64 l, .int .i64 h]), .one (.lf (.int .i64 n))] => some (none, .tup [.agg [.int .i64 (s), .int .i64 ((takeR s l h n).1), .int .i64 (h)], .lf (.int .i64 ((takeR s l h n).2))])
  | _ => none
theorem rtake_vc (s l h n : Int) :
    ((!validB s l h) = true → s = s ∧ l = Prod.fst (takeR s l h n) ∧ h = h ∧ (1 : Int) = Prod.snd (takeR s l h n) ∧ True) ∧
      ((!validB s l h) = false →
        (decide (n < (0 : Int)) = true → s = s ∧ l = Prod.fst (takeR s l h n) ∧ h = h ∧ (1 : Int) = Prod.snd (takeR s l h n) ∧ True) ∧
          (decide (n < (0 : Int)) = false →
            (decide (l < n) = true → s = s ∧ l = Prod.fst (takeR s l h n) ∧ h = h ∧ (22 : Int) = Prod.snd (takeR s l h n) ∧ True) ∧
              (decide (l < n) = false →
                ((-9223372036854775808 : Int) ≤ l - n ∧ l - n ≤ (9223372036854775807 : Int)) ∧
                  s = s ∧ l - n = Prod.fst (takeR s l h n) ∧ h = h ∧ (0 : Int) = Prod.snd (takeR s l h n) ∧ True))) := by
  repeat' (first | apply And.intro | intro _)
  all_goals first | trivial | ((try simp only [validB, retR, takeR, giveR, accR, decide_eq_true_eq, decide_eq_false_iff_not, beq_iff_eq, bne_iff_ne, beq_eq_false_iff_ne, bne_eq_false_iff_eq, Bool.not_eq_true', Bool.not_eq_false', ne_eq] at *); first | trivial | omega | ((repeat' split) <;> (try dsimp only) <;> first | rfl | omega | (exfalso; omega)) | skip)
theorem rtake_ok : CtOk Try.prog SI 17 rtakeC := by
  refine fn_ok (T := TI) (Γ := Γ1) mixedI TI_ok Γ1_ok SI_ok Try.func17 rfl (by kernel_rfl) Try.ntmps17 rfl (by kernel_rfl) rtakeC ?_
  intro sargs p r hc
  unfold rtakeC at hc
  split at hc
  · rename_i s l h n
    cases hc
    exact ⟨Nat.le_of_ble_eq_true rfl, fun hp => ⟨fun _ _ => none, Eq.mp (by kernel_rfl) (rtake_vc s l h n)⟩⟩
  · cases hc

def rgiveC : Ct DI := fun args => match args with
  | [.one (.agg [.int .i64 s, .int .i64 l, .int .i64 h]), .one (.lf (.int .i64 n))] => some (none, .tup [.agg [.int .i64 (s), .int .i64 ((giveR s l h n).1), .int .i64 (h)], .lf (.int .i64 ((giveR s l h n).2))])
  | _ => none
theorem rgive_vc (s l h n : Int) :
    ((!validB s l h) = true → s = s ∧ l = Prod.fst (giveR s l h n) ∧ h = h ∧ (1 : Int) = Prod.snd (giveR s l h n) ∧ True) ∧
      ((!validB s l h) = false →
        (decide (n < (1 : Int)) = true → s = s ∧ l = Prod.fst (giveR s l h n) ∧ h = h ∧ (1 : Int) = Prod.snd (giveR s l h n) ∧ True) ∧
          (decide (n < (1 : Int)) = false →
            ((-9223372036854775808 : Int) ≤ (1048576 : Int) - l ∧ (1048576 : Int) - l ≤ (9223372036854775807 : Int)) ∧
              ((-9223372036854775808 : Int) ≤ (1048576 : Int) - l - h ∧ (1048576 : Int) - l - h ≤ (9223372036854775807 : Int)) ∧
                (decide ((1048576 : Int) - l - h < n) = true → s = s ∧ l = Prod.fst (giveR s l h n) ∧ h = h ∧ (6 : Int) = Prod.snd (giveR s l h n) ∧ True) ∧
                  (decide ((1048576 : Int) - l - h < n) = false →
                    ((-9223372036854775808 : Int) ≤ l + n ∧ l + n ≤ (9223372036854775807 : Int)) ∧
                      s = s ∧ l + n = Prod.fst (giveR s l h n) ∧ h = h ∧ (0 : Int) = Prod.snd (giveR s l h n) ∧ True))) := by
  repeat' (first | apply And.intro | intro _)
  all_goals first | trivial | ((try simp only [validB, retR, takeR, giveR, accR, decide_eq_true_eq, decide_eq_false_iff_not, beq_iff_eq, bne_iff_ne, beq_eq_false_iff_ne, bne_eq_false_iff_eq, Bool.not_eq_true', Bool.not_eq_false', ne_eq] at *); first | trivial | omega | ((repeat' split) <;> (try dsimp only) <;> first | rfl | omega | (exfalso; omega)) | skip)
theorem rgive_ok : CtOk Try.prog SI 19 rgiveC := by
  refine fn_ok (T := TI) (Γ := Γ1) mixedI TI_ok Γ1_ok SI_ok Try.func19 rfl (by kernel_rfl) Try.ntmps19 rfl (by kernel_rfl) rgiveC ?_
  intro sargs p r hc
  unfold rgiveC at hc
  split at hc
  · rename_i s l h n
    cases hc
    exact ⟨Nat.le_of_ble_eq_true rfl, fun hp => ⟨fun _ _ => none, Eq.mp (by kernel_rfl) (rgive_vc s l h n)⟩⟩
  · cases hc
end Go.Proofs.Ythknholdgnfkmaa
