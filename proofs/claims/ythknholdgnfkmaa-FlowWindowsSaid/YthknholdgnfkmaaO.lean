/-
  Flow: the laws, by the engine.
-/
import Derived.Test.YthknholdgnfkmaaM
namespace Go.Proofs.Ythknholdgnfkmaa
open Go.RowKit Go.Vc
set_option linter.unusedVariables false
set_option linter.unusedSimpArgs false
set_option maxRecDepth 100000
def Γ4 : FuncId → Option (Ct DI) := look? [(13, validC), (14, rvalidC), (8, newC), (9, rnewC), (12, sameC), (16, takeC), (18, giveC), (20, accC), (10, retC), (11, rretC), (17, rtakeC), (19, rgiveC), (21, raccC), (22, fitC), (23, rfitC), (15, awakeC)]
theorem Γ4_ok : ∀ f ct, Γ4 f = some ct → CtOk Try.prog SI f ct := by
  intro f ct h
  have := look?_mem h
  simp only [List.mem_cons, Prod.mk.injEq, List.not_mem_nil, or_false] at this
  rcases this with ⟨rfl, rfl⟩ | ⟨rfl, rfl⟩ | ⟨rfl, rfl⟩ | ⟨rfl, rfl⟩ | ⟨rfl, rfl⟩ | ⟨rfl, rfl⟩ | ⟨rfl, rfl⟩ | ⟨rfl, rfl⟩ | ⟨rfl, rfl⟩ | ⟨rfl, rfl⟩ | ⟨rfl, rfl⟩ | ⟨rfl, rfl⟩ | ⟨rfl, rfl⟩ | ⟨rfl, rfl⟩ | ⟨rfl, rfl⟩ | ⟨rfl, rfl⟩
  · exact valid_ok
  · exact rvalid_ok
  · exact new_ok
  · exact rnew_ok
  · exact same_ok
  · exact take_ok
  · exact give_ok
  · exact acc_ok
  · exact ret_ok
  · exact rret_ok
  · exact rtake_ok
  · exact rgive_ok
  · exact racc_ok
  · exact fit_ok
  · exact rfit_ok
  · exact awake_ok

def windowsC : Ct DI := fun args => match args with
  | [.one (.lf (.int .i64 n)), .one (.agg [.int .i64 s, .int .i64 l, .int .i64 h])] => some (none, .one (.lf (.bool true)))
  | _ => none
theorem windows_vc (n s l h : Int) :
    ((Prod.fst (newR n) == Prod.fst (newR n) && Prod.fst (newR n) == Prod.fst (newR n) && (0 : Int) == (0 : Int)) = true →
        ((Prod.snd (newR n) == Prod.snd (newR n)) = true →
            ((validB s l h == validB s l h) = true →
                ((s == s && Prod.fst (retR s l h) == Prod.fst (retR s l h) && Prod.fst (Prod.snd (retR s l h)) == Prod.fst (Prod.snd (retR s l h))) = true →
                    ((Prod.snd (Prod.snd (retR s l h)) == Prod.snd (Prod.snd (retR s l h))) = true → true = true ∧ True) ∧
                      ((Prod.snd (Prod.snd (retR s l h)) == Prod.snd (Prod.snd (retR s l h))) = false → false = true ∧ True)) ∧
                  ((s == s && Prod.fst (retR s l h) == Prod.fst (retR s l h) && Prod.fst (Prod.snd (retR s l h)) == Prod.fst (Prod.snd (retR s l h))) = false → false = true ∧ True)) ∧
              ((validB s l h == validB s l h) = false → false = true ∧ True)) ∧
          ((Prod.snd (newR n) == Prod.snd (newR n)) = false → false = true ∧ True)) ∧
      ((Prod.fst (newR n) == Prod.fst (newR n) && Prod.fst (newR n) == Prod.fst (newR n) && (0 : Int) == (0 : Int)) = false → false = true ∧ True) := by
  simp
theorem windows_ok : CtOk Try.prog SI 3 windowsC := by
  refine fn_ok (T := TI) (Γ := Γ4) mixedI TI_ok Γ4_ok SI_ok Try.func3 rfl (by kernel_rfl) Try.ntmps3 rfl (by kernel_rfl) windowsC ?_
  intro sargs p r hc
  unfold windowsC at hc
  split at hc
  · rename_i n s l h
    cases hc
    exact ⟨Nat.le_of_ble_eq_true rfl, fun hp => ⟨fun _ _ => none, Eq.mp (by kernel_rfl) (windows_vc n s l h)⟩⟩
  · cases hc

def creditsC : Ct DI := fun args => match args with
  | [.one (.agg [.int .i64 s, .int .i64 l, .int .i64 h]), .one (.lf (.int .i64 n))] => some (none, .one (.lf (.bool true)))
  | _ => none
theorem credits_vc (s l h n : Int) :
    ((s == s && Prod.fst (takeR s l h n) == Prod.fst (takeR s l h n) && h == h) = true →
        ((Prod.snd (takeR s l h n) == Prod.snd (takeR s l h n)) = true →
            ((s == s && Prod.fst (giveR s l h n) == Prod.fst (giveR s l h n) && h == h) = true →
                ((Prod.snd (giveR s l h n) == Prod.snd (giveR s l h n)) = true →
                    ((s == s && Prod.fst (accR s l h n) == Prod.fst (accR s l h n) && Prod.fst (Prod.snd (accR s l h n)) == Prod.fst (Prod.snd (accR s l h n))) = true →
                        ((Prod.snd (Prod.snd (accR s l h n)) == Prod.snd (Prod.snd (accR s l h n))) = true → true = true ∧ True) ∧
                          ((Prod.snd (Prod.snd (accR s l h n)) == Prod.snd (Prod.snd (accR s l h n))) = false → false = true ∧ True)) ∧
                      ((s == s && Prod.fst (accR s l h n) == Prod.fst (accR s l h n) && Prod.fst (Prod.snd (accR s l h n)) == Prod.fst (Prod.snd (accR s l h n))) = false →
                        false = true ∧ True)) ∧
                  ((Prod.snd (giveR s l h n) == Prod.snd (giveR s l h n)) = false → false = true ∧ True)) ∧
              ((s == s && Prod.fst (giveR s l h n) == Prod.fst (giveR s l h n) && h == h) = false → false = true ∧ True)) ∧
          ((Prod.snd (takeR s l h n) == Prod.snd (takeR s l h n)) = false → false = true ∧ True)) ∧
      ((s == s && Prod.fst (takeR s l h n) == Prod.fst (takeR s l h n) && h == h) = false → false = true ∧ True) := by
  simp
theorem credits_ok : CtOk Try.prog SI 4 creditsC := by
  refine fn_ok (T := TI) (Γ := Γ4) mixedI TI_ok Γ4_ok SI_ok Try.func4 rfl (by kernel_rfl) Try.ntmps4 rfl (by kernel_rfl) creditsC ?_
  intro sargs p r hc
  unfold creditsC at hc
  split at hc
  · rename_i s l h n
    cases hc
    exact ⟨Nat.le_of_ble_eq_true rfl, fun hp => ⟨fun _ _ => none, Eq.mp (by kernel_rfl) (credits_vc s l h n)⟩⟩
  · cases hc

def fitsC : Ct DI := fun args => match args with
  | [.one (.agg [.int .i64 s, .int .i64 l, .int .i64 h]), .one (.lf (.dat xs))] => some (none, .one (.lf (.bool true)))
  | _ => none
theorem fits_vc (s l h : Int) (xs : List Int) :
    (decide ((1000 : Int) < (↑(List.length xs) : Int)) = true → true = true ∧ True) ∧
      (decide ((1000 : Int) < (↑(List.length xs) : Int)) = false →
        List.length xs ≤ (1000 : Nat) ∧
          List.length xs ≤ (1000 : Nat) ∧
            ((fitGo s h l (0 : Nat) xs == fitGo s h l (0 : Nat) xs) = true → true = true ∧ True) ∧
              ((fitGo s h l (0 : Nat) xs == fitGo s h l (0 : Nat) xs) = false → false = true ∧ True)) := by
  simp
  omega
theorem fits_ok : CtOk Try.prog SI 5 fitsC := by
  refine fn_ok (T := TI) (Γ := Γ4) mixedI TI_ok Γ4_ok SI_ok Try.func5 rfl (by kernel_rfl) Try.ntmps5 rfl (by kernel_rfl) fitsC ?_
  intro sargs p r hc
  unfold fitsC at hc
  split at hc
  · rename_i s l h xs
    cases hc
    exact ⟨Nat.le_of_ble_eq_true rfl, fun hp => ⟨fun _ _ => none, Eq.mp (by kernel_rfl) (fits_vc s l h xs)⟩⟩
  · cases hc
end Go.Proofs.Ythknholdgnfkmaa
