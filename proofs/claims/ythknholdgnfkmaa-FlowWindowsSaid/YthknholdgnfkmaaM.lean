/-
  Flow: the examples (awake), by the engine.
-/
import Derived.Test.YthknholdgnfkmaaL
namespace Go.Proofs.Ythknholdgnfkmaa
open Go.RowKit Go.Vc
set_option linter.unusedVariables false
set_option linter.unusedSimpArgs false
set_option maxRecDepth 100000
def Γ3 : FuncId → Option (Ct DI) := look? [(13, validC), (14, rvalidC), (8, newC), (9, rnewC), (12, sameC), (16, takeC), (18, giveC), (20, accC), (10, retC), (11, rretC), (17, rtakeC), (19, rgiveC), (21, raccC), (22, fitC), (23, rfitC)]
theorem Γ3_ok : ∀ f ct, Γ3 f = some ct → CtOk Try.prog SI f ct := by
  intro f ct h
  have := look?_mem h
  simp only [List.mem_cons, Prod.mk.injEq, List.not_mem_nil, or_false] at this
  rcases this with ⟨rfl, rfl⟩ | ⟨rfl, rfl⟩ | ⟨rfl, rfl⟩ | ⟨rfl, rfl⟩ | ⟨rfl, rfl⟩ | ⟨rfl, rfl⟩ | ⟨rfl, rfl⟩ | ⟨rfl, rfl⟩ | ⟨rfl, rfl⟩ | ⟨rfl, rfl⟩ | ⟨rfl, rfl⟩ | ⟨rfl, rfl⟩ | ⟨rfl, rfl⟩ | ⟨rfl, rfl⟩ | ⟨rfl, rfl⟩
  · exact valid_ok
  · exact rvalid_ok
  · exact new_ok
  · exact rnew_ok
  · exact same_ok
  · exact take_ok
  · exact give_ok
  · exact acc_ok
  · exact ret_ok
  · exact rret_ok
  · exact rtake_ok
  · exact rgive_ok
  · exact racc_ok
  · exact fit_ok
  · exact rfit_ok

def awakeC : Ct DI := fun args => match args with
  | [] => some (none, .one (.lf (.bool true)))
  | _ => none
theorem awake_vc :
    ((Prod.fst (newR (10 : Int)) == (10 : Int)) = true →
        ((Prod.fst (newR (10 : Int)) == (10 : Int)) = true →
            ((Prod.snd (newR (10 : Int)) == (0 : Int)) = true →
                ((Prod.snd (newR (0 : Int)) == (1 : Int)) = true →
                    ((Prod.fst (takeR (Prod.fst (newR (10 : Int))) (Prod.fst (newR (10 : Int))) (0 : Int) (4 : Int)) == (6 : Int)) = true →
                        ((Prod.snd (takeR (Prod.fst (newR (10 : Int))) (Prod.fst (newR (10 : Int))) (0 : Int) (4 : Int)) == (0 : Int)) = true →
                            ((Prod.snd
                                      (takeR (Prod.fst (newR (10 : Int))) (Prod.fst (takeR (Prod.fst (newR (10 : Int))) (Prod.fst (newR (10 : Int))) (0 : Int) (4 : Int))) (0 : Int)
                                        (7 : Int)) ==
                                    (22 : Int)) =
                                  true →
                                ((Prod.fst
                                          (giveR (Prod.fst (newR (10 : Int))) (Prod.fst (takeR (Prod.fst (newR (10 : Int))) (Prod.fst (newR (10 : Int))) (0 : Int) (4 : Int))) (0 : Int)
                                            (4 : Int)) ==
                                        (10 : Int)) =
                                      true →
                                    ((Prod.snd
                                              (giveR (Prod.fst (newR (10 : Int))) (Prod.fst (takeR (Prod.fst (newR (10 : Int))) (Prod.fst (newR (10 : Int))) (0 : Int) (4 : Int)))
                                                (0 : Int) (4 : Int)) ==
                                            (0 : Int)) =
                                          true →
                                        ((Prod.fst (accR (Prod.fst (newR (10 : Int))) (Prod.fst (newR (10 : Int))) (0 : Int) (5 : Int)) == (5 : Int)) = true →
                                            ((Prod.fst (Prod.snd (accR (Prod.fst (newR (10 : Int))) (Prod.fst (newR (10 : Int))) (0 : Int) (5 : Int))) == (5 : Int)) = true →
                                                ((Prod.snd (Prod.snd (accR (Prod.fst (newR (10 : Int))) (Prod.fst (newR (10 : Int))) (0 : Int) (5 : Int))) == (0 : Int)) = true →
                                                    ((Prod.fst
                                                              (retR (Prod.fst (newR (10 : Int)))
                                                                (Prod.fst (accR (Prod.fst (newR (10 : Int))) (Prod.fst (newR (10 : Int))) (0 : Int) (5 : Int)))
                                                                (Prod.fst (Prod.snd (accR (Prod.fst (newR (10 : Int))) (Prod.fst (newR (10 : Int))) (0 : Int) (5 : Int))))) ==
                                                            (10 : Int)) =
                                                          true →
                                                        ((Prod.fst
                                                                  (Prod.snd
                                                                    (retR (Prod.fst (newR (10 : Int)))
                                                                      (Prod.fst (accR (Prod.fst (newR (10 : Int))) (Prod.fst (newR (10 : Int))) (0 : Int) (5 : Int)))
                                                                      (Prod.fst (Prod.snd (accR (Prod.fst (newR (10 : Int))) (Prod.fst (newR (10 : Int))) (0 : Int) (5 : Int)))))) ==
                                                                (0 : Int)) =
                                                              true →
                                                            ((Prod.snd
                                                                      (Prod.snd
                                                                        (retR (Prod.fst (newR (10 : Int)))
                                                                          (Prod.fst (accR (Prod.fst (newR (10 : Int))) (Prod.fst (newR (10 : Int))) (0 : Int) (5 : Int)))
                                                                          (Prod.fst
                                                                            (Prod.snd (accR (Prod.fst (newR (10 : Int))) (Prod.fst (newR (10 : Int))) (0 : Int) (5 : Int)))))) ==
                                                                    (5 : Int)) =
                                                                  true →
                                                                (validB (Prod.fst (newR (10 : Int))) (Prod.fst (newR (10 : Int))) (0 : Int) = true →
                                                                    ((!validB (0 : Int) (0 : Int) (0 : Int)) = true →
                                                                        List.length [(4 : Int), (6 : Int), (0 : Int), (1 : Int)] ≤ (1000 : Nat) ∧
                                                                          (fitGo (Prod.fst (newR (10 : Int))) (0 : Int) (Prod.fst (newR (10 : Int))) (0 : Nat)
                                                                                  [(4 : Int), (6 : Int), (0 : Int), (1 : Int)] ==
                                                                                (3 : Int)) =
                                                                              true ∧
                                                                            True) ∧
                                                                      ((!validB (0 : Int) (0 : Int) (0 : Int)) = false → false = true ∧ True)) ∧
                                                                  (validB (Prod.fst (newR (10 : Int))) (Prod.fst (newR (10 : Int))) (0 : Int) = false → false = true ∧ True)) ∧
                                                              ((Prod.snd
                                                                      (Prod.snd
                                                                        (retR (Prod.fst (newR (10 : Int)))
                                                                          (Prod.fst (accR (Prod.fst (newR (10 : Int))) (Prod.fst (newR (10 : Int))) (0 : Int) (5 : Int)))
                                                                          (Prod.fst
                                                                            (Prod.snd (accR (Prod.fst (newR (10 : Int))) (Prod.fst (newR (10 : Int))) (0 : Int) (5 : Int)))))) ==
                                                                    (5 : Int)) =
                                                                  false →
                                                                false = true ∧ True)) ∧
                                                          ((Prod.fst
                                                                  (Prod.snd
                                                                    (retR (Prod.fst (newR (10 : Int)))
                                                                      (Prod.fst (accR (Prod.fst (newR (10 : Int))) (Prod.fst (newR (10 : Int))) (0 : Int) (5 : Int)))
                                                                      (Prod.fst (Prod.snd (accR (Prod.fst (newR (10 : Int))) (Prod.fst (newR (10 : Int))) (0 : Int) (5 : Int)))))) ==
                                                                (0 : Int)) =
                                                              false →
                                                            false = true ∧ True)) ∧
                                                      ((Prod.fst
                                                              (retR (Prod.fst (newR (10 : Int)))
                                                                (Prod.fst (accR (Prod.fst (newR (10 : Int))) (Prod.fst (newR (10 : Int))) (0 : Int) (5 : Int)))
                                                                (Prod.fst (Prod.snd (accR (Prod.fst (newR (10 : Int))) (Prod.fst (newR (10 : Int))) (0 : Int) (5 : Int))))) ==
                                                            (10 : Int)) =
                                                          false →
                                                        false = true ∧ True)) ∧
                                                  ((Prod.snd (Prod.snd (accR (Prod.fst (newR (10 : Int))) (Prod.fst (newR (10 : Int))) (0 : Int) (5 : Int))) == (0 : Int)) = false →
                                                    false = true ∧ True)) ∧
                                              ((Prod.fst (Prod.snd (accR (Prod.fst (newR (10 : Int))) (Prod.fst (newR (10 : Int))) (0 : Int) (5 : Int))) == (5 : Int)) = false →
                                                false = true ∧ True)) ∧
                                          ((Prod.fst (accR (Prod.fst (newR (10 : Int))) (Prod.fst (newR (10 : Int))) (0 : Int) (5 : Int)) == (5 : Int)) = false →
                                            false = true ∧ True)) ∧
                                      ((Prod.snd
                                              (giveR (Prod.fst (newR (10 : Int))) (Prod.fst (takeR (Prod.fst (newR (10 : Int))) (Prod.fst (newR (10 : Int))) (0 : Int) (4 : Int)))
                                                (0 : Int) (4 : Int)) ==
                                            (0 : Int)) =
                                          false →
                                        false = true ∧ True)) ∧
                                  ((Prod.fst
                                          (giveR (Prod.fst (newR (10 : Int))) (Prod.fst (takeR (Prod.fst (newR (10 : Int))) (Prod.fst (newR (10 : Int))) (0 : Int) (4 : Int))) (0 : Int)
                                            (4 : Int)) ==
                                        (10 : Int)) =
                                      false →
                                    false = true ∧ True)) ∧
                              ((Prod.snd
                                      (takeR (Prod.fst (newR (10 : Int))) (Prod.fst (takeR (Prod.fst (newR (10 : Int))) (Prod.fst (newR (10 : Int))) (0 : Int) (4 : Int))) (0 : Int)
                                        (7 : Int)) ==
                                    (22 : Int)) =
                                  false →
                                false = true ∧ True)) ∧
                          ((Prod.snd (takeR (Prod.fst (newR (10 : Int))) (Prod.fst (newR (10 : Int))) (0 : Int) (4 : Int)) == (0 : Int)) = false → false = true ∧ True)) ∧
                      ((Prod.fst (takeR (Prod.fst (newR (10 : Int))) (Prod.fst (newR (10 : Int))) (0 : Int) (4 : Int)) == (6 : Int)) = false → false = true ∧ True)) ∧
                  ((Prod.snd (newR (0 : Int)) == (1 : Int)) = false → false = true ∧ True)) ∧
              ((Prod.snd (newR (10 : Int)) == (0 : Int)) = false → false = true ∧ True)) ∧
          ((Prod.fst (newR (10 : Int)) == (10 : Int)) = false → false = true ∧ True)) ∧
      ((Prod.fst (newR (10 : Int)) == (10 : Int)) = false → false = true ∧ True) := by
  repeat' (first | apply And.intro | intro _)
  all_goals first | trivial | (rename_i hl; exact absurd hl (by decide +kernel)) | decide +kernel
theorem awake_ok : CtOk Try.prog SI 15 awakeC := by
  refine fn_ok (T := TI) (Γ := Γ3) mixedI TI_ok Γ3_ok SI_ok Try.func15 rfl (by kernel_rfl) Try.ntmps15 rfl (by kernel_rfl) awakeC ?_
  intro sargs p r hc
  unfold awakeC at hc
  split at hc
  · cases hc
    exact ⟨Nat.le_of_ble_eq_true rfl, fun hp => ⟨fun _ _ => none, Eq.mp (by kernel_rfl) (awake_vc )⟩⟩
  · cases hc
end Go.Proofs.Ythknholdgnfkmaa
