/-
  Flow: Accept and Fit, by the engine.
-/
import Derived.Test.YthknholdgnfkmaaJ
namespace Go.Proofs.Ythknholdgnfkmaa
open Go.RowKit Go.Vc
set_option linter.unusedVariables false
set_option linter.unusedSimpArgs false
set_option maxRecDepth 100000
def Γ2 : FuncId → Option (Ct DI) := look? [(13, validC), (14, rvalidC), (8, newC), (9, rnewC), (12, sameC), (16, takeC), (18, giveC), (20, accC), (10, retC), (11, rretC), (17, rtakeC), (19, rgiveC)]
theorem Γ2_ok : ∀ f ct, Γ2 f = some ct → CtOk Try.prog SI f ct := by
  intro f ct h
  have := look?_mem h
  simp only [List.mem_cons, Prod.mk.injEq, List.not_mem_nil, or_false] at this
  rcases this with ⟨rfl, rfl⟩ | ⟨rfl, rfl⟩ | ⟨rfl, rfl⟩ | ⟨rfl, rfl⟩ | ⟨rfl, rfl⟩ | ⟨rfl, rfl⟩ | ⟨rfl, rfl⟩ | ⟨rfl, rfl⟩ | ⟨rfl, rfl⟩ | ⟨rfl, rfl⟩ | ⟨rfl, rfl⟩ | ⟨rfl, rfl⟩
  · exact valid_ok
  · exact rvalid_ok
  · exact new_ok
  · exact rnew_ok
  · exact same_ok
  · exact take_ok
  · exact give_ok
  · exact acc_ok
  · exact ret_ok
  · exact rret_ok
  · exact rtake_ok
  · exact rgive_ok

def raccC : Ct DI := fun args => match args with
  | [.one (.agg [.int .i64 s, .int .i64 l, .int .i64 h]), .one (.lf (.int .i64 n))] => some (none, .tup [.agg [.int .i64 (s), .int .i64 ((accR s l h n).1), .int .i64 ((accR s l h n).2.1)], .lf (.int .i64 ((accR s l h n).2.2))])
  | _ => none
theorem racc_vc (s l h n : Int) :
    ((Prod.snd (takeR s l h n) != (0 : Int)) = true →
        s = s ∧ Prod.fst (takeR s l h n) = Prod.fst (accR s l h n) ∧ h = Prod.fst (Prod.snd (accR s l h n)) ∧ Prod.snd (takeR s l h n) = Prod.snd (Prod.snd (accR s l h n)) ∧ True) ∧
      ((Prod.snd (takeR s l h n) != (0 : Int)) = false →
        ((-9223372036854775808 : Int) ≤ h + n ∧ h + n ≤ (9223372036854775807 : Int)) ∧
          s = s ∧ Prod.fst (takeR s l h n) = Prod.fst (accR s l h n) ∧ h + n = Prod.fst (Prod.snd (accR s l h n)) ∧ (0 : Int) = Prod.snd (Prod.snd (accR s l h n)) ∧ True) := by
  refine ⟨fun h1 => ?_, fun h1 => ?_⟩
  · have := acc_take_no (s := s) (l := l) (h := h) (n := n) (by simpa using h1)
    simp [this]
  · obtain ⟨e, a1, a2, a3, a4, a5⟩ := acc_take_ok (s := s) (l := l) (h := h) (n := n) (by simpa using h1)
    rw [e]
    refine ⟨⟨by omega, by omega⟩, ?_⟩
    simp
theorem racc_ok : CtOk Try.prog SI 21 raccC := by
  refine fn_ok (T := TI) (Γ := Γ2) mixedI TI_ok Γ2_ok SI_ok Try.func21 rfl (by kernel_rfl) Try.ntmps21 rfl (by kernel_rfl) raccC ?_
  intro sargs p r hc
  unfold raccC at hc
  split at hc
  · rename_i s l h n
    cases hc
    exact ⟨Nat.le_of_ble_eq_true rfl, fun hp => ⟨fun _ _ => none, Eq.mp (by kernel_rfl) (racc_vc s l h n)⟩⟩
  · cases hc
def fitG (s l h : Int) (xs : List Int) (x : Int × Int) : Prop := 0 ≤ x.1 ∧ x.1 ≤ xs.length ∧ fitGo s h l 0 xs = fitGo s h x.2 x.1.toNat (xs.drop x.1.toNat)
def fitI (s l h : Int) (xs : List Int) : Vc.Inv DI := ⟨Int × Int, fitG s l h xs, fun x => [(1, .one (.lf (.dat xs))), (2, .one (.lf (.ptr 0 0))), (9, .one (.lf (.dat xs))), (10, .one (.lf (.int .i64 xs.length))), (11, .one (.lf (.int .i64 x.1)))],
  fun x => [(0, .cells [.int .i64 s, .int .i64 x.2, .int .i64 h])], fun x => xs.length - x.1.toNat⟩
def rfitI (s l h : Int) (xs : List Int) : Vc.Inv DI := ⟨Int × Int, fitG s l h xs, fun x => [(1, .one (.lf (.dat xs))), (2, .one (.lf (.ptr 0 0))), (5, .one (.lf (.int .i64 x.1)))],
  fun x => [(0, .cells [.int .i64 s, .int .i64 x.2, .int .i64 h])], fun x => xs.length - x.1.toNat⟩
theorem fit_next {s l h k lk : Int} {xs : List Int} (hg : fitG s l h xs (k, lk)) (hlt : k < xs.length) : xs.drop k.toNat = xs.getD k.toNat 0 :: xs.drop (k.toNat + 1) ∧ (k + 1).toNat = k.toNat + 1 := ⟨drop_getD xs k.toNat (by have := hg.1; simp only at this; omega), by have := hg.1; simp only at this; omega⟩

def fitC : Ct DI := fun args => match args with
  | [.one (.agg [.int .i64 s, .int .i64 l, .int .i64 h]), .one (.lf (.dat xs))] => some (some (xs.length ≤ 1000), .one (.lf (.int .i64 (fitGo s h l 0 xs))))
  | _ => none
theorem fit_vc (s l h : Int) (xs : List Int) (hp : xs.length ≤ 1000) :
    ∃ (x1 : Int × Int),
      xs = xs ∧
        xs = xs ∧
          (↑(List.length xs) : Int) = (↑(List.length xs) : Int) ∧
            (0 : Int) = Prod.fst x1 ∧
              s = s ∧
                l = Prod.snd x1 ∧
                  h = h ∧
                    fitG s l h xs x1 ∧
                      ∀ (x2 : Int × Int),
                        fitG s l h xs x2 →
                          (decide (Prod.fst x2 < (↑(List.length xs) : Int)) = true →
                              ((0 : Int) ≤ Prod.fst x2 ∧ Prod.fst x2 < (↑(List.length xs) : Int)) ∧
                                ((Prod.snd (takeR s (Prod.snd x2) h (List.getD xs (Int.toNat (Prod.fst x2)) (0 : Int))) != (0 : Int)) = true →
                                    Prod.fst x2 = fitGo s h l (0 : Nat) xs ∧ True) ∧
                                  ((Prod.snd (takeR s (Prod.snd x2) h (List.getD xs (Int.toNat (Prod.fst x2)) (0 : Int))) != (0 : Int)) = false →
                                    ((-9223372036854775808 : Int) ≤ Prod.fst x2 + (1 : Int) ∧ Prod.fst x2 + (1 : Int) ≤ (9223372036854775807 : Int)) ∧
                                      ∃ (x3 : Int × Int),
                                        xs = xs ∧
                                          xs = xs ∧
                                            (↑(List.length xs) : Int) = (↑(List.length xs) : Int) ∧
                                              Prod.fst x2 + (1 : Int) = Prod.fst x3 ∧
                                                s = s ∧
                                                  Prod.fst (takeR s (Prod.snd x2) h (List.getD xs (Int.toNat (Prod.fst x2)) (0 : Int))) = Prod.snd x3 ∧
                                                    h = h ∧ fitG s l h xs x3 ∧ List.length xs - Int.toNat (Prod.fst x3) < List.length xs - Int.toNat (Prod.fst x2) ∧ True)) ∧
                            (decide (Prod.fst x2 < (↑(List.length xs) : Int)) = false →
                              ((!validB s (Prod.snd x2) h) = true → (0 : Int) = fitGo s h l (0 : Nat) xs ∧ True) ∧
                                ((!validB s (Prod.snd x2) h) = false → (↑(List.length xs) : Int) = fitGo s h l (0 : Nat) xs ∧ True)) := by
  refine ⟨(0, l), rfl, rfl, rfl, rfl, rfl, rfl, rfl, ⟨by simp, by simp, by simp⟩, ?_⟩
  rintro ⟨k, lk⟩ hg
  have hg' := hg
  obtain ⟨hk0, hk, he⟩ := hg
  simp only at hk0 hk he
  refine ⟨fun h1 => ?_, fun h1 => ?_⟩
  · have h1 : k < xs.length := by simpa using h1
    obtain ⟨hd, hk1⟩ := fit_next hg' h1
    refine ⟨⟨hk0, h1⟩, fun h2 => ⟨?_, trivial⟩, fun h2 => ⟨⟨by omega, by omega⟩, ⟨_, _⟩, rfl, rfl, rfl, rfl, rfl, rfl, rfl, ⟨by simp only; omega, by simp only; omega, ?_⟩, by simp only; omega, trivial⟩⟩
    · rw [he, hd, fitGo, if_neg (by simpa using h2)]; omega
    · simp only
      rw [hk1, he, hd, fitGo, if_pos (by simpa using h2)]
  · have h1 : xs.length ≤ k := by simpa using h1
    have hd : xs.drop k.toNat = [] := by simp; omega
    refine ⟨fun h2 => ⟨?_, trivial⟩, fun h2 => ⟨?_, trivial⟩⟩
    · rw [he, hd, fitGo, if_neg (by simpa using h2)]
    · rw [he, hd, fitGo, if_pos (by simpa using h2)]; omega
theorem fit_ok : CtOk Try.prog SI 22 fitC := by
  refine fn_ok (T := TI) (Γ := Γ2) mixedI TI_ok Γ2_ok SI_ok Try.func22 rfl (by kernel_rfl) Try.ntmps22 rfl (by kernel_rfl) fitC ?_
  intro sargs p r hc
  unfold fitC at hc
  split at hc
  · rename_i s l h xs
    cases hc
    exact ⟨Nat.le_of_ble_eq_true rfl, fun hp => ⟨fun i m => if Nat.beq i 2 then some (fitI s l h xs) else none, Eq.mp (by kernel_rfl) (fit_vc s l h xs hp)⟩⟩
  · cases hc

def rfitC : Ct DI := fun args => match args with
  | [.one (.agg [.int .i64 s, .int .i64 l, .int .i64 h]), .one (.lf (.dat xs))] => some (some (xs.length ≤ 1000), .one (.lf (.int .i64 (fitGo s h l 0 xs))))
  | _ => none
theorem rfit_vc (s l h : Int) (xs : List Int) (hp : xs.length ≤ 1000) :
    ∃ (x1 : Int × Int),
      xs = xs ∧
        (0 : Int) = Prod.fst x1 ∧
          s = s ∧
            l = Prod.snd x1 ∧
              h = h ∧
                fitG s l h xs x1 ∧
                  ∀ (x2 : Int × Int),
                    fitG s l h xs x2 →
                      (decide (Prod.fst x2 < (↑(List.length xs) : Int)) = true →
                          ((0 : Int) ≤ Prod.fst x2 ∧ Prod.fst x2 < (↑(List.length xs) : Int)) ∧
                            ((Prod.snd (takeR s (Prod.snd x2) h (List.getD xs (Int.toNat (Prod.fst x2)) (0 : Int))) != (0 : Int)) = true →
                                Prod.fst x2 = fitGo s h l (0 : Nat) xs ∧ True) ∧
                              ((Prod.snd (takeR s (Prod.snd x2) h (List.getD xs (Int.toNat (Prod.fst x2)) (0 : Int))) != (0 : Int)) = false →
                                ((-9223372036854775808 : Int) ≤ Prod.fst x2 + (1 : Int) ∧ Prod.fst x2 + (1 : Int) ≤ (9223372036854775807 : Int)) ∧
                                  ∃ (x3 : Int × Int),
                                    xs = xs ∧
                                      Prod.fst x2 + (1 : Int) = Prod.fst x3 ∧
                                        s = s ∧
                                          Prod.fst (takeR s (Prod.snd x2) h (List.getD xs (Int.toNat (Prod.fst x2)) (0 : Int))) = Prod.snd x3 ∧
                                            h = h ∧ fitG s l h xs x3 ∧ List.length xs - Int.toNat (Prod.fst x3) < List.length xs - Int.toNat (Prod.fst x2) ∧ True)) ∧
                        (decide (Prod.fst x2 < (↑(List.length xs) : Int)) = false →
                          ((!validB s (Prod.snd x2) h) = true → (0 : Int) = fitGo s h l (0 : Nat) xs ∧ True) ∧
                            ((!validB s (Prod.snd x2) h) = false → (↑(List.length xs) : Int) = fitGo s h l (0 : Nat) xs ∧ True)) := by
  refine ⟨(0, l), rfl, rfl, rfl, rfl, rfl, ⟨by simp, by simp, by simp⟩, ?_⟩
  rintro ⟨k, lk⟩ hg
  have hg' := hg
  obtain ⟨hk0, hk, he⟩ := hg
  simp only at hk0 hk he
  refine ⟨fun h1 => ?_, fun h1 => ?_⟩
  · have h1 : k < xs.length := by simpa using h1
    obtain ⟨hd, hk1⟩ := fit_next hg' h1
    refine ⟨⟨hk0, h1⟩, fun h2 => ⟨?_, trivial⟩, fun h2 => ⟨⟨by omega, by omega⟩, ⟨_, _⟩, rfl, rfl, rfl, rfl, rfl, ⟨by simp only; omega, by simp only; omega, ?_⟩, by simp only; omega, trivial⟩⟩
    · rw [he, hd, fitGo, if_neg (by simpa using h2)]; omega
    · simp only
      rw [hk1, he, hd, fitGo, if_pos (by simpa using h2)]
  · have h1 : xs.length ≤ k := by simpa using h1
    have hd : xs.drop k.toNat = [] := by simp; omega
    refine ⟨fun h2 => ⟨?_, trivial⟩, fun h2 => ⟨?_, trivial⟩⟩
    · rw [he, hd, fitGo, if_neg (by simpa using h2)]
    · rw [he, hd, fitGo, if_pos (by simpa using h2)]; omega
theorem rfit_ok : CtOk Try.prog SI 23 rfitC := by
  refine fn_ok (T := TI) (Γ := Γ2) mixedI TI_ok Γ2_ok SI_ok Try.func23 rfl (by kernel_rfl) Try.ntmps23 rfl (by kernel_rfl) rfitC ?_
  intro sargs p r hc
  unfold rfitC at hc
  split at hc
  · rename_i s l h xs
    cases hc
    exact ⟨Nat.le_of_ble_eq_true rfl, fun hp => ⟨fun i m => if Nat.beq i 2 then some (rfitI s l h xs) else none, Eq.mp (by kernel_rfl) (rfit_vc s l h xs hp)⟩⟩
  · cases hc
end Go.Proofs.Ythknholdgnfkmaa
