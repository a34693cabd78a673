/-
  Flow: the laws with steps, by the engine.
-/
import Derived.Test.YthknholdgnfkmaaO
namespace Go.Proofs.Ythknholdgnfkmaa
open Go.RowKit Go.Vc
set_option linter.unusedVariables false
set_option linter.unusedSimpArgs false
set_option maxRecDepth 100000
def bndG (n : Int) (xs : List Int) (x : Int × Int × Int) : Prop := 0 ≤ x.1 ∧ x.1 ≤ xs.length ∧ 1 ≤ n ∧ n ≤ 1048576 ∧ 0 ≤ x.2.1 ∧ 0 ≤ x.2.2 ∧ x.2.1 + x.2.2 = n
def bndI (n : Int) (xs : List Int) : Vc.Inv DI := ⟨Int × Int × Int, bndG n xs, fun x => [(0, .one (.lf (.int .i64 n))), (1, .one (.lf (.dat xs))), (5, .one (.lf (.ptr 0 0))), (7, .one (.lf (.int .i64 x.2.2))), (8, .one (.lf (.int .i64 x.1)))],
  fun x => [(0, .cells [.int .i64 n, .int .i64 x.2.1, .int .i64 0])], fun x => xs.length - x.1.toNat⟩
def bndG2 (n : Int) (xs : List Int) (m : Nat) (x : Int × Int × Int) : Prop := x.1 < xs.length ∧ xs.length - x.1.toNat = m ∧ bndG n xs x
def bndI2 (n : Int) (xs : List Int) (m : Nat) : Vc.Inv DI := ⟨Int × Int × Int, bndG2 n xs m, fun x => [(0, .one (.lf (.int .i64 n))), (1, .one (.lf (.dat xs))), (5, .one (.lf (.ptr 0 0))), (7, .one (.lf (.int .i64 x.2.2))), (8, .one (.lf (.int .i64 x.1)))],
  fun x => [(0, .cells [.int .i64 n, .int .i64 x.2.1, .int .i64 0])], fun x => xs.length - x.1.toNat⟩
def pairG (n : Int) (xs : List Int) (x : Int × Int × Int) : Prop := 0 ≤ x.1 ∧ x.1 ≤ xs.length ∧ 1 ≤ n ∧ n ≤ 1048576 ∧ 0 ≤ x.2.1 ∧ 0 ≤ x.2.2 ∧ x.2.1 + x.2.2 = n ∧ (2 * x.2.2 < n ∨ x.2.2 = 0)
def pairI (n : Int) (xs : List Int) : Vc.Inv DI := ⟨Int × Int × Int, pairG n xs, fun x => [(0, .one (.lf (.int .i64 n))), (1, .one (.lf (.dat xs))), (5, .one (.lf (.ptr 0 0))), (7, .one (.lf (.ptr 1 0))), (9, .one (.lf (.int .i64 x.1)))],
  fun x => [(0, .cells [.int .i64 n, .int .i64 x.2.1, .int .i64 0]), (1, .cells [.int .i64 n, .int .i64 x.2.1, .int .i64 x.2.2])], fun x => xs.length - x.1.toNat⟩
def pairG1 (n : Int) (xs : List Int) (m : Nat) (x : Int × Int × Int) : Prop := xs.length - x.1.toNat = m ∧ 0 ≤ x.1 ∧ x.1 < xs.length ∧ 1 ≤ n ∧ n ≤ 1048576 ∧ 0 ≤ x.2.1 ∧ 0 ≤ x.2.2 ∧ x.2.1 + x.2.2 = n
def pairI1 (n : Int) (xs : List Int) (m : Nat) : Vc.Inv DI := ⟨Int × Int × Int, pairG1 n xs m, (pairI n xs).slots, (pairI n xs).blks, (pairI n xs).mu⟩
def pairG2 (n : Int) (xs : List Int) (m : Nat) (x : Int × Int × Int) : Prop := xs.length - x.1.toNat = m ∧ x.1 < xs.length ∧ pairG n xs x
def pairI2 (n : Int) (xs : List Int) (m : Nat) : Vc.Inv DI := ⟨Int × Int × Int, pairG2 n xs m, (pairI n xs).slots, (pairI n xs).blks, (pairI n xs).mu⟩

def boundedC : Ct DI := fun args => match args with
  | [.one (.lf (.int .i64 n)), .one (.lf (.dat xs))] => some (none, .one (.lf (.bool true)))
  | _ => none
theorem bounded_vc (n : Int) (xs : List Int) :
    ((Prod.snd (newR n) != (0 : Int)) = true →
        (decide ((1 : Int) ≤ n) = true →
            (((Prod.snd (newR n) == (0 : Int)) == decide (n ≤ (1048576 : Int))) = true → true = true ∧ True) ∧
              (((Prod.snd (newR n) == (0 : Int)) == decide (n ≤ (1048576 : Int))) = false → false = true ∧ True)) ∧
          (decide ((1 : Int) ≤ n) = false →
            (((Prod.snd (newR n) == (0 : Int)) == false) = true → true = true ∧ True) ∧ (((Prod.snd (newR n) == (0 : Int)) == false) = false → false = true ∧ True))) ∧
      ((Prod.snd (newR n) != (0 : Int)) = false →
        (decide ((1000 : Int) < (↑(List.length xs) : Int)) = true →
            (decide ((1 : Int) ≤ n) = true →
                (((Prod.snd (newR n) == (0 : Int)) == decide (n ≤ (1048576 : Int))) = true → true = true ∧ True) ∧
                  (((Prod.snd (newR n) == (0 : Int)) == decide (n ≤ (1048576 : Int))) = false → false = true ∧ True)) ∧
              (decide ((1 : Int) ≤ n) = false →
                (((Prod.snd (newR n) == (0 : Int)) == false) = true → true = true ∧ True) ∧ (((Prod.snd (newR n) == (0 : Int)) == false) = false → false = true ∧ True))) ∧
          (decide ((1000 : Int) < (↑(List.length xs) : Int)) = false →
            ∃ (x1 : Int × Int × Int),
              n = n ∧
                xs = xs ∧
                  (0 : Int) = Prod.snd (Prod.snd x1) ∧
                    (0 : Int) = Prod.fst x1 ∧
                      Prod.fst (newR n) = n ∧
                        Prod.fst (newR n) = Prod.fst (Prod.snd x1) ∧
                          (0 : Int) = (0 : Int) ∧
                            bndG n xs x1 ∧
                              ∀ (x2 : Int × Int × Int),
                                bndG n xs x2 →
                                  (decide (Prod.fst x2 < (↑(List.length xs) : Int)) = true →
                                      ((0 : Int) ≤ Prod.fst x2 ∧ Prod.fst x2 < (↑(List.length xs) : Int)) ∧
                                        ((decide ((0 : Int) ≤ List.getD xs (Int.toNat (Prod.fst x2)) (0 : Int)) = true →
                                              (((Prod.snd (takeR n (Prod.fst (Prod.snd x2)) (0 : Int) (List.getD xs (Int.toNat (Prod.fst x2)) (0 : Int))) == (0 : Int)) !=
                                                      decide (List.getD xs (Int.toNat (Prod.fst x2)) (0 : Int) ≤ Prod.fst (Prod.snd x2))) =
                                                    true →
                                                  false = true ∧ True) ∧
                                                (((Prod.snd (takeR n (Prod.fst (Prod.snd x2)) (0 : Int) (List.getD xs (Int.toNat (Prod.fst x2)) (0 : Int))) == (0 : Int)) !=
                                                      decide (List.getD xs (Int.toNat (Prod.fst x2)) (0 : Int) ≤ Prod.fst (Prod.snd x2))) =
                                                    false →
                                                  ((Prod.snd (takeR n (Prod.fst (Prod.snd x2)) (0 : Int) (List.getD xs (Int.toNat (Prod.fst x2)) (0 : Int))) == (0 : Int)) = true →
                                                      ((-9223372036854775808 : Int) ≤ Prod.snd (Prod.snd x2) + List.getD xs (Int.toNat (Prod.fst x2)) (0 : Int) ∧
                                                          Prod.snd (Prod.snd x2) + List.getD xs (Int.toNat (Prod.fst x2)) (0 : Int) ≤ (9223372036854775807 : Int)) ∧
                                                        ∃ (x3 : Int × Int × Int),
                                                          n = n ∧
                                                            xs = xs ∧
                                                              Prod.snd (Prod.snd x2) + List.getD xs (Int.toNat (Prod.fst x2)) (0 : Int) = Prod.snd (Prod.snd x3) ∧
                                                                Prod.fst x2 = Prod.fst x3 ∧
                                                                  n = n ∧
                                                                    Prod.fst (takeR n (Prod.fst (Prod.snd x2)) (0 : Int) (List.getD xs (Int.toNat (Prod.fst x2)) (0 : Int))) =
                                                                        Prod.fst (Prod.snd x3) ∧
                                                                      (0 : Int) = (0 : Int) ∧ bndG2 n xs (List.length xs - Int.toNat (Prod.fst x2)) x3 ∧ True) ∧
                                                    ((Prod.snd (takeR n (Prod.fst (Prod.snd x2)) (0 : Int) (List.getD xs (Int.toNat (Prod.fst x2)) (0 : Int))) == (0 : Int)) = false →
                                                      ∃ (x4 : Int × Int × Int),
                                                        n = n ∧
                                                          xs = xs ∧
                                                            Prod.snd (Prod.snd x2) = Prod.snd (Prod.snd x4) ∧
                                                              Prod.fst x2 = Prod.fst x4 ∧
                                                                n = n ∧
                                                                  Prod.fst (takeR n (Prod.fst (Prod.snd x2)) (0 : Int) (List.getD xs (Int.toNat (Prod.fst x2)) (0 : Int))) =
                                                                      Prod.fst (Prod.snd x4) ∧
                                                                    (0 : Int) = (0 : Int) ∧ bndG2 n xs (List.length xs - Int.toNat (Prod.fst x2)) x4 ∧ True))) ∧
                                            (decide ((0 : Int) ≤ List.getD xs (Int.toNat (Prod.fst x2)) (0 : Int)) = false →
                                              (decide ((-1099511627776 : Int) < List.getD xs (Int.toNat (Prod.fst x2)) (0 : Int)) = true →
                                                  ((-9223372036854775808 : Int) ≤ -List.getD xs (Int.toNat (Prod.fst x2)) (0 : Int) ∧
                                                      -List.getD xs (Int.toNat (Prod.fst x2)) (0 : Int) ≤ (9223372036854775807 : Int)) ∧
                                                    (decide (-List.getD xs (Int.toNat (Prod.fst x2)) (0 : Int) ≤ Prod.snd (Prod.snd x2)) = true →
                                                        ((-9223372036854775808 : Int) ≤ -List.getD xs (Int.toNat (Prod.fst x2)) (0 : Int) ∧
                                                            -List.getD xs (Int.toNat (Prod.fst x2)) (0 : Int) ≤ (9223372036854775807 : Int)) ∧
                                                          ((Prod.snd (giveR n (Prod.fst (Prod.snd x2)) (0 : Int) (-List.getD xs (Int.toNat (Prod.fst x2)) (0 : Int))) != (0 : Int)) =
                                                                true →
                                                              false = true ∧ True) ∧
                                                            ((Prod.snd (giveR n (Prod.fst (Prod.snd x2)) (0 : Int) (-List.getD xs (Int.toNat (Prod.fst x2)) (0 : Int))) != (0 : Int)) =
                                                                false →
                                                              ((-9223372036854775808 : Int) ≤ Prod.snd (Prod.snd x2) + List.getD xs (Int.toNat (Prod.fst x2)) (0 : Int) ∧
                                                                  Prod.snd (Prod.snd x2) + List.getD xs (Int.toNat (Prod.fst x2)) (0 : Int) ≤ (9223372036854775807 : Int)) ∧
                                                                ∃ (x5 : Int × Int × Int),
                                                                  n = n ∧
                                                                    xs = xs ∧
                                                                      Prod.snd (Prod.snd x2) + List.getD xs (Int.toNat (Prod.fst x2)) (0 : Int) = Prod.snd (Prod.snd x5) ∧
                                                                        Prod.fst x2 = Prod.fst x5 ∧
                                                                          n = n ∧
                                                                            Prod.fst (giveR n (Prod.fst (Prod.snd x2)) (0 : Int) (-List.getD xs (Int.toNat (Prod.fst x2)) (0 : Int))) =
                                                                                Prod.fst (Prod.snd x5) ∧
                                                                              (0 : Int) = (0 : Int) ∧ bndG2 n xs (List.length xs - Int.toNat (Prod.fst x2)) x5 ∧ True)) ∧
                                                      (decide (-List.getD xs (Int.toNat (Prod.fst x2)) (0 : Int) ≤ Prod.snd (Prod.snd x2)) = false →
                                                        ∃ (x6 : Int × Int × Int),
                                                          n = n ∧
                                                            xs = xs ∧
                                                              Prod.snd (Prod.snd x2) = Prod.snd (Prod.snd x6) ∧
                                                                Prod.fst x2 = Prod.fst x6 ∧
                                                                  n = n ∧
                                                                    Prod.fst (Prod.snd x2) = Prod.fst (Prod.snd x6) ∧
                                                                      (0 : Int) = (0 : Int) ∧ bndG2 n xs (List.length xs - Int.toNat (Prod.fst x2)) x6 ∧ True)) ∧
                                                (decide ((-1099511627776 : Int) < List.getD xs (Int.toNat (Prod.fst x2)) (0 : Int)) = false →
                                                  ∃ (x7 : Int × Int × Int),
                                                    n = n ∧
                                                      xs = xs ∧
                                                        Prod.snd (Prod.snd x2) = Prod.snd (Prod.snd x7) ∧
                                                          Prod.fst x2 = Prod.fst x7 ∧
                                                            n = n ∧
                                                              Prod.fst (Prod.snd x2) = Prod.fst (Prod.snd x7) ∧
                                                                (0 : Int) = (0 : Int) ∧ bndG2 n xs (List.length xs - Int.toNat (Prod.fst x2)) x7 ∧ True))) ∧
                                          ∀ (x8 : Int × Int × Int),
                                            bndG2 n xs (List.length xs - Int.toNat (Prod.fst x2)) x8 →
                                              (decide (Prod.fst (Prod.snd x8) < (0 : Int)) = true → false = true ∧ True) ∧
                                                (decide (Prod.fst (Prod.snd x8) < (0 : Int)) = false →
                                                  (decide (Prod.snd (Prod.snd x8) < (0 : Int)) = true → false = true ∧ True) ∧
                                                    (decide (Prod.snd (Prod.snd x8) < (0 : Int)) = false →
                                                      ((-9223372036854775808 : Int) ≤ Prod.fst (Prod.snd x8) + Prod.snd (Prod.snd x8) ∧
                                                          Prod.fst (Prod.snd x8) + Prod.snd (Prod.snd x8) ≤ (9223372036854775807 : Int)) ∧
                                                        ((Prod.fst (Prod.snd x8) + Prod.snd (Prod.snd x8) != n) = true → false = true ∧ True) ∧
                                                          ((Prod.fst (Prod.snd x8) + Prod.snd (Prod.snd x8) != n) = false →
                                                            ((n != n) = true → false = true ∧ True) ∧
                                                              ((n != n) = false →
                                                                (((0 : Int) != (0 : Int)) = true → false = true ∧ True) ∧
                                                                  (((0 : Int) != (0 : Int)) = false →
                                                                    ((!validB n (Prod.fst (Prod.snd x8)) (0 : Int)) = true → false = true ∧ True) ∧
                                                                      ((!validB n (Prod.fst (Prod.snd x8)) (0 : Int)) = false →
                                                                        ((-9223372036854775808 : Int) ≤ Prod.fst x8 + (1 : Int) ∧
                                                                            Prod.fst x8 + (1 : Int) ≤ (9223372036854775807 : Int)) ∧
                                                                          ∃ (x9 : Int × Int × Int),
                                                                            n = n ∧
                                                                              xs = xs ∧
                                                                                Prod.snd (Prod.snd x8) = Prod.snd (Prod.snd x9) ∧
                                                                                  Prod.fst x8 + (1 : Int) = Prod.fst x9 ∧
                                                                                    n = n ∧
                                                                                      Prod.fst (Prod.snd x8) = Prod.fst (Prod.snd x9) ∧
                                                                                        (0 : Int) = (0 : Int) ∧
                                                                                          bndG n xs x9 ∧
                                                                                            List.length xs - Int.toNat (Prod.fst x9) < List.length xs - Int.toNat (Prod.fst x2) ∧
                                                                                              True))))))) ∧
                                    (decide (Prod.fst x2 < (↑(List.length xs) : Int)) = false → true = true ∧ True))) := by
  by_cases hn : 1 ≤ n ∧ n ≤ 1048576
  · have e : newR n = (n, 0) := if_pos hn
    rw [e]
    refine ⟨by simp, fun _ => ⟨fun _ => by simp [hn], fun hl => ⟨(0, n, 0), rfl, rfl, rfl, rfl, rfl, rfl, rfl, ⟨by simp, by simp, hn.1, hn.2, by simp only; omega, by simp, by simp⟩, ?_⟩⟩⟩
    have hl : xs.length ≤ 1000 := by simp at hl; omega
    rintro ⟨k, lf, aw⟩ ⟨g0, g1, g2, g3, g4, g5, g6⟩
    dsimp only at *
    have hv : validB n lf 0 = true := validB_mk (by omega)
    refine ⟨fun h1 => ?_, fun _ => ⟨rfl, trivial⟩⟩
    have h1 : k < xs.length := by simpa using h1
    generalize xs.getD k.toNat 0 = v
    refine ⟨⟨g0, h1⟩, ⟨fun h2 => ?_, fun h2 => ?_⟩, ?_⟩
    · have h2 : 0 ≤ v := by simpa using h2
      by_cases h3 : v ≤ lf
      · have et : takeR n lf 0 v = (lf - v, 0) := by simp [takeR, hv, h2, h3]
        rw [et]
        exact ⟨by simp [h3], fun _ => ⟨fun _ => ⟨⟨by omega, by omega⟩, (_, _, _), rfl, rfl, rfl, rfl, rfl, rfl, rfl, ⟨h1, rfl, g0, g1, hn.1, hn.2, by dsimp only; omega, by dsimp only; omega, by dsimp only; omega⟩, trivial⟩, by simp⟩⟩
      · have et : takeR n lf 0 v = (lf, 22) := by simp [takeR, hv, h2, h3]
        rw [et]
        exact ⟨by simp [h3], fun _ => ⟨by simp, fun _ => ⟨(_, _, _), rfl, rfl, rfl, rfl, rfl, rfl, rfl, ⟨h1, rfl, g0, g1, hn.1, hn.2, g4, g5, g6⟩, trivial⟩⟩⟩
    · have h2 : v < 0 := by simpa using h2
      refine ⟨fun h3 => ?_, fun _ => ⟨(_, _, _), rfl, rfl, rfl, rfl, rfl, rfl, rfl, ⟨h1, rfl, g0, g1, hn.1, hn.2, g4, g5, g6⟩, trivial⟩⟩
      have h3 : -1099511627776 < v := by simpa using h3
      refine ⟨⟨by omega, by omega⟩, fun h4 => ?_, fun _ => ⟨(_, _, _), rfl, rfl, rfl, rfl, rfl, rfl, rfl, ⟨h1, rfl, g0, g1, hn.1, hn.2, g4, g5, g6⟩, trivial⟩⟩
      have h4 : -v ≤ aw := by simpa using h4
      have et : giveR n lf 0 (-v) = (lf + -v, 0) := by
        have a1 : 1 ≤ -v := by omega
        have a2 : -v ≤ 1048576 - lf - 0 := by omega
        unfold giveR
        rw [if_pos ⟨hv, a1⟩, if_pos a2]
      rw [et]
      exact ⟨⟨by omega, by omega⟩, by simp, fun _ => ⟨⟨by omega, by omega⟩, (_, _, _), rfl, rfl, rfl, rfl, rfl, rfl, rfl, ⟨h1, rfl, g0, g1, hn.1, hn.2, by dsimp only; omega, by dsimp only; omega, by dsimp only; omega⟩, trivial⟩⟩
    · rintro ⟨k', lf', aw'⟩ ⟨q1, q2, q3, q4, q5, q6, q7, q8, q9⟩
      dsimp only at *
      have hv' : validB n lf' 0 = true := validB_mk (by omega)
      refine ⟨fun h => ?_, fun _ => ⟨fun h => ?_, fun _ => ⟨⟨by omega, by omega⟩, fun h => ?_, fun _ => ⟨by simp, fun _ => ⟨by simp, fun _ => ⟨by simp [hv'], fun _ => ⟨⟨by omega, by omega⟩, (_, _, _), rfl, rfl, rfl, rfl, rfl, rfl, rfl, ⟨by dsimp only; omega, by dsimp only; omega, hn.1, hn.2, q7, q8, q9⟩, by dsimp only; omega, trivial⟩⟩⟩⟩⟩⟩⟩
      · simp at h; omega
      · simp at h; omega
      · simp at h; omega
  · have e : newR n = (0, 1) := if_neg hn
    rw [e]
    refine ⟨fun _ => ?_, by simp⟩
    refine ⟨fun h1 => ?_, by simp⟩
    have h1 : 1 ≤ n := by simpa using h1
    have h2 : ¬ n ≤ 1048576 := by omega
    simp [h2]
theorem bounded_ok : CtOk Try.prog SI 6 boundedC := by
  refine fn_ok (T := TI) (Γ := Γ4) mixedI TI_ok Γ4_ok SI_ok Try.func6 rfl (by kernel_rfl) Try.ntmps6 rfl (by kernel_rfl) boundedC ?_
  intro sargs p r hc
  unfold boundedC at hc
  split at hc
  · rename_i n xs
    cases hc
    exact ⟨Nat.le_of_ble_eq_true rfl, fun hp => ⟨fun i m => if Nat.beq i 6 then some (bndI n xs) else if Nat.beq i 100022 then some (bndI2 n xs m) else none, Eq.mp (by kernel_rfl) (bounded_vc n xs)⟩⟩
  · cases hc

def pairC : Ct DI := fun args => match args with
  | [.one (.lf (.int .i64 n)), .one (.lf (.dat xs))] => some (none, .one (.lf (.bool true)))
  | _ => none
theorem pair_vc (n : Int) (xs : List Int) :
    ((Prod.snd (newR n) != (0 : Int)) = true →
        ((Prod.snd (newR n) == Prod.snd (newR n)) = true → true = true ∧ True) ∧ ((Prod.snd (newR n) == Prod.snd (newR n)) = false → false = true ∧ True)) ∧
      ((Prod.snd (newR n) != (0 : Int)) = false →
        ((Prod.snd (newR n) != (0 : Int)) = true →
            ((Prod.snd (newR n) == Prod.snd (newR n)) = true → true = true ∧ True) ∧ ((Prod.snd (newR n) == Prod.snd (newR n)) = false → false = true ∧ True)) ∧
          ((Prod.snd (newR n) != (0 : Int)) = false →
            (decide ((1000 : Int) < (↑(List.length xs) : Int)) = true →
                ((Prod.snd (newR n) == Prod.snd (newR n)) = true → true = true ∧ True) ∧ ((Prod.snd (newR n) == Prod.snd (newR n)) = false → false = true ∧ True)) ∧
              (decide ((1000 : Int) < (↑(List.length xs) : Int)) = false →
                ∃ (x1 : Int × Int × Int),
                  n = n ∧
                    xs = xs ∧
                      (0 : Int) = Prod.fst x1 ∧
                        Prod.fst (newR n) = n ∧
                          Prod.fst (newR n) = Prod.fst (Prod.snd x1) ∧
                            (0 : Int) = (0 : Int) ∧
                              Prod.fst (newR n) = n ∧
                                Prod.fst (newR n) = Prod.fst (Prod.snd x1) ∧
                                  (0 : Int) = Prod.snd (Prod.snd x1) ∧
                                    pairG n xs x1 ∧
                                      ∀ (x2 : Int × Int × Int),
                                        pairG n xs x2 →
                                          (decide (Prod.fst x2 < (↑(List.length xs) : Int)) = true →
                                              ((0 : Int) ≤ Prod.fst x2 ∧ Prod.fst x2 < (↑(List.length xs) : Int)) ∧
                                                ((0 : Int) ≤ Prod.fst x2 ∧ Prod.fst x2 < (↑(List.length xs) : Int)) ∧
                                                  ((Prod.snd (takeR n (Prod.fst (Prod.snd x2)) (0 : Int) (List.getD xs (Int.toNat (Prod.fst x2)) (0 : Int))) !=
                                                          Prod.snd
                                                            (Prod.snd (accR n (Prod.fst (Prod.snd x2)) (Prod.snd (Prod.snd x2)) (List.getD xs (Int.toNat (Prod.fst x2)) (0 : Int))))) =
                                                        true →
                                                      false = true ∧ True) ∧
                                                    ((Prod.snd (takeR n (Prod.fst (Prod.snd x2)) (0 : Int) (List.getD xs (Int.toNat (Prod.fst x2)) (0 : Int))) !=
                                                          Prod.snd
                                                            (Prod.snd (accR n (Prod.fst (Prod.snd x2)) (Prod.snd (Prod.snd x2)) (List.getD xs (Int.toNat (Prod.fst x2)) (0 : Int))))) =
                                                        false →
                                                      (∃ (x3 : Int × Int × Int),
                                                          n = n ∧
                                                            xs = xs ∧
                                                              Prod.fst x2 = Prod.fst x3 ∧
                                                                n = n ∧
                                                                  Prod.fst (takeR n (Prod.fst (Prod.snd x2)) (0 : Int) (List.getD xs (Int.toNat (Prod.fst x2)) (0 : Int))) =
                                                                      Prod.fst (Prod.snd x3) ∧
                                                                    (0 : Int) = (0 : Int) ∧
                                                                      n = n ∧
                                                                        Prod.fst
                                                                              (accR n (Prod.fst (Prod.snd x2)) (Prod.snd (Prod.snd x2))
                                                                                (List.getD xs (Int.toNat (Prod.fst x2)) (0 : Int))) =
                                                                            Prod.fst (Prod.snd x3) ∧
                                                                          Prod.fst
                                                                                (Prod.snd
                                                                                  (accR n (Prod.fst (Prod.snd x2)) (Prod.snd (Prod.snd x2))
                                                                                    (List.getD xs (Int.toNat (Prod.fst x2)) (0 : Int)))) =
                                                                              Prod.snd (Prod.snd x3) ∧
                                                                            pairG1 n xs (List.length xs - Int.toNat (Prod.fst x2)) x3 ∧ True) ∧
                                                        ∀ (x4 : Int × Int × Int),
                                                          pairG1 n xs (List.length xs - Int.toNat (Prod.fst x2)) x4 →
                                                            (decide (Prod.snd (Prod.snd (retR n (Prod.fst (Prod.snd x4)) (Prod.snd (Prod.snd x4)))) < (0 : Int)) = true →
                                                                false = true ∧ True) ∧
                                                              (decide (Prod.snd (Prod.snd (retR n (Prod.fst (Prod.snd x4)) (Prod.snd (Prod.snd x4)))) < (0 : Int)) = false →
                                                                (decide ((0 : Int) < Prod.snd (Prod.snd (retR n (Prod.fst (Prod.snd x4)) (Prod.snd (Prod.snd x4))))) = true →
                                                                    ((-9223372036854775808 : Int) ≤ (2 : Int) * Prod.snd (Prod.snd x4) ∧
                                                                        (2 : Int) * Prod.snd (Prod.snd x4) ≤ (9223372036854775807 : Int)) ∧
                                                                      (decide ((2 : Int) * Prod.snd (Prod.snd x4) < n) = true → false = true ∧ True) ∧
                                                                        (decide ((2 : Int) * Prod.snd (Prod.snd x4) < n) = false →
                                                                          ((Prod.snd (Prod.snd (retR n (Prod.fst (Prod.snd x4)) (Prod.snd (Prod.snd x4)))) == (0 : Int)) = true →
                                                                              ((!(n == n &&
                                                                                          Prod.fst (retR n (Prod.fst (Prod.snd x4)) (Prod.snd (Prod.snd x4))) ==
                                                                                            Prod.fst (Prod.snd x4) &&
                                                                                        Prod.fst (Prod.snd (retR n (Prod.fst (Prod.snd x4)) (Prod.snd (Prod.snd x4)))) ==
                                                                                          Prod.snd (Prod.snd x4))) =
                                                                                    true →
                                                                                  false = true ∧ True) ∧
                                                                                ((!(n == n &&
                                                                                          Prod.fst (retR n (Prod.fst (Prod.snd x4)) (Prod.snd (Prod.snd x4))) ==
                                                                                            Prod.fst (Prod.snd x4) &&
                                                                                        Prod.fst (Prod.snd (retR n (Prod.fst (Prod.snd x4)) (Prod.snd (Prod.snd x4)))) ==
                                                                                          Prod.snd (Prod.snd x4))) =
                                                                                    false →
                                                                                  ((decide
                                                                                            ((0 : Int) <
                                                                                              Prod.snd (Prod.snd (retR n (Prod.fst (Prod.snd x4)) (Prod.snd (Prod.snd x4))))) =
                                                                                          true →
                                                                                        ((Prod.snd
                                                                                                  (giveR n (Prod.fst (Prod.snd x4)) (0 : Int)
                                                                                                    (Prod.snd (Prod.snd (retR n (Prod.fst (Prod.snd x4)) (Prod.snd (Prod.snd x4)))))) !=
                                                                                                (0 : Int)) =
                                                                                              true →
                                                                                            false = true ∧ True) ∧
                                                                                          ((Prod.snd
                                                                                                  (giveR n (Prod.fst (Prod.snd x4)) (0 : Int)
                                                                                                    (Prod.snd (Prod.snd (retR n (Prod.fst (Prod.snd x4)) (Prod.snd (Prod.snd x4)))))) !=
                                                                                                (0 : Int)) =
                                                                                              false →
                                                                                            ∃ (x5 : Int × Int × Int),
                                                                                              n = n ∧
                                                                                                xs = xs ∧
                                                                                                  Prod.fst x4 = Prod.fst x5 ∧
                                                                                                    n = n ∧
                                                                                                      Prod.fst
                                                                                                            (giveR n (Prod.fst (Prod.snd x4)) (0 : Int)
                                                                                                              (Prod.snd
                                                                                                                (Prod.snd
                                                                                                                  (retR n (Prod.fst (Prod.snd x4)) (Prod.snd (Prod.snd x4)))))) =
                                                                                                          Prod.fst (Prod.snd x5) ∧
                                                                                                        (0 : Int) = (0 : Int) ∧
                                                                                                          n = n ∧
                                                                                                            Prod.fst (retR n (Prod.fst (Prod.snd x4)) (Prod.snd (Prod.snd x4))) =
                                                                                                                Prod.fst (Prod.snd x5) ∧
                                                                                                              Prod.fst
                                                                                                                    (Prod.snd
                                                                                                                      (retR n (Prod.fst (Prod.snd x4)) (Prod.snd (Prod.snd x4)))) =
                                                                                                                  Prod.snd (Prod.snd x5) ∧
                                                                                                                pairG2 n xs (List.length xs - Int.toNat (Prod.fst x2)) x5 ∧ True)) ∧
                                                                                      (decide
                                                                                            ((0 : Int) <
                                                                                              Prod.snd (Prod.snd (retR n (Prod.fst (Prod.snd x4)) (Prod.snd (Prod.snd x4))))) =
                                                                                          false →
                                                                                        ∃ (x6 : Int × Int × Int),
                                                                                          n = n ∧
                                                                                            xs = xs ∧
                                                                                              Prod.fst x4 = Prod.fst x6 ∧
                                                                                                n = n ∧
                                                                                                  Prod.fst (Prod.snd x4) = Prod.fst (Prod.snd x6) ∧
                                                                                                    (0 : Int) = (0 : Int) ∧
                                                                                                      n = n ∧
                                                                                                        Prod.fst (retR n (Prod.fst (Prod.snd x4)) (Prod.snd (Prod.snd x4))) =
                                                                                                            Prod.fst (Prod.snd x6) ∧
                                                                                                          Prod.fst
                                                                                                                (Prod.snd (retR n (Prod.fst (Prod.snd x4)) (Prod.snd (Prod.snd x4)))) =
                                                                                                              Prod.snd (Prod.snd x6) ∧
                                                                                                            pairG2 n xs (List.length xs - Int.toNat (Prod.fst x2)) x6 ∧ True)) ∧
                                                                                    ∀ (x7 : Int × Int × Int),
                                                                                      pairG2 n xs (List.length xs - Int.toNat (Prod.fst x2)) x7 →
                                                                                        ((Prod.fst (Prod.snd x7) != Prod.fst (Prod.snd x7)) = true → false = true ∧ True) ∧
                                                                                          ((Prod.fst (Prod.snd x7) != Prod.fst (Prod.snd x7)) = false →
                                                                                            ((-9223372036854775808 : Int) ≤ Prod.fst (Prod.snd x7) + Prod.snd (Prod.snd x7) ∧
                                                                                                Prod.fst (Prod.snd x7) + Prod.snd (Prod.snd x7) ≤ (9223372036854775807 : Int)) ∧
                                                                                              ((Prod.fst (Prod.snd x7) + Prod.snd (Prod.snd x7) != n) = true → false = true ∧ True) ∧
                                                                                                ((Prod.fst (Prod.snd x7) + Prod.snd (Prod.snd x7) != n) = false →
                                                                                                  ((-9223372036854775808 : Int) ≤ (2 : Int) * Prod.snd (Prod.snd x7) ∧
                                                                                                      (2 : Int) * Prod.snd (Prod.snd x7) ≤ (9223372036854775807 : Int)) ∧
                                                                                                    (decide (n ≤ (2 : Int) * Prod.snd (Prod.snd x7)) = true →
                                                                                                        (decide ((0 : Int) < Prod.snd (Prod.snd x7)) = true → false = true ∧ True) ∧
                                                                                                          (decide ((0 : Int) < Prod.snd (Prod.snd x7)) = false →
                                                                                                            ((-9223372036854775808 : Int) ≤ Prod.fst x7 + (1 : Int) ∧
                                                                                                                Prod.fst x7 + (1 : Int) ≤ (9223372036854775807 : Int)) ∧
                                                                                                              ∃ (x8 : Int × Int × Int),
                                                                                                                n = n ∧
                                                                                                                  xs = xs ∧
                                                                                                                    Prod.fst x7 + (1 : Int) = Prod.fst x8 ∧
                                                                                                                      n = n ∧
                                                                                                                        Prod.fst (Prod.snd x7) = Prod.fst (Prod.snd x8) ∧
                                                                                                                          (0 : Int) = (0 : Int) ∧
                                                                                                                            n = n ∧
                                                                                                                              Prod.fst (Prod.snd x7) = Prod.fst (Prod.snd x8) ∧
                                                                                                                                Prod.snd (Prod.snd x7) = Prod.snd (Prod.snd x8) ∧
                                                                                                                                  pairG n xs x8 ∧
                                                                                                                                    List.length xs - Int.toNat (Prod.fst x8) <
                                                                                                                                        List.length xs - Int.toNat (Prod.fst x2) ∧
                                                                                                                                      True)) ∧
                                                                                                      (decide (n ≤ (2 : Int) * Prod.snd (Prod.snd x7)) = false →
                                                                                                        ((-9223372036854775808 : Int) ≤ Prod.fst x7 + (1 : Int) ∧
                                                                                                            Prod.fst x7 + (1 : Int) ≤ (9223372036854775807 : Int)) ∧
                                                                                                          ∃ (x9 : Int × Int × Int),
                                                                                                            n = n ∧
                                                                                                              xs = xs ∧
                                                                                                                Prod.fst x7 + (1 : Int) = Prod.fst x9 ∧
                                                                                                                  n = n ∧
                                                                                                                    Prod.fst (Prod.snd x7) = Prod.fst (Prod.snd x9) ∧
                                                                                                                      (0 : Int) = (0 : Int) ∧
                                                                                                                        n = n ∧
                                                                                                                          Prod.fst (Prod.snd x7) = Prod.fst (Prod.snd x9) ∧
                                                                                                                            Prod.snd (Prod.snd x7) = Prod.snd (Prod.snd x9) ∧
                                                                                                                              pairG n xs x9 ∧
                                                                                                                                List.length xs - Int.toNat (Prod.fst x9) <
                                                                                                                                    List.length xs - Int.toNat (Prod.fst x2) ∧
                                                                                                                                  True))))) ∧
                                                                            ((Prod.snd (Prod.snd (retR n (Prod.fst (Prod.snd x4)) (Prod.snd (Prod.snd x4)))) == (0 : Int)) = false →
                                                                              ((decide ((0 : Int) < Prod.snd (Prod.snd (retR n (Prod.fst (Prod.snd x4)) (Prod.snd (Prod.snd x4))))) =
                                                                                      true →
                                                                                    ((Prod.snd
                                                                                              (giveR n (Prod.fst (Prod.snd x4)) (0 : Int)
                                                                                                (Prod.snd (Prod.snd (retR n (Prod.fst (Prod.snd x4)) (Prod.snd (Prod.snd x4)))))) !=
                                                                                            (0 : Int)) =
                                                                                          true →
                                                                                        false = true ∧ True) ∧
                                                                                      ((Prod.snd
                                                                                              (giveR n (Prod.fst (Prod.snd x4)) (0 : Int)
                                                                                                (Prod.snd (Prod.snd (retR n (Prod.fst (Prod.snd x4)) (Prod.snd (Prod.snd x4)))))) !=
                                                                                            (0 : Int)) =
                                                                                          false →
                                                                                        ∃ (x10 : Int × Int × Int),
                                                                                          n = n ∧
                                                                                            xs = xs ∧
                                                                                              Prod.fst x4 = Prod.fst x10 ∧
                                                                                                n = n ∧
                                                                                                  Prod.fst
                                                                                                        (giveR n (Prod.fst (Prod.snd x4)) (0 : Int)
                                                                                                          (Prod.snd
                                                                                                            (Prod.snd (retR n (Prod.fst (Prod.snd x4)) (Prod.snd (Prod.snd x4)))))) =
                                                                                                      Prod.fst (Prod.snd x10) ∧
                                                                                                    (0 : Int) = (0 : Int) ∧
                                                                                                      n = n ∧
                                                                                                        Prod.fst (retR n (Prod.fst (Prod.snd x4)) (Prod.snd (Prod.snd x4))) =
                                                                                                            Prod.fst (Prod.snd x10) ∧
                                                                                                          Prod.fst
                                                                                                                (Prod.snd (retR n (Prod.fst (Prod.snd x4)) (Prod.snd (Prod.snd x4)))) =
                                                                                                              Prod.snd (Prod.snd x10) ∧
                                                                                                            pairG2 n xs (List.length xs - Int.toNat (Prod.fst x2)) x10 ∧ True)) ∧
                                                                                  (decide ((0 : Int) < Prod.snd (Prod.snd (retR n (Prod.fst (Prod.snd x4)) (Prod.snd (Prod.snd x4))))) =
                                                                                      false →
                                                                                    ∃ (x11 : Int × Int × Int),
                                                                                      n = n ∧
                                                                                        xs = xs ∧
                                                                                          Prod.fst x4 = Prod.fst x11 ∧
                                                                                            n = n ∧
                                                                                              Prod.fst (Prod.snd x4) = Prod.fst (Prod.snd x11) ∧
                                                                                                (0 : Int) = (0 : Int) ∧
                                                                                                  n = n ∧
                                                                                                    Prod.fst (retR n (Prod.fst (Prod.snd x4)) (Prod.snd (Prod.snd x4))) =
                                                                                                        Prod.fst (Prod.snd x11) ∧
                                                                                                      Prod.fst (Prod.snd (retR n (Prod.fst (Prod.snd x4)) (Prod.snd (Prod.snd x4)))) =
                                                                                                          Prod.snd (Prod.snd x11) ∧
                                                                                                        pairG2 n xs (List.length xs - Int.toNat (Prod.fst x2)) x11 ∧ True)) ∧
                                                                                ∀ (x12 : Int × Int × Int),
                                                                                  pairG2 n xs (List.length xs - Int.toNat (Prod.fst x2)) x12 →
                                                                                    ((Prod.fst (Prod.snd x12) != Prod.fst (Prod.snd x12)) = true → false = true ∧ True) ∧
                                                                                      ((Prod.fst (Prod.snd x12) != Prod.fst (Prod.snd x12)) = false →
                                                                                        ((-9223372036854775808 : Int) ≤ Prod.fst (Prod.snd x12) + Prod.snd (Prod.snd x12) ∧
                                                                                            Prod.fst (Prod.snd x12) + Prod.snd (Prod.snd x12) ≤ (9223372036854775807 : Int)) ∧
                                                                                          ((Prod.fst (Prod.snd x12) + Prod.snd (Prod.snd x12) != n) = true → false = true ∧ True) ∧
                                                                                            ((Prod.fst (Prod.snd x12) + Prod.snd (Prod.snd x12) != n) = false →
                                                                                              ((-9223372036854775808 : Int) ≤ (2 : Int) * Prod.snd (Prod.snd x12) ∧
                                                                                                  (2 : Int) * Prod.snd (Prod.snd x12) ≤ (9223372036854775807 : Int)) ∧
                                                                                                (decide (n ≤ (2 : Int) * Prod.snd (Prod.snd x12)) = true →
                                                                                                    (decide ((0 : Int) < Prod.snd (Prod.snd x12)) = true → false = true ∧ True) ∧
                                                                                                      (decide ((0 : Int) < Prod.snd (Prod.snd x12)) = false →
                                                                                                        ((-9223372036854775808 : Int) ≤ Prod.fst x12 + (1 : Int) ∧
                                                                                                            Prod.fst x12 + (1 : Int) ≤ (9223372036854775807 : Int)) ∧
                                                                                                          ∃ (x13 : Int × Int × Int),
                                                                                                            n = n ∧
                                                                                                              xs = xs ∧
                                                                                                                Prod.fst x12 + (1 : Int) = Prod.fst x13 ∧
                                                                                                                  n = n ∧
                                                                                                                    Prod.fst (Prod.snd x12) = Prod.fst (Prod.snd x13) ∧
                                                                                                                      (0 : Int) = (0 : Int) ∧
                                                                                                                        n = n ∧
                                                                                                                          Prod.fst (Prod.snd x12) = Prod.fst (Prod.snd x13) ∧
                                                                                                                            Prod.snd (Prod.snd x12) = Prod.snd (Prod.snd x13) ∧
                                                                                                                              pairG n xs x13 ∧
                                                                                                                                List.length xs - Int.toNat (Prod.fst x13) <
                                                                                                                                    List.length xs - Int.toNat (Prod.fst x2) ∧
                                                                                                                                  True)) ∧
                                                                                                  (decide (n ≤ (2 : Int) * Prod.snd (Prod.snd x12)) = false →
                                                                                                    ((-9223372036854775808 : Int) ≤ Prod.fst x12 + (1 : Int) ∧
                                                                                                        Prod.fst x12 + (1 : Int) ≤ (9223372036854775807 : Int)) ∧
                                                                                                      ∃ (x14 : Int × Int × Int),
                                                                                                        n = n ∧
                                                                                                          xs = xs ∧
                                                                                                            Prod.fst x12 + (1 : Int) = Prod.fst x14 ∧
                                                                                                              n = n ∧
                                                                                                                Prod.fst (Prod.snd x12) = Prod.fst (Prod.snd x14) ∧
                                                                                                                  (0 : Int) = (0 : Int) ∧
                                                                                                                    n = n ∧
                                                                                                                      Prod.fst (Prod.snd x12) = Prod.fst (Prod.snd x14) ∧
                                                                                                                        Prod.snd (Prod.snd x12) = Prod.snd (Prod.snd x14) ∧
                                                                                                                          pairG n xs x14 ∧
                                                                                                                            List.length xs - Int.toNat (Prod.fst x14) <
                                                                                                                                List.length xs - Int.toNat (Prod.fst x2) ∧
                                                                                                                              True)))))) ∧
                                                                  (decide ((0 : Int) < Prod.snd (Prod.snd (retR n (Prod.fst (Prod.snd x4)) (Prod.snd (Prod.snd x4))))) = false →
                                                                    ((Prod.snd (Prod.snd (retR n (Prod.fst (Prod.snd x4)) (Prod.snd (Prod.snd x4)))) == (0 : Int)) = true →
                                                                        ((!(n == n && Prod.fst (retR n (Prod.fst (Prod.snd x4)) (Prod.snd (Prod.snd x4))) == Prod.fst (Prod.snd x4) &&
                                                                                  Prod.fst (Prod.snd (retR n (Prod.fst (Prod.snd x4)) (Prod.snd (Prod.snd x4)))) ==
                                                                                    Prod.snd (Prod.snd x4))) =
                                                                              true →
                                                                            false = true ∧ True) ∧
                                                                          ((!(n == n && Prod.fst (retR n (Prod.fst (Prod.snd x4)) (Prod.snd (Prod.snd x4))) == Prod.fst (Prod.snd x4) &&
                                                                                  Prod.fst (Prod.snd (retR n (Prod.fst (Prod.snd x4)) (Prod.snd (Prod.snd x4)))) ==
                                                                                    Prod.snd (Prod.snd x4))) =
                                                                              false →
                                                                            ((decide ((0 : Int) < Prod.snd (Prod.snd (retR n (Prod.fst (Prod.snd x4)) (Prod.snd (Prod.snd x4))))) =
                                                                                    true →
                                                                                  ((Prod.snd
                                                                                            (giveR n (Prod.fst (Prod.snd x4)) (0 : Int)
                                                                                              (Prod.snd (Prod.snd (retR n (Prod.fst (Prod.snd x4)) (Prod.snd (Prod.snd x4)))))) !=
                                                                                          (0 : Int)) =
                                                                                        true →
                                                                                      false = true ∧ True) ∧
                                                                                    ((Prod.snd
                                                                                            (giveR n (Prod.fst (Prod.snd x4)) (0 : Int)
                                                                                              (Prod.snd (Prod.snd (retR n (Prod.fst (Prod.snd x4)) (Prod.snd (Prod.snd x4)))))) !=
                                                                                          (0 : Int)) =
                                                                                        false →
                                                                                      ∃ (x15 : Int × Int × Int),
                                                                                        n = n ∧
                                                                                          xs = xs ∧
                                                                                            Prod.fst x4 = Prod.fst x15 ∧
                                                                                              n = n ∧
                                                                                                Prod.fst
                                                                                                      (giveR n (Prod.fst (Prod.snd x4)) (0 : Int)
                                                                                                        (Prod.snd
                                                                                                          (Prod.snd (retR n (Prod.fst (Prod.snd x4)) (Prod.snd (Prod.snd x4)))))) =
                                                                                                    Prod.fst (Prod.snd x15) ∧
                                                                                                  (0 : Int) = (0 : Int) ∧
                                                                                                    n = n ∧
                                                                                                      Prod.fst (retR n (Prod.fst (Prod.snd x4)) (Prod.snd (Prod.snd x4))) =
                                                                                                          Prod.fst (Prod.snd x15) ∧
                                                                                                        Prod.fst (Prod.snd (retR n (Prod.fst (Prod.snd x4)) (Prod.snd (Prod.snd x4)))) =
                                                                                                            Prod.snd (Prod.snd x15) ∧
                                                                                                          pairG2 n xs (List.length xs - Int.toNat (Prod.fst x2)) x15 ∧ True)) ∧
                                                                                (decide ((0 : Int) < Prod.snd (Prod.snd (retR n (Prod.fst (Prod.snd x4)) (Prod.snd (Prod.snd x4))))) =
                                                                                    false →
                                                                                  ∃ (x16 : Int × Int × Int),
                                                                                    n = n ∧
                                                                                      xs = xs ∧
                                                                                        Prod.fst x4 = Prod.fst x16 ∧
                                                                                          n = n ∧
                                                                                            Prod.fst (Prod.snd x4) = Prod.fst (Prod.snd x16) ∧
                                                                                              (0 : Int) = (0 : Int) ∧
                                                                                                n = n ∧
                                                                                                  Prod.fst (retR n (Prod.fst (Prod.snd x4)) (Prod.snd (Prod.snd x4))) =
                                                                                                      Prod.fst (Prod.snd x16) ∧
                                                                                                    Prod.fst (Prod.snd (retR n (Prod.fst (Prod.snd x4)) (Prod.snd (Prod.snd x4)))) =
                                                                                                        Prod.snd (Prod.snd x16) ∧
                                                                                                      pairG2 n xs (List.length xs - Int.toNat (Prod.fst x2)) x16 ∧ True)) ∧
                                                                              ∀ (x17 : Int × Int × Int),
                                                                                pairG2 n xs (List.length xs - Int.toNat (Prod.fst x2)) x17 →
                                                                                  ((Prod.fst (Prod.snd x17) != Prod.fst (Prod.snd x17)) = true → false = true ∧ True) ∧
                                                                                    ((Prod.fst (Prod.snd x17) != Prod.fst (Prod.snd x17)) = false →
                                                                                      ((-9223372036854775808 : Int) ≤ Prod.fst (Prod.snd x17) + Prod.snd (Prod.snd x17) ∧
                                                                                          Prod.fst (Prod.snd x17) + Prod.snd (Prod.snd x17) ≤ (9223372036854775807 : Int)) ∧
                                                                                        ((Prod.fst (Prod.snd x17) + Prod.snd (Prod.snd x17) != n) = true → false = true ∧ True) ∧
                                                                                          ((Prod.fst (Prod.snd x17) + Prod.snd (Prod.snd x17) != n) = false →
                                                                                            ((-9223372036854775808 : Int) ≤ (2 : Int) * Prod.snd (Prod.snd x17) ∧
                                                                                                (2 : Int) * Prod.snd (Prod.snd x17) ≤ (9223372036854775807 : Int)) ∧
                                                                                              (decide (n ≤ (2 : Int) * Prod.snd (Prod.snd x17)) = true →
                                                                                                  (decide ((0 : Int) < Prod.snd (Prod.snd x17)) = true → false = true ∧ True) ∧
                                                                                                    (decide ((0 : Int) < Prod.snd (Prod.snd x17)) = false →
                                                                                                      ((-9223372036854775808 : Int) ≤ Prod.fst x17 + (1 : Int) ∧
                                                                                                          Prod.fst x17 + (1 : Int) ≤ (9223372036854775807 : Int)) ∧
                                                                                                        ∃ (x18 : Int × Int × Int),
                                                                                                          n = n ∧
                                                                                                            xs = xs ∧
                                                                                                              Prod.fst x17 + (1 : Int) = Prod.fst x18 ∧
                                                                                                                n = n ∧
                                                                                                                  Prod.fst (Prod.snd x17) = Prod.fst (Prod.snd x18) ∧
                                                                                                                    (0 : Int) = (0 : Int) ∧
                                                                                                                      n = n ∧
                                                                                                                        Prod.fst (Prod.snd x17) = Prod.fst (Prod.snd x18) ∧
                                                                                                                          Prod.snd (Prod.snd x17) = Prod.snd (Prod.snd x18) ∧
                                                                                                                            pairG n xs x18 ∧
                                                                                                                              List.length xs - Int.toNat (Prod.fst x18) <
                                                                                                                                  List.length xs - Int.toNat (Prod.fst x2) ∧
                                                                                                                                True)) ∧
                                                                                                (decide (n ≤ (2 : Int) * Prod.snd (Prod.snd x17)) = false →
                                                                                                  ((-9223372036854775808 : Int) ≤ Prod.fst x17 + (1 : Int) ∧
                                                                                                      Prod.fst x17 + (1 : Int) ≤ (9223372036854775807 : Int)) ∧
                                                                                                    ∃ (x19 : Int × Int × Int),
                                                                                                      n = n ∧
                                                                                                        xs = xs ∧
                                                                                                          Prod.fst x17 + (1 : Int) = Prod.fst x19 ∧
                                                                                                            n = n ∧
                                                                                                              Prod.fst (Prod.snd x17) = Prod.fst (Prod.snd x19) ∧
                                                                                                                (0 : Int) = (0 : Int) ∧
                                                                                                                  n = n ∧
                                                                                                                    Prod.fst (Prod.snd x17) = Prod.fst (Prod.snd x19) ∧
                                                                                                                      Prod.snd (Prod.snd x17) = Prod.snd (Prod.snd x19) ∧
                                                                                                                        pairG n xs x19 ∧
                                                                                                                          List.length xs - Int.toNat (Prod.fst x19) <
                                                                                                                              List.length xs - Int.toNat (Prod.fst x2) ∧
                                                                                                                            True))))) ∧
                                                                      ((Prod.snd (Prod.snd (retR n (Prod.fst (Prod.snd x4)) (Prod.snd (Prod.snd x4)))) == (0 : Int)) = false →
                                                                        ((decide ((0 : Int) < Prod.snd (Prod.snd (retR n (Prod.fst (Prod.snd x4)) (Prod.snd (Prod.snd x4))))) = true →
                                                                              ((Prod.snd
                                                                                        (giveR n (Prod.fst (Prod.snd x4)) (0 : Int)
                                                                                          (Prod.snd (Prod.snd (retR n (Prod.fst (Prod.snd x4)) (Prod.snd (Prod.snd x4)))))) !=
                                                                                      (0 : Int)) =
                                                                                    true →
                                                                                  false = true ∧ True) ∧
                                                                                ((Prod.snd
                                                                                        (giveR n (Prod.fst (Prod.snd x4)) (0 : Int)
                                                                                          (Prod.snd (Prod.snd (retR n (Prod.fst (Prod.snd x4)) (Prod.snd (Prod.snd x4)))))) !=
                                                                                      (0 : Int)) =
                                                                                    false →
                                                                                  ∃ (x20 : Int × Int × Int),
                                                                                    n = n ∧
                                                                                      xs = xs ∧
                                                                                        Prod.fst x4 = Prod.fst x20 ∧
                                                                                          n = n ∧
                                                                                            Prod.fst
                                                                                                  (giveR n (Prod.fst (Prod.snd x4)) (0 : Int)
                                                                                                    (Prod.snd (Prod.snd (retR n (Prod.fst (Prod.snd x4)) (Prod.snd (Prod.snd x4)))))) =
                                                                                                Prod.fst (Prod.snd x20) ∧
                                                                                              (0 : Int) = (0 : Int) ∧
                                                                                                n = n ∧
                                                                                                  Prod.fst (retR n (Prod.fst (Prod.snd x4)) (Prod.snd (Prod.snd x4))) =
                                                                                                      Prod.fst (Prod.snd x20) ∧
                                                                                                    Prod.fst (Prod.snd (retR n (Prod.fst (Prod.snd x4)) (Prod.snd (Prod.snd x4)))) =
                                                                                                        Prod.snd (Prod.snd x20) ∧
                                                                                                      pairG2 n xs (List.length xs - Int.toNat (Prod.fst x2)) x20 ∧ True)) ∧
                                                                            (decide ((0 : Int) < Prod.snd (Prod.snd (retR n (Prod.fst (Prod.snd x4)) (Prod.snd (Prod.snd x4))))) =
                                                                                false →
                                                                              ∃ (x21 : Int × Int × Int),
                                                                                n = n ∧
                                                                                  xs = xs ∧
                                                                                    Prod.fst x4 = Prod.fst x21 ∧
                                                                                      n = n ∧
                                                                                        Prod.fst (Prod.snd x4) = Prod.fst (Prod.snd x21) ∧
                                                                                          (0 : Int) = (0 : Int) ∧
                                                                                            n = n ∧
                                                                                              Prod.fst (retR n (Prod.fst (Prod.snd x4)) (Prod.snd (Prod.snd x4))) =
                                                                                                  Prod.fst (Prod.snd x21) ∧
                                                                                                Prod.fst (Prod.snd (retR n (Prod.fst (Prod.snd x4)) (Prod.snd (Prod.snd x4)))) =
                                                                                                    Prod.snd (Prod.snd x21) ∧
                                                                                                  pairG2 n xs (List.length xs - Int.toNat (Prod.fst x2)) x21 ∧ True)) ∧
                                                                          ∀ (x22 : Int × Int × Int),
                                                                            pairG2 n xs (List.length xs - Int.toNat (Prod.fst x2)) x22 →
                                                                              ((Prod.fst (Prod.snd x22) != Prod.fst (Prod.snd x22)) = true → false = true ∧ True) ∧
                                                                                ((Prod.fst (Prod.snd x22) != Prod.fst (Prod.snd x22)) = false →
                                                                                  ((-9223372036854775808 : Int) ≤ Prod.fst (Prod.snd x22) + Prod.snd (Prod.snd x22) ∧
                                                                                      Prod.fst (Prod.snd x22) + Prod.snd (Prod.snd x22) ≤ (9223372036854775807 : Int)) ∧
                                                                                    ((Prod.fst (Prod.snd x22) + Prod.snd (Prod.snd x22) != n) = true → false = true ∧ True) ∧
                                                                                      ((Prod.fst (Prod.snd x22) + Prod.snd (Prod.snd x22) != n) = false →
                                                                                        ((-9223372036854775808 : Int) ≤ (2 : Int) * Prod.snd (Prod.snd x22) ∧
                                                                                            (2 : Int) * Prod.snd (Prod.snd x22) ≤ (9223372036854775807 : Int)) ∧
                                                                                          (decide (n ≤ (2 : Int) * Prod.snd (Prod.snd x22)) = true →
                                                                                              (decide ((0 : Int) < Prod.snd (Prod.snd x22)) = true → false = true ∧ True) ∧
                                                                                                (decide ((0 : Int) < Prod.snd (Prod.snd x22)) = false →
                                                                                                  ((-9223372036854775808 : Int) ≤ Prod.fst x22 + (1 : Int) ∧
                                                                                                      Prod.fst x22 + (1 : Int) ≤ (9223372036854775807 : Int)) ∧
                                                                                                    ∃ (x23 : Int × Int × Int),
                                                                                                      n = n ∧
                                                                                                        xs = xs ∧
                                                                                                          Prod.fst x22 + (1 : Int) = Prod.fst x23 ∧
                                                                                                            n = n ∧
                                                                                                              Prod.fst (Prod.snd x22) = Prod.fst (Prod.snd x23) ∧
                                                                                                                (0 : Int) = (0 : Int) ∧
                                                                                                                  n = n ∧
                                                                                                                    Prod.fst (Prod.snd x22) = Prod.fst (Prod.snd x23) ∧
                                                                                                                      Prod.snd (Prod.snd x22) = Prod.snd (Prod.snd x23) ∧
                                                                                                                        pairG n xs x23 ∧
                                                                                                                          List.length xs - Int.toNat (Prod.fst x23) <
                                                                                                                              List.length xs - Int.toNat (Prod.fst x2) ∧
                                                                                                                            True)) ∧
                                                                                            (decide (n ≤ (2 : Int) * Prod.snd (Prod.snd x22)) = false →
                                                                                              ((-9223372036854775808 : Int) ≤ Prod.fst x22 + (1 : Int) ∧
                                                                                                  Prod.fst x22 + (1 : Int) ≤ (9223372036854775807 : Int)) ∧
                                                                                                ∃ (x24 : Int × Int × Int),
                                                                                                  n = n ∧
                                                                                                    xs = xs ∧
                                                                                                      Prod.fst x22 + (1 : Int) = Prod.fst x24 ∧
                                                                                                        n = n ∧
                                                                                                          Prod.fst (Prod.snd x22) = Prod.fst (Prod.snd x24) ∧
                                                                                                            (0 : Int) = (0 : Int) ∧
                                                                                                              n = n ∧
                                                                                                                Prod.fst (Prod.snd x22) = Prod.fst (Prod.snd x24) ∧
                                                                                                                  Prod.snd (Prod.snd x22) = Prod.snd (Prod.snd x24) ∧
                                                                                                                    pairG n xs x24 ∧
                                                                                                                      List.length xs - Int.toNat (Prod.fst x24) <
                                                                                                                          List.length xs - Int.toNat (Prod.fst x2) ∧
                                                                                                                        True)))))))) ∧
                                            (decide (Prod.fst x2 < (↑(List.length xs) : Int)) = false → true = true ∧ True)))) := by
  by_cases hn : 1 ≤ n ∧ n ≤ 1048576
  · have e : newR n = (n, 0) := if_pos hn
    rw [e]
    refine ⟨by simp, fun _ => ⟨by simp, fun _ => ⟨by simp, fun hl => ⟨(0, n, 0), rfl, rfl, rfl, rfl, rfl, rfl, rfl, rfl, rfl, ⟨by simp, by simp, hn.1, hn.2, by simp only; omega, by simp, by simp, by simp⟩, ?_⟩⟩⟩⟩
    have hl : xs.length ≤ 1000 := by simp at hl; omega
    rintro ⟨k, sl, rh⟩ ⟨g0, g1, g2, g3, g4, g5, g6, g7⟩
    dsimp only at *
    refine ⟨fun h1 => ?_, fun _ => ⟨rfl, trivial⟩⟩
    have h1 : k < xs.length := by simpa using h1
    generalize xs.getD k.toNat 0 = v
    have hv : validB n sl 0 = true := validB_mk (by omega)
    have hw : validB n sl rh = true := validB_mk (by omega)
    have ht : ∃ L H c, takeR n sl 0 v = (L, c) ∧ accR n sl rh v = (L, H, c) ∧ 0 ≤ L ∧ 0 ≤ H ∧ L + H = n := by
      by_cases a : 0 ≤ v
      · by_cases b : v ≤ sl
        · exact ⟨sl - v, rh + v, 0, by simp [takeR, hv, a, b], by simp [accR, hw, a, b], by omega, by omega, by omega⟩
        · exact ⟨sl, rh, 22, by simp [takeR, hv, a, b], by simp [accR, hw, a, b], by omega, by omega, by omega⟩
      · exact ⟨sl, rh, 1, by simp [takeR, a], by simp [accR, a], by omega, by omega, by omega⟩
    obtain ⟨L, H, c, e1, e2, l1, l2, l3⟩ := ht
    rw [e1, e2]
    refine ⟨⟨g0, h1⟩, ⟨g0, h1⟩, by simp, fun _ => ⟨⟨(k, L, H), rfl, rfl, rfl, rfl, rfl, rfl, rfl, rfl, rfl, ⟨rfl, g0, h1, g2, g3, l1, l2, l3⟩, trivial⟩, ?_⟩⟩
    clear e1 e2 l1 l2 l3 hv hw g4 g5 g6 g7
    rintro ⟨k', L', H'⟩ ⟨q0, q1, q2, q3, q4, q5, q6, q7⟩
    dsimp only at *
    have hv' : validB n L' H' = true := validB_mk (by omega)
    by_cases c : H' ≠ 0 ∧ n ≤ 2 * H'
    · have er : retR n L' H' = (L' + H', 0, H') := by unfold retR; rw [if_pos ⟨hv', c⟩]
      have eg : giveR n L' 0 H' = (L' + H', 0) := by
        unfold giveR
        rw [if_pos ⟨validB_mk (by omega), by omega⟩, if_pos (by omega)]
      rw [er]
      dsimp only
      rw [eg]
      dsimp only
      clear er eg hv' e
      repeat' (first | exact trivial | apply And.intro | (intro (x : Int × Int × Int); obtain ⟨_, _, _⟩ := x; dsimp only) | intro _ | refine ⟨(_, _, _), rfl, rfl, rfl, rfl, rfl, rfl, rfl, rfl, rfl, ?_⟩ | fail)
      all_goals first | rfl | ((try simp only [decide_eq_true_eq, decide_eq_false_iff_not, beq_iff_eq, bne_iff_ne, beq_eq_false_iff_ne, bne_eq_false_iff_eq, ne_eq, Bool.and_eq_true, Bool.not_eq_true', Bool.not_eq_false', Bool.and_eq_false_iff] at *); (try simp only [pairG, pairG1, pairG2] at *); first | omega | (exfalso; simp_all; done))
    · have er : retR n L' H' = (L', H', 0) := by unfold retR; rw [if_neg (fun h => c h.2)]
      rw [er]
      dsimp only
      clear er hv' e
      repeat' (first | exact trivial | apply And.intro | (intro (x : Int × Int × Int); obtain ⟨_, _, _⟩ := x; dsimp only) | intro _ | refine ⟨(_, _, _), rfl, rfl, rfl, rfl, rfl, rfl, rfl, rfl, rfl, ?_⟩ | fail)
      all_goals first | rfl | ((try simp only [decide_eq_true_eq, decide_eq_false_iff_not, beq_iff_eq, bne_iff_ne, beq_eq_false_iff_ne, bne_eq_false_iff_eq, ne_eq, Bool.and_eq_true, Bool.not_eq_true', Bool.not_eq_false', Bool.and_eq_false_iff] at *); (try simp only [pairG, pairG1, pairG2] at *); first | omega | (exfalso; simp_all; done))
  · have e : newR n = (0, 1) := if_neg hn
    rw [e]
    exact ⟨by simp, by simp⟩
theorem pair_ok : CtOk Try.prog SI 7 pairC := by
  refine fn_ok (T := TI) (Γ := Γ4) mixedI TI_ok Γ4_ok SI_ok Try.func7 rfl (by kernel_rfl) Try.ntmps7 rfl (by kernel_rfl) pairC ?_
  intro sargs p r hc
  unfold pairC at hc
  split at hc
  · rename_i n xs
    cases hc
    exact ⟨Nat.le_of_ble_eq_true rfl, fun hp => ⟨fun i m => if Nat.beq i 6 then some (pairI n xs) else if Nat.beq i 100014 then some (pairI1 n xs m) else if Nat.beq i 100023 then some (pairI2 n xs m) else none, Eq.mp (by kernel_rfl) (pair_vc n xs)⟩⟩
  · cases hc
end Go.Proofs.Ythknholdgnfkmaa
