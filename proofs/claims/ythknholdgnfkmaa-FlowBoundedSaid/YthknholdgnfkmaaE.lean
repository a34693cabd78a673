/-
  The contracts of flow's Accept, of the reference's Accept and Same.
-/
import Derived.Test.YthknholdgnfkmaaD
namespace Go.Proofs.Ythknholdgnfkmaa
open Go.RowKit
set_option maxHeartbeats 400000 in
theorem acc_any (s l h n : Int) (w : World) :
    Calls Try.prog 20 #[.agg #[.int .i64 s, .int .i64 l, .int .i64 h], .int .i64 n] w fun e w' => e = .returned (.tuple #[.agg #[.int .i64 s, .int .i64 (accR s l h n).1, .int .i64 (accR s l h n).2.1], .int .i64 (accR s l h n).2.2]) ∧ Below w.heap.size w w' := by
  go_enter Try.func20, Try.ntmps20
  go_wp2_with (go_at_call 24; refine (chacc_any _ _ _ _ _).mono ?_; rintro e w1 ⟨rfl, hb⟩; obtain ⟨hc, hf⟩ := bcell hb; have hz := hz2 hb; have hb2 := hb.mono (B' := w.heap.size) (by simp; omega); clear hb)
  exact bodyPost_ret (by simp [results, Try.results20, go_sem, hc]) rfl ⟨rfl, by
    refine Below.setCell (Below.setCell (Below.setCell (((((Below.refl _ _).alloc ?_ _).alloc ?_ _)).trans hb2) ?_ _) ?_ _) ?_ _
    all_goals (simp <;> omega)⟩
theorem acc_take_ok {s l h n : Int} (v : (takeR s l h n).2 = 0) : accR s l h n = ((takeR s l h n).1, h + n, 0) ∧ 0 ≤ n ∧ n ≤ l ∧ 0 ≤ h ∧ h ≤ 1048576 ∧ l ≤ 1048576 := by
  unfold takeR at v
  by_cases c : validB s l h = true ∧ 0 ≤ n
  · by_cases d : n ≤ l
    · have := validB_yes c.1
      exact ⟨by simp [takeR, accR, c, d], by omega⟩
    · simp [c, d] at v
  · simp [c] at v
theorem acc_take_no {s l h n : Int} (v : (takeR s l h n).2 ≠ 0) : accR s l h n = ((takeR s l h n).1, h, (takeR s l h n).2) := by
  by_cases c : validB s l h = true ∧ 0 ≤ n
  · by_cases d : n ≤ l
    · simp [takeR, c, d] at v
    · simp [takeR, accR, c, d]
  · simp [takeR, accR, c]
theorem two3 {w w1 : World} {a0 a1 a2 b0 b1 b2 : Value} {t u : TypeId} (hb : Below ((w.alloc (.cells #[a0, a1, a2] t)).alloc (.cells #[b0, b1, b2] u)).heap.size ((w.alloc (.cells #[a0, a1, a2] t)).alloc (.cells #[b0, b1, b2] u)) w1) :
    (w1.cell? ⟨w.heap.size, 0, none⟩ = some a0 ∧ w1.cell? ⟨w.heap.size, 1, none⟩ = some a1 ∧ w1.cell? ⟨w.heap.size, 2, none⟩ = some a2) ∧
    (w1.cell? ⟨w.heap.size + 1, 0, none⟩ = some b0 ∧ w1.cell? ⟨w.heap.size + 1, 1, none⟩ = some b1 ∧ w1.cell? ⟨w.heap.size + 1, 2, none⟩ = some b2) ∧
    (w1.frozen? ⟨w.heap.size, 0, none⟩ = false ∧ w1.frozen? ⟨w.heap.size, 1, none⟩ = false ∧ w1.frozen? ⟨w.heap.size, 2, none⟩ = false) ∧
    (w1.frozen? ⟨w.heap.size + 1, 0, none⟩ = false ∧ w1.frozen? ⟨w.heap.size + 1, 1, none⟩ = false ∧ w1.frozen? ⟨w.heap.size + 1, 2, none⟩ = false) := by
  obtain ⟨hc, hf⟩ := bcell hb
  refine ⟨⟨?_, ?_, ?_⟩, ⟨?_, ?_, ?_⟩, ⟨?_, ?_, ?_⟩, ⟨?_, ?_, ?_⟩⟩ <;> first | (rw [hc _ _ (by simp <;> omega)]; simp [go_sem]) | (rw [hf _ _ (by simp <;> omega)]; simp [go_sem])
theorem cell_set_same (w : World) (b o : Nat) (v : Value) : (w.setCell ⟨b, o, none⟩ v).cell? ⟨b, o, none⟩ = (w.cell? ⟨b, o, none⟩).map fun _ => v := by
  cases h : w.cell? ⟨b, o, none⟩ with
  | some u => rw [World.cell?_setCell_same (u := u) _ _ _ h]; rfl
  | none =>
    simp only [World.setCell, World.cell?, Array.getElem?_modify, if_true] at h ⊢
    cases hh : w.heap[b]? with
    | none => simp
    | some x =>
      rw [hh] at h
      cases x <;> simp_all
attribute [local go_sem high] cell_set_same
set_option maxHeartbeats 1000000 in
theorem racc_any (s l h n : Int) (w : World) :
    Calls Try.prog 21 #[.agg #[.int .i64 s, .int .i64 l, .int .i64 h], .int .i64 n] w fun e w' => e = .returned (.tuple #[.agg #[.int .i64 s, .int .i64 (accR s l h n).1, .int .i64 (accR s l h n).2.1], .int .i64 (accR s l h n).2.2]) ∧ Below w.heap.size w w' := by
  by_cases v : (takeR s l h n).2 = 0
  · obtain ⟨e1, g1, g2, g3, g4, g5⟩ := acc_take_ok v
    rw [e1]
    have v' : ((takeR s l h n).2 != 0) = false := by simpa using v
    clear e1 v
    go_enter Try.func21, Try.ntmps21
    go_wp2_with (go_at_call 17; refine (rtake_any _ _ _ _ _).mono ?_; rintro e w1 ⟨rfl, hb⟩; obtain ⟨⟨c0, c1, c2⟩, ⟨d0, d1, d2⟩, ⟨f0, f1, f2⟩, ⟨g0, g1', g2'⟩⟩ := two3 hb; have hz := hz2 hb; have hb2 := hb.mono (B' := w.heap.size) (by simp; omega); clear hb)
    exact bodyPost_ret (by simp [results, Try.results21, go_sem, d0, d1, d2]) rfl ⟨rfl, by ((repeat' (first | (with_reducible exact Below.refl _ _) | (with_reducible refine Below.alloc ?_ ?_ _) | (with_reducible refine Below.setCell ?_ ?_ _) | (with_reducible refine Below.trans ?_ hb2))) <;> simp <;> omega)⟩
  · have e1 := acc_take_no v
    rw [e1]
    have v' : ((takeR s l h n).2 != 0) = true := by simpa using v
    clear e1 v
    go_enter Try.func21, Try.ntmps21
    go_wp2_with (go_at_call 17; refine (rtake_any _ _ _ _ _).mono ?_; rintro e w1 ⟨rfl, hb⟩; obtain ⟨⟨c0, c1, c2⟩, ⟨d0, d1, d2⟩, ⟨f0, f1, f2⟩, ⟨g0, g1', g2'⟩⟩ := two3 hb; have hz := hz2 hb; have hb2 := hb.mono (B' := w.heap.size) (by simp; omega); clear hb)
    exact bodyPost_ret (by simp [results, Try.results21, go_sem, d0, d1, d2]) rfl ⟨rfl, by ((repeat' (first | (with_reducible exact Below.refl _ _) | (with_reducible refine Below.alloc ?_ ?_ _) | (with_reducible refine Below.setCell ?_ ?_ _) | (with_reducible refine Below.trans ?_ hb2))) <;> simp <;> omega)⟩
set_option maxHeartbeats 400000 in
theorem same_yes (s l h : Int) (w : World) :
    Calls Try.prog 12 #[.agg #[.int .i64 s, .int .i64 l, .int .i64 h], .agg #[.int .i64 s, .int .i64 l, .int .i64 h]] w fun e w' => e = .returned (.bool true) ∧ Below w.heap.size w w' := by
  go_enter Try.func12, Try.ntmps12
  go_wp2
  first | go_quiet (fail) | skip
  go_wp2
  go_ret
  exact ⟨rfl, by ((repeat' (first | (with_reducible exact Below.refl _ _) | (with_reducible refine Below.alloc ?_ ?_ _) | (with_reducible refine Below.setCell ?_ ?_ _))) <;> simp <;> omega)⟩
end Go.Proofs.Ythknholdgnfkmaa
