/-
  Replay: frames are read as the reference reads them.
-/
import Derived.Test.YtcdhbdjlamikgaaGreatDoorQ
namespace Go.Proofs.YtcdhbdjlamikgaaGreatDoor
open Go.RowKit Go.Vc
set_option linter.unusedVariables false
set_option linter.unusedSimpArgs false
set_option maxRecDepth 100000

noncomputable def frStep (data : Str) (i1 : Int) (y2 : Int × List Int) : (Int × List Int) ⊕ ((Int × List Int) ⊕ (Frame × Int × Int)) :=
  bif (vtakeP (List.drop y2.1.toNat (List.take data.length data))).2.2 != 0 then .inr (.inr (Frame.mk 0 0 0 [], 0, (vtakeP (List.drop y2.1.toNat (List.take data.length data))).2.2)) else
    .inl (wrp .i64 (y2.1 + (vtakeP (List.drop y2.1.toNat (List.take data.length data))).2.1), y2.2.set i1.toNat (vtakeP (List.drop y2.1.toNat (List.take data.length data))).1)
noncomputable def frNums (data : Str) : (Int × List Int) ⊕ (Frame × Int × Int) := forN (frStep data) (fun _ y => .inl y) 3 0 (1, [0, 0, 0])
theorem fr_nums (data : Str) (hd : data.length ≤ 9000) (hne : data ≠ []) : Sum.elim (nums3 data) (fun r => r.2.2 ≠ 0) (frNums data) := by
  unfold frNums
  refine forN_post (R := (Int × List Int) ⊕ (Frame × Int × Int)) (Q := fun x => Sum.elim (nums3 data) (fun r : Frame × Int × Int => r.2.2 ≠ 0) x) (fun i y => nums3 data y) 3 3 0 (1, [0, 0, 0]) rfl (nums_start data hne) (fun i y _ hI => ?_) (fun i y _ hI => hI)
  unfold frStep
  cases hb : (vtakeP (List.drop y.1.toNat (List.take data.length data))).2.2 != 0 with
  | true => exact (by simpa using hb)
  | false => exact nums_next hd hI i.toNat
noncomputable def frEnd (data : Str) (y3 : Int × List Int) : Frame × Int × Int :=
  bif decide (16384 < y3.2.getD 2 0) then (Frame.mk 0 0 0 [], 0, 3) else
  bif decide (wrp .i64 ((data.length : Int) - 4) < wrp .i64 (y3.1 + wrp .i64 (y3.2.getD 2 0))) then (Frame.mk 0 0 0 [], 0, 4) else
  bif (dopenP (List.take (wrp .i64 (wrp .i64 (y3.1 + wrp .i64 (y3.2.getD 2 0)) + 4)).toNat data)).2 != 0 then (Frame.mk 0 0 0 [], 0, 25) else
  bif decide (4294967295 < y3.2.getD 0 0) then (Frame.mk 0 0 0 [], 0, 6) else bif decide (4294967295 < y3.2.getD 1 0) then (Frame.mk 0 0 0 [], 0, 6) else
  bif fcheckP (Frame.mk (wrp .i64 ((data.getD 0 0).toNat : Int)) (wrp .i64 (y3.2.getD 0 0)) (wrp .i64 (y3.2.getD 1 0)) (List.drop y3.1.toNat (List.take (wrp .i64 (y3.1 + wrp .i64 (y3.2.getD 2 0))).toNat data))) == 0 then
    (bif fbytesP (Frame.mk (wrp .i64 ((data.getD 0 0).toNat : Int)) (wrp .i64 (y3.2.getD 0 0)) (wrp .i64 (y3.2.getD 1 0)) (List.drop y3.1.toNat (List.take (wrp .i64 (y3.1 + wrp .i64 (y3.2.getD 2 0))).toNat data))) != List.take (wrp .i64 (wrp .i64 (y3.1 + wrp .i64 (y3.2.getD 2 0)) + 4)).toNat data then (Frame.mk 0 0 0 [], 0, 5)
      else (Frame.mk (wrp .i64 ((data.getD 0 0).toNat : Int)) (wrp .i64 (y3.2.getD 0 0)) (wrp .i64 (y3.2.getD 1 0)) (List.drop y3.1.toNat (List.take (wrp .i64 (y3.1 + wrp .i64 (y3.2.getD 2 0))).toNat data)), wrp .i64 (wrp .i64 (y3.1 + wrp .i64 (y3.2.getD 2 0)) + 4), 0))
  else bif fcheckP (Frame.mk (wrp .i64 ((data.getD 0 0).toNat : Int)) (wrp .i64 (y3.2.getD 0 0)) (wrp .i64 (y3.2.getD 1 0)) (List.drop y3.1.toNat (List.take (wrp .i64 (y3.1 + wrp .i64 (y3.2.getD 2 0))).toNat data))) == 4 then (Frame.mk 0 0 0 [], 0, 5)
    else (Frame.mk 0 0 0 [], 0, fcheckP (Frame.mk (wrp .i64 ((data.getD 0 0).toNat : Int)) (wrp .i64 (y3.2.getD 0 0)) (wrp .i64 (y3.2.getD 1 0)) (List.drop y3.1.toNat (List.take (wrp .i64 (y3.1 + wrp .i64 (y3.2.getD 2 0))).toNat data))))
theorem fread_def (data : Str) : freadP data = bif data == [] then (Frame.mk 0 0 0 [], 0, 4) else thenS (frNums data) (frEnd data) := rfl
noncomputable def rfrEnd (data : Str) (y3 : Int × List Int) : Frame × Int × Int :=
  bif decide (16384 < y3.2.getD 2 0) then (Frame.mk 0 0 0 [], 0, 3) else
  bif decide (wrp .i64 ((data.length : Int) - y3.1) < wrp .i64 (wrp .i64 (y3.2.getD 2 0) + 4)) then (Frame.mk 0 0 0 [], 0, 4) else
  bif fourP (List.take (wrp .i64 (y3.1 + wrp .i64 (y3.2.getD 2 0))).toNat data) != List.drop (wrp .i64 (y3.1 + wrp .i64 (y3.2.getD 2 0))).toNat (List.take (wrp .i64 (wrp .i64 (y3.1 + wrp .i64 (y3.2.getD 2 0)) + 4)).toNat data) then (Frame.mk 0 0 0 [], 0, 25) else
  bif decide (4294967296 ≤ y3.2.getD 0 0) then (Frame.mk 0 0 0 [], 0, 6) else bif decide (4294967296 ≤ y3.2.getD 1 0) then (Frame.mk 0 0 0 [], 0, 6) else
  thenS (bif rfcheckP (Frame.mk (wrp .i64 ((data.getD 0 0).toNat : Int)) (wrp .i64 (y3.2.getD 0 0)) (wrp .i64 (y3.2.getD 1 0)) (List.drop y3.1.toNat (List.take (wrp .i64 (y3.1 + wrp .i64 (y3.2.getD 2 0))).toNat data))) == 4 then (Sum.inl 5 : Int ⊕ (Frame × Int × Int)) else .inl (rfcheckP (Frame.mk (wrp .i64 ((data.getD 0 0).toNat : Int)) (wrp .i64 (y3.2.getD 0 0)) (wrp .i64 (y3.2.getD 1 0)) (List.drop y3.1.toNat (List.take (wrp .i64 (y3.1 + wrp .i64 (y3.2.getD 2 0))).toNat data)))))
    (fun y4 => bif y4 != 0 then (Frame.mk 0 0 0 [], 0, y4) else
      bif rfbytesP (Frame.mk (wrp .i64 ((data.getD 0 0).toNat : Int)) (wrp .i64 (y3.2.getD 0 0)) (wrp .i64 (y3.2.getD 1 0)) (List.drop y3.1.toNat (List.take (wrp .i64 (y3.1 + wrp .i64 (y3.2.getD 2 0))).toNat data))) != List.take (wrp .i64 (wrp .i64 (y3.1 + wrp .i64 (y3.2.getD 2 0)) + 4)).toNat data then (Frame.mk 0 0 0 [], 0, 5)
      else (Frame.mk (wrp .i64 ((data.getD 0 0).toNat : Int)) (wrp .i64 (y3.2.getD 0 0)) (wrp .i64 (y3.2.getD 1 0)) (List.drop y3.1.toNat (List.take (wrp .i64 (y3.1 + wrp .i64 (y3.2.getD 2 0))).toNat data)), wrp .i64 (wrp .i64 (y3.1 + wrp .i64 (y3.2.getD 2 0)) + 4), 0))
theorem rfread_def (data : Str) : rfreadP data = bif data == [] then (Frame.mk 0 0 0 [], 0, 4) else thenS (frNums data) (rfrEnd data) := by
  unfold rfreadP rfread
  simp only [val_br, val_cut, val_cnt, val_ob, val_lt, val_as, val_ix, val_ret, ← take_eq]
  rfl
theorem fread_eq (data : Str) (hd : data.length ≤ 9000) : freadP data = rfreadP data := by
  rw [fread_def, rfread_def]
  cases he : data == [] with
  | true => rfl
  | false =>
    rw [cond_false, cond_false]
    have hq := fr_nums data hd (by simpa using he)
    cases hn : frNums data with
    | inr r => rfl
    | inl y =>
      rw [hn] at hq
      have hq : nums3 data y := hq
      rw [thenS_inl, thenS_inl]
      unfold frEnd rfrEnd
      by_cases h16 : 16384 < y.2.getD 2 0
      · rw [decide_eq_true h16]; rfl
      · rw [decide_eq_false h16, cond_false, cond_false]
        obtain ⟨a, n, ha, hn2, k1, k2, k3, k4, k5, k6, k7, k8⟩ := nums_fin hd hq h16
        rw [k4, k5, k6, k7, k8]
        by_cases h5 : (data.length : Int) - 4 < ((a + n : Nat) : Int)
        · rw [decide_eq_true h5, decide_eq_true (show (data.length : Int) - (a : Int) < ((n + 4 : Nat) : Int) by omega)]; rfl
        · rw [decide_eq_false h5, decide_eq_false (show ¬ (data.length : Int) - (a : Int) < ((n + 4 : Nat) : Int) by omega), cond_false, cond_false]
          rw [Int.toNat_natCast, Int.toNat_natCast]
          have ho := dopen_eq (List.take (a + n + 4) data) (a + n) (by rw [List.length_take]; omega) (by omega)
          rw [List.take_take, Nat.min_eq_left (by omega)] at ho
          rw [ho]
          cases hf : fourP (List.take (a + n) data) != List.drop (a + n) (List.take (a + n + 4) data) with
          | true => rfl
          | false =>
            have b0 : decide (4294967295 < y.2.getD 0 0) = decide (4294967296 ≤ y.2.getD 0 0) := by rw [Bool.eq_iff_iff, decide_eq_true_eq, decide_eq_true_eq]; omega
            have b1 : decide (4294967295 < y.2.getD 1 0) = decide (4294967296 ≤ y.2.getD 1 0) := by rw [Bool.eq_iff_iff, decide_eq_true_eq, decide_eq_true_eq]; omega
            rw [b0, b1]
            have hl : (List.drop y.1.toNat (List.take (a + n) data)).length ≤ 4294967296 := by rw [List.length_drop, List.length_take]; omega
            rw [fbytes_eq, fcheck_eq _ hl]
            generalize rfcheckP _ = c
            have z : ((0 : Int) != 0) = false := rfl
            rw [cond_false, z, cond_false, cond_false]
            cases decide (4294967296 ≤ y.2.getD 0 0) <;> cases decide (4294967296 ≤ y.2.getD 1 0) <;> (try rfl)
            simp only [cond_false]
            by_cases c0 : c = 0
            · subst c0; rfl
            · by_cases c4 : c = 4
              · subst c4; rfl
              · have q0 : (c == 0) = false := by simpa using c0
                have q4 : (c == 4) = false := by simpa using c4
                have q1 : (c != 0) = true := by simpa using c0
                rw [q0, q4]
                simp only [cond_false, thenS_inl]
                rw [q1]
                rfl
/-- What has been read. -/
theorem fread_ok (data : Str) (hd : data.length ≤ 9000) (h0 : (freadP data).2.2 = 0) : 0 < (freadP data).2.1 ∧ (freadP data).2.1 ≤ data.length ∧ (freadP data).1.Data.length ≤ 9000 ∧ fcheckP (freadP data).1 = 0 := by
  rw [fread_def] at h0 ⊢
  cases he : data == [] with
  | true => rw [he] at h0; exact absurd h0 (show ¬ (4 : Int) = 0 by decide)
  | false =>
    rw [he, cond_false] at h0
    rw [cond_false]
    have hq := fr_nums data hd (by simpa using he)
    cases hn : frNums data with
    | inr r =>
      rw [hn] at h0 hq
      exact absurd h0 hq
    | inl y =>
      rw [hn] at hq h0
      have hq : nums3 data y := hq
      rw [thenS_inl] at h0 ⊢
      unfold frEnd at h0 ⊢
      by_cases h16 : 16384 < y.2.getD 2 0
      · rw [decide_eq_true h16] at h0; exact absurd h0 (show ¬ (3 : Int) = 0 by decide)
      · rw [decide_eq_false h16, cond_false] at h0 ⊢
        obtain ⟨a, n, ha, hn2, k1, k2, k3, k4, k5, k6, k7, k8⟩ := nums_fin hd hq h16
        rw [k4, k5, k6] at h0 ⊢
        by_cases h5 : (data.length : Int) - 4 < ((a + n : Nat) : Int)
        · rw [decide_eq_true h5] at h0; exact absurd h0 (show ¬ (4 : Int) = 0 by decide)
        · rw [decide_eq_false h5, cond_false] at h0 ⊢
          have hl : (List.drop y.1.toNat (List.take ((a + n : Nat) : Int).toNat data)).length ≤ 9000 := by rw [List.length_drop, List.length_take]; omega
          generalize hF : Frame.mk (wrp .i64 ((data.getD 0 0).toNat : Int)) (wrp .i64 (y.2.getD 0 0)) (wrp .i64 (y.2.getD 1 0)) (List.drop y.1.toNat (List.take ((a + n : Nat) : Int).toNat data)) = F at *
          cases hd0 : (dopenP (List.take ((a + n + 4 : Nat) : Int).toNat data)).2 != 0 with
          | true => rw [hd0] at h0; exact absurd h0 (show ¬ (25 : Int) = 0 by decide)
          | false =>
            rw [hd0] at h0
            cases hd1 : decide (4294967295 < y.2.getD 0 0) with
            | true => rw [hd1] at h0; exact absurd h0 (show ¬ (6 : Int) = 0 by decide)
            | false =>
              rw [hd1] at h0
              cases hd2 : decide (4294967295 < y.2.getD 1 0) with
              | true => rw [hd2] at h0; exact absurd h0 (show ¬ (6 : Int) = 0 by decide)
              | false =>
                rw [hd2] at h0
                simp only [cond_false] at h0 ⊢
                by_cases hc : fcheckP F = 0
                · have q0 : (fcheckP F == 0) = true := by simpa using hc
                  rw [q0, cond_true] at h0 ⊢
                  cases hb : fbytesP F != List.take ((a + n + 4 : Nat) : Int).toNat data with
                  | true => rw [hb] at h0; exact absurd h0 (show ¬ (5 : Int) = 0 by decide)
                  | false =>
                    rw [cond_false]
                    refine ⟨?_, ?_, ?_, hc⟩
                    · show 0 < ((a + n + 4 : Nat) : Int); omega
                    · show ((a + n + 4 : Nat) : Int) ≤ _; omega
                    · show F.Data.length ≤ 9000
                      rw [← hF]
                      exact hl
                · have q0 : (fcheckP F == 0) = false := by simpa using hc
                  rw [q0, cond_false] at h0
                  by_cases c4 : fcheckP F = 4
                  · have q4 : (fcheckP F == 4) = true := by simpa using c4
                    rw [q4] at h0
                    exact absurd h0 (show ¬ (5 : Int) = 0 by decide)
                  · have q4 : (fcheckP F == 4) = false := by simpa using c4
                    rw [q4] at h0
                    exact absurd h0 hc
end Go.Proofs.YtcdhbdjlamikgaaGreatDoor
