/-
  Replay: frames.
-/
import Derived.Test.YtcdhbdjlamikgaaGreatDoorP
namespace Go.Proofs.YtcdhbdjlamikgaaGreatDoor
open Go.RowKit Go.Vc
set_option linter.unusedVariables false
set_option linter.unusedSimpArgs false
set_option maxRecDepth 100000

theorem wrp_u64 (n : Int) : isU64 (wrp .u64 n) := by
  unfold isU64 wrp IntKind.wrap
  simp only [IntKind.signed, IntKind.bits]
  constructor <;> (try simp) <;> (try omega)

noncomputable def fcheck (f : Frame) : Pg Int :=
  .br (decide (f.Kind < 1)) (.ret 1)
    (.br (decide (9 < f.Kind)) (.ret 1)
      (.br (!streamedP f) (.ret 1)
        (.br (!numberedP f) (.ret 1)
          (.br (!filledP f) (.ret 1)
            (.br (decide (16384 < (↑(List.length f.Data) : Int))) (.ret 3)
              (.br (decide (2147483647 < f.Stream)) (.ret 3)
                (.br (f.Kind == 1) (.ob (List.length f.Data ≤ 4294967296) (.ret (hreadP f.Data).snd))
                  (.br (f.Kind == 4) (.ob (List.length f.Data ≤ 4294967296) (.ret (stUnpackP f.Data).snd)) (.ret 0)))))))))
noncomputable def fcheckP (f : Frame) : Int := (fcheck f).val

theorem fcheck_is (f : Frame) (h : f.Data.length ≤ 4294967296) : Is (fcheck f) :=
  is_brd (fun _ => is_ret) (fun _ => is_brd (fun _ => is_ret) (fun _ => is_br (fun _ => is_ret) (fun _ => is_br (fun _ => is_ret) (fun _ => is_br (fun _ => is_ret) (fun _ => is_brd (fun _ => is_ret) (fun _ => is_brd (fun _ => is_ret) (fun _ => is_beq (fun _ => is_ob (by (try subst_vars); (try simp only [List.length_append, List.length_cons, List.length_nil]); omega) (is_ret)) (fun _ => is_beq (fun _ => is_ob (by (try subst_vars); (try simp only [List.length_append, List.length_cons, List.length_nil]); omega) (is_ret)) (fun _ => is_ret)))))))))
noncomputable def e_fcheck : Ent Z := entN Z [e_hread, e_stUnpack, e_streamed, e_numbered, e_filled] [] (args (a1 (aAgg cd_Frame))) (argsI (n := 55) rfl) (shr [.slot 0 false [none]] (l1 (cInt .i64))) [] Tryz.func58 Tryz.ntmps58 (by kernel_rfl) 1 rfl (fun a => fcheck a) (fun a => some (a.Data.length ≤ 4294967296)) (fun a e _ => by kernel_rfl) (fun a => fcheckP a) (fun a h => ⟨fcheck_is a h, rfl⟩)

noncomputable def rfcheck (f : Frame) : Pg Int :=
  .cut
    (fun (y1 : Bool) =>
      .br (decide (f.Kind < 1)) (.ret 1)
        (.br (decide (9 < f.Kind)) (.ret 1)
          (.br (!rstreamP f) (.ret 1)
            (.br (!rnumP f) (.ret 1)
              (.lt (rhreadP f.Data) fun (v2 : Head × Int) =>
                .lt (rstUnpackP f.Data) fun (v3 : Status × Int) =>
                  .br (f.Data != [])
                    (.br (!y1) (.ret 1)
                      (.br (decide (16384 < (↑(List.length f.Data) : Int))) (.ret 3)
                        (.br (decide (2147483648 ≤ f.Stream)) (.ret 3)
                          (.br (f.Kind == 1) (.ob (List.length f.Data ≤ 4294967296) (.ret v2.snd))
                            (.br (f.Kind == 4) (.ob (List.length f.Data ≤ 4294967296) (.ret v3.snd)) (.ret 0))))))
                    (.br (decide (16384 < (↑(List.length f.Data) : Int))) (.ret 3)
                      (.br (decide (2147483648 ≤ f.Stream)) (.ret 3)
                        (.br (f.Kind == 1) (.ob (List.length f.Data ≤ 4294967296) (.ret v2.snd))
                          (.br (f.Kind == 4) (.ob (List.length f.Data ≤ 4294967296) (.ret v3.snd)) (.ret 0))))))))))
    (.br (f.Kind == 1) (.ret (.inl true)) (.br (f.Kind == 2) (.ret (.inl true)) (.ret (.inl (f.Kind == 4)))))
noncomputable def rfcheckP (f : Frame) : Int := (rfcheck f).val

theorem rfcheck_is (f : Frame) (h : f.Data.length ≤ 4294967296) : Is (rfcheck f) :=
  is_cut (is_beq (fun _ => is_ret) (fun _ => is_beq (fun _ => is_ret) (fun _ => is_ret))) (fun y1 hy1 => is_brd (fun _ => is_ret) (fun _ => is_brd (fun _ => is_ret) (fun _ => is_br (fun _ => is_ret) (fun _ => is_br (fun _ => is_ret) (fun _ => is_lt fun v2 hv2 => is_lt fun v3 hv3 => is_br (fun _ => is_br (fun _ => is_ret) (fun _ => is_brd (fun _ => is_ret) (fun _ => is_brd (fun _ => is_ret) (fun _ => is_beq (fun _ => is_ob (by (try subst_vars); (try simp only [List.length_append, List.length_cons, List.length_nil]); omega) (is_ret)) (fun _ => is_beq (fun _ => is_ob (by (try subst_vars); (try simp only [List.length_append, List.length_cons, List.length_nil]); omega) (is_ret)) (fun _ => is_ret)))))) (fun _ => is_brd (fun _ => is_ret) (fun _ => is_brd (fun _ => is_ret) (fun _ => is_beq (fun _ => is_ob (by (try subst_vars); (try simp only [List.length_append, List.length_cons, List.length_nil]); omega) (is_ret)) (fun _ => is_beq (fun _ => is_ob (by (try subst_vars); (try simp only [List.length_append, List.length_cons, List.length_nil]); omega) (is_ret)) (fun _ => is_ret))))))))))
noncomputable def e_rfcheck : Ent Z := entN Z [e_rhread, e_rstUnpack, e_rstream, e_rnum] [jS 100002 (shp (fun sl => [.slot 3 false [none]]) (l1 cBool))] (args (a1 (aAgg cd_Frame))) (argsI (n := 77) rfl) (shr [.slot 0 false [none]] (l1 (cInt .i64))) [] Tryz.func72 Tryz.ntmps72 (by kernel_rfl) 1 rfl (fun a => rfcheck a) (fun a => some (a.Data.length ≤ 4294967296)) (fun a e _ => by kernel_rfl) (fun a => rfcheckP a) (fun a h => ⟨rfcheck_is a h, rfl⟩)

theorem fcheck_eq (f : Frame) (h : f.Data.length ≤ 4294967296) : fcheckP f = rfcheckP f := by
  unfold fcheckP fcheck rfcheckP rfcheck filledP filled
  simp only [val_br, val_cut, val_ob, val_lt, val_ret, streamed_eq, numbered_eq, hread_eq _ h, stUnpack_eq]
  have e1 : decide (2147483647 < f.Stream) = decide (2147483648 ≤ f.Stream) := by rw [Bool.eq_iff_iff, decide_eq_true_eq, decide_eq_true_eq]; omega
  have e2 : (f.Data != []) = !(f.Data == []) := rfl
  rw [e1, e2]
  generalize decide (2147483648 ≤ f.Stream) = b1
  generalize decide (16384 < (f.Data.length : Int)) = b2
  generalize (f.Data == []) = b3
  generalize rstreamP f = b4
  generalize rnumP f = b5
  generalize decide (f.Kind < 1) = b6
  generalize decide (9 < f.Kind) = b7
  generalize hk1 : (f.Kind == 1) = k1
  generalize hk2 : (f.Kind == 2) = k2
  generalize hk4 : (f.Kind == 4) = k4
  cases b6 <;> cases b7 <;> cases b4 <;> cases b5 <;> cases k1 <;> cases k2 <;> cases k4 <;> cases b3 <;> rfl

noncomputable def fbytes (f : Frame) : Pg (List UInt8) :=
  .ob (allN (fun (i : Nat) => true) 1 = true)
    (.lt (wrp .u64 f.Stream) fun (v1 : Int) =>
      .ob (isU64 v1)
        (.lt (wrp .u8 f.Kind) fun (v2 : Int) =>
          .lt (vputP v1) fun (v3 : Str) =>
            .ob ((txU [v2]).length + List.length v3 ≤ 9223372036854775807)
              (.lt (wrp .u64 f.Num) fun (v4 : Int) =>
                .ob (isU64 v4)
                  (.lt (txU [v2] ++ v3) fun (v5 : List UInt8) =>
                    .lt (vputP v4) fun (v6 : Str) =>
                      .ob (v5.length + List.length v6 ≤ 9223372036854775807)
                        (.lt (wrp .u64 (↑(List.length f.Data) : Int)) fun (v7 : Int) =>
                          .ob (isU64 v7)
                            (.lt (v5 ++ v6) fun (v8 : List UInt8) =>
                              .lt (vputP v7) fun (v9 : Str) =>
                                .ob (v8.length + List.length v9 ≤ 9223372036854775807)
                                  (.lt (v8 ++ v9) fun (v10 : List UInt8) =>
                                    .ob (v10.length + List.length f.Data ≤ 9223372036854775807)
                                      (.lt (v10 ++ f.Data) fun (v11 : List UInt8) =>
                                        .ob (v11.length ≤ 4294967296) (.as (List.length f.Data ≤ 9223372036854775807) (.ret (dsealP v11)))))))))))
noncomputable def fbytesP (f : Frame) : Str := (fbytes f).val

theorem fbytes_is (f : Frame) (h : f.Data.length ≤ 1073741824) : Is (fbytes f) :=
  by
  refine is_ob (allN_true (fun _ => rfl) _) (is_lt fun v1 hv1 => ?_)
  have u1 : isU64 v1 := by rw [hv1]; exact wrp_u64 _
  refine is_ob u1 (is_lt fun v2 hv2 => is_lt fun v3 hv3 => ?_)
  have l3 := put_len v1 u1
  rw [← hv3] at l3
  have e2 : (txU [v2]).length = 1 := txU_len _
  refine is_ob (by omega) (is_lt fun v4 hv4 => ?_)
  have u4 : isU64 v4 := by rw [hv4]; exact wrp_u64 _
  refine is_ob u4 (is_lt fun v5 hv5 => is_lt fun v6 hv6 => ?_)
  have l6 := put_len v4 u4
  rw [← hv6] at l6
  have e5 : v5.length = 1 + v3.length := by rw [hv5, List.length_append, e2]
  refine is_ob (by omega) (is_lt fun v7 hv7 => ?_)
  have u7 : isU64 v7 := by rw [hv7]; exact wrp_u64 _
  refine is_ob u7 (is_lt fun v8 hv8 => is_lt fun v9 hv9 => ?_)
  have l9 := put_len v7 u7
  rw [← hv9] at l9
  have e8 : v8.length = v5.length + v6.length := by rw [hv8, List.length_append]
  refine is_ob (by omega) (is_lt fun v10 hv10 => ?_)
  have e10 : v10.length = v8.length + v9.length := by rw [hv10, List.length_append]
  exact is_ob (by omega) (is_lt fun v11 hv11 => is_ob (by rw [hv11, List.length_append]; omega) (is_as fun _ => is_ret))
noncomputable def e_fbytes : Ent Z := entN Z [e_vput, e_dseal] [] (args (a1 (aAgg cd_Frame))) (argsI (n := 28) rfl) (shr [.slot 0 false [none]] (l1 cStr)) [] Tryz.func59 Tryz.ntmps59 (by kernel_rfl) 1 rfl (fun a => fbytes a) (fun a => some (a.Data.length ≤ 1073741824)) (fun a e _ => by kernel_rfl) (fun a => fbytesP a) (fun a h => ⟨fbytes_is a h, rfl⟩)

noncomputable def rfbytes (f : Frame) : Pg (List UInt8) :=
  .ob (allN (fun (i : Nat) => true) 1 = true)
    (.lt (wrp .u64 f.Stream) fun (v1 : Int) =>
      .ob (isU64 v1)
        (.lt (wrp .u8 f.Kind) fun (v2 : Int) =>
          .lt (rputP v1) fun (v3 : Str) =>
            .ob ((txU [v2]).length + List.length v3 ≤ 9223372036854775807)
              (.lt (wrp .u64 f.Num) fun (v4 : Int) =>
                .ob (isU64 v4)
                  (.lt (txU [v2] ++ v3) fun (v5 : List UInt8) =>
                    .lt (rputP v4) fun (v6 : Str) =>
                      .ob (v5.length + List.length v6 ≤ 9223372036854775807)
                        (.lt (wrp .u64 (↑(List.length f.Data) : Int)) fun (v7 : Int) =>
                          .ob (isU64 v7)
                            (.lt (v5 ++ v6) fun (v8 : List UInt8) =>
                              .lt (rputP v7) fun (v9 : Str) =>
                                .ob (v8.length + List.length v9 ≤ 9223372036854775807)
                                  (.lt (v8 ++ v9) fun (v10 : List UInt8) =>
                                    .ob (v10.length + List.length f.Data ≤ 9223372036854775807)
                                      (.as (List.length f.Data ≤ 9223372036854775807)
                                        (.lt (fourP (v10 ++ f.Data)) fun (v11 : Str) =>
                                          .lt (v10 ++ f.Data) fun (v12 : List UInt8) =>
                                            .ob (v12.length + List.length v11 ≤ 9223372036854775807) (.ret (v12 ++ v11)))))))))))
noncomputable def rfbytesP (f : Frame) : Str := (rfbytes f).val

theorem rfbytes_is (f : Frame) (h : f.Data.length ≤ 1073741824) : Is (rfbytes f) :=
  by
  refine is_ob (allN_true (fun _ => rfl) _) (is_lt fun v1 hv1 => ?_)
  have u1 : isU64 v1 := by rw [hv1]; exact wrp_u64 _
  refine is_ob u1 (is_lt fun v2 hv2 => is_lt fun v3 hv3 => ?_)
  have l3 := put_len v1 u1
  rw [put_eq _ u1, ← hv3] at l3
  have e2 : (txU [v2]).length = 1 := txU_len _
  refine is_ob (by omega) (is_lt fun v4 hv4 => ?_)
  have u4 : isU64 v4 := by rw [hv4]; exact wrp_u64 _
  refine is_ob u4 (is_lt fun v5 hv5 => is_lt fun v6 hv6 => ?_)
  have l6 := put_len v4 u4
  rw [put_eq _ u4, ← hv6] at l6
  have e5 : v5.length = 1 + v3.length := by rw [hv5, List.length_append, e2]
  refine is_ob (by omega) (is_lt fun v7 hv7 => ?_)
  have u7 : isU64 v7 := by rw [hv7]; exact wrp_u64 _
  refine is_ob u7 (is_lt fun v8 hv8 => is_lt fun v9 hv9 => ?_)
  have l9 := put_len v7 u7
  rw [put_eq _ u7, ← hv9] at l9
  have e8 : v8.length = v5.length + v6.length := by rw [hv8, List.length_append]
  refine is_ob (by omega) (is_lt fun v10 hv10 => ?_)
  have e10 : v10.length = v8.length + v9.length := by rw [hv10, List.length_append]
  refine is_ob (by omega) (is_as fun _ => is_lt fun v11 hv11 => is_lt fun v12 hv12 => is_ob ?_ is_ret)
  have e11 : v11.length = 4 := by rw [hv11, ← four_eq, low_len]
  rw [hv12, List.length_append]
  omega
noncomputable def e_rfbytes : Ent Z := entN Z [e_four, e_rput] [] (args (a1 (aAgg cd_Frame))) (argsI (n := 32) rfl) (shr [.slot 0 false [none]] (l1 cStr)) [] Tryz.func73 Tryz.ntmps73 (by kernel_rfl) 1 rfl (fun a => rfbytes a) (fun a => some (a.Data.length ≤ 1073741824)) (fun a e _ => by kernel_rfl) (fun a => rfbytesP a) (fun a h => ⟨rfbytes_is a h, rfl⟩)

theorem fbytes_eq (f : Frame) : fbytesP f = rfbytesP f := by
  unfold fbytesP fbytes rfbytesP rfbytes
  simp only [val_ob, val_lt, val_as, val_ret, put_eq _ (wrp_u64 _), dseal_eq]
theorem set_u64 {l : List Int} {i : Nat} {v : Int} (h : ∀ k, isU64 (l.getD k 0)) (hv : isU64 v) (k : Nat) : isU64 ((l.set i v).getD k 0) := by
  by_cases hk : k < l.length
  · rw [List.getD, List.getElem?_set]
    by_cases e : i = k
    · rw [if_pos e, if_pos (by omega)]
      exact hv
    · rw [if_neg e]
      exact h k
  · rw [List.getD, List.getElem?_eq_none (by rw [List.length_set]; omega)]
    exact ⟨Int.le_refl _, by decide⟩
def nums3 (data : Str) (y : Int × List Int) : Prop := 1 ≤ y.1 ∧ y.1 ≤ (data.length : Int) ∧ y.2.length = 3 ∧ ∀ k, isU64 (y.2.getD k 0)
theorem nums_next {data : Str} {y : Int × List Int} (hd : data.length ≤ 9000) (h : nums3 data y) (i : Nat) : nums3 data (wrp .i64 (y.1 + (vtakeP (List.drop y.1.toNat (List.take data.length data))).2.1), y.2.set i (vtakeP (List.drop y.1.toNat (List.take data.length data))).1) := by
  obtain ⟨h1, h2, h3, h4⟩ := h
  obtain ⟨r1, r2, r3, _⟩ := take_rng (List.drop y.1.toNat (List.take data.length data))
  rw [List.length_drop, List.take_length] at r3
  rw [wrp_in (k := .i64) (by simp only [InR, List.take_length] at *; omega)]
  exact ⟨by show 1 ≤ y.1 + _; omega, by show y.1 + _ ≤ _; simp only [List.take_length] at *; omega, by show (List.set _ _ _).length = 3; rw [List.length_set]; exact h3, set_u64 h4 r1⟩
theorem nums_start (data : Str) (h : data ≠ []) : nums3 data (1, [0, 0, 0]) := by
  refine ⟨Int.le_refl _, ?_, rfl, fun k => ?_⟩
  · show (1 : Int) ≤ _
    cases data with
    | nil => exact absurd rfl h
    | cons c r => simp only [List.length_cons]; omega
  · have key : ∀ k, ([0, 0, 0] : List Int).getD k 0 = 0 := fun k => by
      match k with
      | 0 => rfl
      | 1 => rfl
      | 2 => rfl
      | k + 3 => rfl
    rw [key]
    exact ⟨Int.le_refl _, by decide⟩
theorem nums_fin {data : Str} {y : Int × List Int} (hd : data.length ≤ 9000) (h : nums3 data y) (h2 : ¬ 16384 < y.2.getD 2 0) : ∃ (a n : Nat), y.1 = (a : Int) ∧ y.2.getD 2 0 = (n : Int) ∧ 1 ≤ a ∧ n ≤ 16384 ∧ a ≤ data.length ∧
    wrp .i64 (y.1 + wrp .i64 (y.2.getD 2 0)) = ((a + n : Nat) : Int) ∧ wrp .i64 ((data.length : Int) - 4) = (data.length : Int) - 4 ∧ wrp .i64 (((a + n : Nat) : Int) + 4) = ((a + n + 4 : Nat) : Int) ∧ wrp .i64 (wrp .i64 (y.2.getD 2 0) + 4) = ((n + 4 : Nat) : Int) ∧ wrp .i64 ((data.length : Int) - y.1) = (data.length : Int) - (a : Int) := by
  obtain ⟨q1, q2, q3, q4⟩ := h
  obtain ⟨p1, p2⟩ := q4 2
  obtain ⟨n, hn⟩ : ∃ n : Nat, y.2.getD 2 0 = (n : Int) := ⟨(y.2.getD 2 0).toNat, by omega⟩
  obtain ⟨a, ha⟩ : ∃ a : Nat, y.1 = (a : Int) := ⟨y.1.toNat, by omega⟩
  have w : wrp .i64 (n : Int) = (n : Int) := wrp_in (k := .i64) (by simp only [InR]; omega)
  refine ⟨a, n, ha, hn, by omega, by omega, by omega, ?_, ?_, ?_, ?_, ?_⟩
  · rw [hn, w, ha]; exact wrp_in (k := .i64) (by simp only [InR]; omega)
  · exact wrp_in (k := .i64) (by simp only [InR]; omega)
  · exact wrp_in (k := .i64) (by simp only [InR]; omega)
  · rw [hn, w]; exact wrp_in (k := .i64) (by simp only [InR]; omega)
  · rw [ha]; exact wrp_in (k := .i64) (by simp only [InR]; omega)

noncomputable def fread (data : Str) : Pg (Frame × Int × Int) :=
  .br (data == []) (.ret (Frame.mk 0 0 0 [], 0, 4))
    (.cut
      (fun (y3 : Int × List Int) =>
        .ob ((0 : Int) ≤ 2 ∧ (2 : Int) < 3)
          (.ob (2 < y3.snd.length)
            (.br (decide (16384 < y3.snd.getD 2 0)) (.ret (Frame.mk 0 0 0 [], 0, 3))
              (.ob ((0 : Int) ≤ 2 ∧ (2 : Int) < 3)
                (.ob (2 < y3.snd.length)
                  (.lt (wrp .i64 (y3.fst + wrp .i64 (y3.snd.getD 2 0))) fun (v4 : Int) =>
                    .lt (wrp .i64 ((↑(List.length data) : Int) - 4)) fun (v5 : Int) =>
                      .br (decide (v5 < v4)) (.ret (Frame.mk 0 0 0 [], 0, 4))
                        (.lt (wrp .i64 (v4 + 4)) fun (v6 : Int) =>
                          .ob ((0 : Int) ≤ 0 ∧ 0 ≤ v6 ∧ v6 ≤ (↑(List.length data) : Int))
                            (.ob ((List.take v6.toNat data).length ≤ 4294967296)
                              (.br ((dopenP (List.take v6.toNat data)).snd != 0) (.ret (Frame.mk 0 0 0 [], 0, 25))
                                (.ob ((0 : Int) ≤ 0 ∧ (0 : Int) < 3)
                                  (.ob (0 < y3.snd.length)
                                    (.br (decide (4294967295 < y3.snd.getD 0 0)) (.ret (Frame.mk 0 0 0 [], 0, 6))
                                      (.ob ((0 : Int) ≤ 1 ∧ (1 : Int) < 3)
                                        (.ob (1 < y3.snd.length)
                                          (.br (decide (4294967295 < y3.snd.getD 1 0))
                                            (.ret (Frame.mk 0 0 0 [], 0, 6))
                                            (.ix 0 (List.length data)
                                              (.ob ((0 : Int) ≤ 0 ∧ (0 : Int) < 3)
                                                (.ob (0 < y3.snd.length)
                                                  (.ob ((0 : Int) ≤ 1 ∧ (1 : Int) < 3)
                                                    (.ob (1 < y3.snd.length)
                                                      (.ob (0 ≤ y3.fst ∧ y3.fst ≤ v4 ∧ v4 ≤ (↑(List.length data) : Int))
                                                        (.lt (List.drop y3.fst.toNat (List.take v4.toNat data)) fun (v7 : List UInt8) =>
                                                          .ob (v7.length ≤ 4294967296)
                                                            (.lt
                                                              (fcheckP
                                                                (Frame.mk (wrp .i64 (↑(List.getD data 0 0).toNat : Int))
                                                                  (wrp .i64 (y3.snd.getD 0 0)) (wrp .i64 (y3.snd.getD 1 0)) v7))
                                                              fun (v8 : Int) =>
                                                              .br (v8 == 0)
                                                                (.ob (v7.length ≤ 1073741824)
                                                                  (.ob ((0 : Int) ≤ 0 ∧ 0 ≤ v6 ∧ v6 ≤ (↑(List.length data) : Int))
                                                                    (.lt (wrp .i64 (↑(List.getD data 0 0).toNat : Int)) fun (v9 : Int) =>
                                                                      .lt (wrp .i64 (y3.snd.getD 0 0)) fun (v10 : Int) =>
                                                                        .lt (wrp .i64 (y3.snd.getD 1 0)) fun (v11 : Int) =>
                                                                          .br (fbytesP (Frame.mk v9 v10 v11 v7) != List.take v6.toNat data)
                                                                            (.ret (Frame.mk 0 0 0 [], 0, 5))
                                                                            (.ret (Frame.mk v9 v10 v11 v7, v6, 0)))))
                                                                (.br (v8 == 4) (.ret (Frame.mk 0 0 0 [], 0, 5))
                                                                  (.ret (Frame.mk 0 0 0 [], 0, v8))))))))))))))))))))))))))
      (.cnt ixP 0 3
        (fun (i1 : Int) (y2 : Int × List Int) =>
          .ob (0 ≤ y2.fst ∧ y2.fst ≤ (↑(List.length data) : Int) ∧ (↑(List.length data) : Int) ≤ (↑(List.length data) : Int))
            (.lt (vtakeP (List.drop y2.fst.toNat (List.take (List.length data) data))) fun (v12 : Int × Int × Int) =>
              .br (v12.snd.snd != 0) (.ret (.inr (.inr (Frame.mk 0 0 0 [], 0, v12.snd.snd))))
                (.ob (0 ≤ i1 ∧ i1 < 3)
                  (.ob (i1.toNat < y2.snd.length) (.ret (.inl (wrp .i64 (y2.fst + v12.snd.fst), y2.snd.set i1.toNat v12.fst)))))))
        (fun (i1 : Int) (y2 : Int × List Int) => .ret (.inl y2)) (1, [0, 0, 0])))
noncomputable def freadP (data : Str) : Frame × Int × Int := (fread data).val

theorem fread_is (data : Str) (h : data.length ≤ 9000) : Is (fread data) :=
  by
  refine IsP.is (Q := fun _ => True) (isP_br (fun _ => isP_ret trivial) (fun hne => isP_cut (nums3 data) ?_ (fun y3 hy3 => ?_)))
  · refine isP_cnt (fun i y => 0 ≤ i ∧ nums3 data y) ⟨Int.le_refl _, nums_start data (by simpa using hne)⟩ (by decide) (by decide) (fun i y h1 h2 hI => ?_) (fun i y _ _ hI => isP_ret hI.2)
    have hn := nums_next h hI.2 i.toNat
    obtain ⟨hi, q1, q2, q3, q4⟩ := hI
    refine isP_ob (by omega) (isP_lt fun v12 hv12 => isP_bne (fun _ => isP_ret trivial) (fun _ => isP_ob (by omega) (isP_ob (by omega) (isP_ret ?_))))
    subst hv12
    exact ⟨by omega, hn⟩
  · have hq := hy3
    obtain ⟨q1, q2, q3, q4⟩ := hy3
    refine isP_ob (by omega) (isP_ob (by omega) (isP_brd (fun _ => isP_ret trivial) (fun h16 => isP_ob (by omega) (isP_ob (by omega) (isP_lt fun v4 hv4 => isP_lt fun v5 hv5 => isP_brd (fun _ => isP_ret trivial) (fun h5 => isP_lt fun v6 hv6 => ?_))))))
    obtain ⟨a, n, ha, hn, k1, k2, k3, k4, k5, k6, _, _⟩ := nums_fin h hq h16
    rw [k4] at hv4
    rw [k5] at hv5
    rw [hv4, k6] at hv6
    refine isP_ob (by omega) (isP_ob (by rw [List.length_take]; omega) (isP_bne (fun _ => isP_ret trivial) (fun _ => isP_ob (by omega) (isP_ob (by omega) (isP_brd (fun _ => isP_ret trivial) (fun _ => isP_ob (by omega) (isP_ob (by omega) (isP_brd (fun _ => isP_ret trivial) (fun _ => isP_ix (by omega) (by omega) (isP_ob (by omega) (isP_ob (by omega) (isP_ob (by omega) (isP_ob (by omega) (isP_ob (by omega) (isP_lt fun v7 hv7 => ?_)))))))))))))))
    have l7 : v7.length ≤ 9000 := by rw [hv7, List.length_drop, List.length_take]; omega
    refine isP_ob (by omega) (isP_lt fun v8 hv8 => isP_beq (fun _ => isP_ob (by omega) (isP_ob (by omega) (isP_lt fun v9 hv9 => isP_lt fun v10 hv10 => isP_lt fun v11 hv11 => ?_))) (fun _ => isP_beq (fun _ => isP_ret trivial) (fun _ => isP_ret trivial)))
    exact (isP_bne (fun _ => isP_ret trivial) (fun _ => isP_ret trivial))
noncomputable def e_fread : Ent Z := entN Z [e_fcheck, e_fbytes, e_vtake, e_dopen] [jS 6 (shp (fun sl => [.slot 19 false [none], .slot 6 false [none], .row (pid (sl 5)) 168]) (lCons (cInt .i64) (lCons (cInt .i64) (l1 cd_Lu64)))), jS 100014 (shp (fun sl => [.slot 6 false [none], .row (pid (sl 5)) 168]) (lCons (cInt .i64) (l1 cd_Lu64)))] (args (a1 (aLf cStr))) (argsI (n := 111) rfl) (shr [.slot 0 true [none, none, none, none], .slot 1 false [none], .slot 2 false [none]] (lCons cd_Frame (lCons (cInt .i64) (l1 (cInt .i64))))) [] Tryz.func32 Tryz.ntmps32 (by kernel_rfl) 3 rfl (fun a => fread a) (fun a => some (a.length ≤ 9000)) (fun a e _ => by kernel_rfl) (fun a => freadP a) (fun a h => ⟨fread_is a h, rfl⟩)

noncomputable def rfread (data : Str) : Pg (Frame × Int × Int) :=
  .br (data == []) (.ret (Frame.mk 0 0 0 [], 0, 4))
    (.cut
      (fun (y3 : Int × List Int) =>
        .ob ((0 : Int) ≤ 2 ∧ (2 : Int) < 3)
          (.ob (2 < y3.snd.length)
            (.br (decide (16384 < y3.snd.getD 2 0)) (.ret (Frame.mk 0 0 0 [], 0, 3))
              (.ob ((0 : Int) ≤ 2 ∧ (2 : Int) < 3)
                (.ob (2 < y3.snd.length)
                  (.ob ((0 : Int) ≤ 2 ∧ (2 : Int) < 3)
                    (.ob (2 < y3.snd.length)
                      (.as (List.length data ≤ 9223372036854775807)
                        (.lt (wrp .i64 (wrp .i64 (y3.snd.getD 2 0) + 4)) fun (v5 : Int) =>
                          .lt (wrp .i64 ((↑(List.length data) : Int) - y3.fst)) fun (v6 : Int) =>
                            .br (decide (v6 < v5)) (.ret (Frame.mk 0 0 0 [], 0, 4))
                              (.lt (wrp .i64 (y3.fst + wrp .i64 (y3.snd.getD 2 0))) fun (v7 : Int) =>
                                .ob ((0 : Int) ≤ 0 ∧ 0 ≤ v7 ∧ v7 ≤ (↑(List.length data) : Int))
                                  (.lt (wrp .i64 (v7 + 4)) fun (v8 : Int) =>
                                    .ob (0 ≤ v7 ∧ v7 ≤ v8 ∧ v8 ≤ (↑(List.length data) : Int))
                                      (.br (fourP (List.take v7.toNat data) != List.drop v7.toNat (List.take v8.toNat data))
                                        (.ret (Frame.mk 0 0 0 [], 0, 25))
                                        (.ob ((0 : Int) ≤ 0 ∧ (0 : Int) < 3)
                                          (.ob (0 < y3.snd.length)
                                            (.br (decide (4294967296 ≤ y3.snd.getD 0 0))
                                              (.ret (Frame.mk 0 0 0 [], 0, 6))
                                              (.ob ((0 : Int) ≤ 1 ∧ (1 : Int) < 3)
                                                (.ob (1 < y3.snd.length)
                                                  (.br (decide (4294967296 ≤ y3.snd.getD 1 0))
                                                    (.ret (Frame.mk 0 0 0 [], 0, 6))
                                                    (.ix 0 (List.length data)
                                                      (.ob ((0 : Int) ≤ 0 ∧ (0 : Int) < 3)
                                                        (.ob (0 < y3.snd.length)
                                                          (.ob ((0 : Int) ≤ 1 ∧ (1 : Int) < 3)
                                                            (.ob (1 < y3.snd.length)
                                                              (.ob (0 ≤ y3.fst ∧ y3.fst ≤ v7 ∧ v7 ≤ (↑(List.length data) : Int))
                                                                (.lt (List.drop y3.fst.toNat (List.take v7.toNat data)) fun (v9 : List UInt8) =>
                                                                  .ob (v9.length ≤ 4294967296)
                                                                    (.lt (wrp .i64 (↑(List.getD data 0 0).toNat : Int)) fun (v10 : Int) =>
                                                                      .lt (wrp .i64 (y3.snd.getD 0 0)) fun (v11 : Int) =>
                                                                        .lt (wrp .i64 (y3.snd.getD 1 0)) fun (v12 : Int) =>
                                                                          .cut
                                                                            (fun (y4 : Int) =>
                                                                              .br (y4 != 0) (.ret (Frame.mk 0 0 0 [], 0, y4))
                                                                                (.ob (v9.length ≤ 1073741824)
                                                                                  (.ob ((0 : Int) ≤ 0 ∧ 0 ≤ v8 ∧ v8 ≤ (↑(List.length data) : Int))
                                                                                    (.br (rfbytesP (Frame.mk v10 v11 v12 v9) != List.take v8.toNat data)
                                                                                      (.ret (Frame.mk 0 0 0 [], 0, 5))
                                                                                      (.ret (Frame.mk v10 v11 v12 v9, v8, 0))))))
                                                                            (.lt (rfcheckP (Frame.mk v10 v11 v12 v9)) fun (v13 : Int) =>
                                                                              .br (v13 == 4) (.ret (.inl 5)) (.ret (.inl v13)))))))))))))))))))))))))))))
      (.cnt ixP 0 3
        (fun (i1 : Int) (y2 : Int × List Int) =>
          .ob (0 ≤ y2.fst ∧ y2.fst ≤ (↑(List.length data) : Int) ∧ (↑(List.length data) : Int) ≤ (↑(List.length data) : Int))
            (.lt (rtakeP (List.drop y2.fst.toNat (List.take (List.length data) data))) fun (v14 : Int × Int × Int) =>
              .br (v14.snd.snd != 0) (.ret (.inr (.inr (Frame.mk 0 0 0 [], 0, v14.snd.snd))))
                (.ob (0 ≤ i1 ∧ i1 < 3)
                  (.ob (i1.toNat < y2.snd.length) (.ret (.inl (wrp .i64 (y2.fst + v14.snd.fst), y2.snd.set i1.toNat v14.fst)))))))
        (fun (i1 : Int) (y2 : Int × List Int) => .ret (.inl y2)) (1, [0, 0, 0])))
noncomputable def rfreadP (data : Str) : Frame × Int × Int := (rfread data).val

theorem rfread_is (data : Str) (h : data.length ≤ 9000) : Is (rfread data) :=
  by
  refine IsP.is (Q := fun _ => True) (isP_br (fun _ => isP_ret trivial) (fun hne => isP_cut (nums3 data) ?_ (fun y3 hy3 => ?_)))
  · refine isP_cnt (fun i y => 0 ≤ i ∧ nums3 data y) ⟨Int.le_refl _, nums_start data (by simpa using hne)⟩ (by decide) (by decide) (fun i y h1 h2 hI => ?_) (fun i y _ _ hI => isP_ret hI.2)
    have hn := nums_next h hI.2 i.toNat
    obtain ⟨hi, q1, q2, q3, q4⟩ := hI
    refine isP_ob (by omega) (isP_lt fun v12 hv12 => isP_bne (fun _ => isP_ret trivial) (fun _ => isP_ob (by omega) (isP_ob (by omega) (isP_ret ?_))))
    rw [← take_eq] at hv12
    subst hv12
    exact ⟨by omega, hn⟩
  · have hq := hy3
    obtain ⟨q1, q2, q3, q4⟩ := hy3
    refine isP_ob (by omega) (isP_ob (by omega) (isP_brd (fun _ => isP_ret trivial) (fun h16 => isP_ob (by omega) (isP_ob (by omega) (isP_ob (by omega) (isP_ob (by omega) (isP_as <| isP_lt fun v5 hv5 => isP_lt fun v6 hv6 => isP_brd (fun _ => isP_ret trivial) (fun h5 => isP_lt fun v7 hv7 => ?_))))))))
    obtain ⟨a, n, ha, hn, k1, k2, k3, k4, k5, k6, k7, k8⟩ := nums_fin h hq h16
    rw [k7] at hv5
    rw [k8] at hv6
    rw [k4] at hv7
    refine isP_ob (by omega) (isP_lt fun v8 hv8 => ?_)
    rw [hv7, k6] at hv8
    refine isP_ob (by omega) (isP_bne (fun _ => isP_ret trivial) (fun _ => isP_ob (by omega) (isP_ob (by omega) (isP_brd (fun _ => isP_ret trivial) (fun _ => isP_ob (by omega) (isP_ob (by omega) (isP_brd (fun _ => isP_ret trivial) (fun _ => isP_ix (by omega) (by omega) (isP_ob (by omega) (isP_ob (by omega) (isP_ob (by omega) (isP_ob (by omega) (isP_ob (by omega) (isP_lt fun v9 hv9 => ?_))))))))))))))
    have l9 : v9.length ≤ 9000 := by rw [hv9, List.length_drop, List.length_take]; omega
    exact isP_ob (by omega) (isP_lt fun v10 hv10 => isP_lt fun v11 hv11 => isP_lt fun v12 hv12 => isP_cut (fun _ => True) (isP_lt fun v13 hv13 => isP_beq (fun _ => isP_ret trivial) (fun _ => isP_ret trivial)) (fun y4 _ => isP_bne (fun _ => isP_ret trivial) (fun _ => isP_ob (by omega) (isP_ob (by omega) (isP_bne (fun _ => isP_ret trivial) (fun _ => isP_ret trivial))))))
noncomputable def e_rfread : Ent Z := entN Z [e_rtake, e_four, e_rfcheck, e_rfbytes] [jS 6 (shp (fun sl => [.slot 7 false [none], .slot 5 false [none], .row (pid (sl 6)) 168]) (lCons (cInt .i64) (lCons (cInt .i64) (l1 cd_Lu64)))), jS 100013 (shp (fun sl => [.slot 5 false [none], .row (pid (sl 6)) 168]) (lCons (cInt .i64) (l1 cd_Lu64))), jS 100026 (shp (fun sl => [.slot 13 false [none]]) (l1 (cInt .i64)))] (args (a1 (aLf cStr))) (argsI (n := 111) rfl) (shr [.slot 0 true [none, none, none, none], .slot 1 false [none], .slot 2 false [none]] (lCons cd_Frame (lCons (cInt .i64) (l1 (cInt .i64))))) [] Tryz.func36 Tryz.ntmps36 (by kernel_rfl) 3 rfl (fun a => rfread a) (fun a => some (a.length ≤ 9000)) (fun a e _ => by kernel_rfl) (fun a => rfreadP a) (fun a h => ⟨rfread_is a h, rfl⟩)
end Go.Proofs.YtcdhbdjlamikgaaGreatDoor
