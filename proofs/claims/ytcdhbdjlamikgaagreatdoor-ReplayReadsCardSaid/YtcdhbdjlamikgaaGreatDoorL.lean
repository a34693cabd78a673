/-
  Replay: parts of heads, taken.
-/
import Derived.Test.YtcdhbdjlamikgaaGreatDoorK
namespace Go.Proofs.YtcdhbdjlamikgaaGreatDoor
open Go.RowKit Go.Vc
set_option linter.unusedVariables false
set_option linter.unusedSimpArgs false
set_option maxRecDepth 100000

theorem txI_app (a b : List UInt8) : txI (a ++ b) = txI a ++ txI b := by unfold txI; rw [List.map_append]

noncomputable def rhead (hd : Head) : Pg (List UInt8 × Int) :=
  .ob (okHead hd)
    (.lt (rheadedP hd) fun (v4 : Int) =>
      .br (v4 != 0) (.ret ([], v4))
        (.ob (List.length hd.Service ≤ 4294967296)
          (.ob (List.length hd.Method ≤ 4294967296)
            (.lt (rtextP hd.Service) fun (v5 : Str) =>
              .lt (rtextP hd.Method) fun (v6 : Str) =>
                .ob (List.length v5 + List.length v6 ≤ 9223372036854775807)
                  (.lt (wrp .u64 hd.Deadline) fun (v7 : Int) =>
                    .ob (isU64 v7)
                      (.lt (v5 ++ v6) fun (v8 : List UInt8) =>
                        .lt (rputP v7) fun (v9 : Str) =>
                          .ob (v8.length + List.length v9 ≤ 9223372036854775807)
                            (.lt (wrp .u64 (↑hd.Metas.length : Int)) fun (v10 : Int) =>
                              .ob (isU64 v10)
                                (.lt (v8 ++ v9) fun (v11 : List UInt8) =>
                                  .lt (rputP v10) fun (v12 : Str) =>
                                    .ob (v11.length + List.length v12 ≤ 9223372036854775807)
                                      (.as (hd.Metas.length ≤ 9223372036854775807)
                                        (.each true ixP hd.Metas d_Meta
                                          (fun (i1 : Int) (a3 : AMeta) (y2 : List UInt8) =>
                                            .ix i1 hd.Metas.length
                                              (.ob (List.length a3.Key ≤ 4294967296)
                                                (.ix i1 hd.Metas.length
                                                  (.ob (List.length a3.Val ≤ 4294967296)
                                                    (.lt (rtextP a3.Key) fun (v13 : Str) =>
                                                      .lt (rtextP a3.Val) fun (v14 : Str) =>
                                                        .ob (List.length v13 + List.length v14 ≤ 9223372036854775807)
                                                          (.lt (v13 ++ v14) fun (v15 : List UInt8) =>
                                                            .ob (y2.length + v15.length ≤ 9223372036854775807) (.ret (.inl (y2 ++ v15)))))))))
                                          (fun (i1 : Int) (y2 : List UInt8) => .ret (y2, 0)) (v11 ++ v12)))))))))))
noncomputable def rheadP (hd : Head) : Str × Int := (rhead hd).val

theorem rhead_is (hd : Head) (h : okHead hd) : Is (rhead hd) :=
  by
  refine is_ob h (is_lt fun v4 hv4 => is_bne (fun _ => is_ret) fun h0 => ?_)
  obtain ⟨q1, q2, q3, q4, q5, q6⟩ := headed_ok hd (by rw [headed_eq, ← hv4]; exact h0)
  have l1 := sized_len hd.Service (by omega)
  have l2 := sized_len hd.Method (by omega)
  rw [sized_eq _ (by omega)] at l1 l2
  obtain ⟨D, hD⟩ : ∃ D : Nat, hd.Deadline = (D : Int) := ⟨hd.Deadline.toNat, by omega⟩
  have w1 : wrp .u64 hd.Deadline = hd.Deadline := by rw [hD]; exact wrp_of (k := .u64) rfl (show D < 2 ^ 64 by omega)
  have u1 : isU64 (wrp .u64 hd.Deadline) := by rw [w1]; exact ⟨q3, by omega⟩
  have u2 := wl64 hd.Metas.length (by omega)
  have l3 := put_len _ u1
  have l4 := put_len _ u2
  rw [put_eq _ u1] at l3
  rw [put_eq _ u2] at l4
  refine is_ob (by omega) (is_ob (by omega) (is_lt fun v5 hv5 => is_lt fun v6 hv6 => ?_))
  subst hv5 hv6
  refine is_ob (by omega) (is_lt fun v7 hv7 => ?_)
  subst hv7
  refine is_ob u1 (is_lt fun v8 hv8 => is_lt fun v9 hv9 => ?_)
  subst hv9
  have e8 : v8.length = (rtextP hd.Service).length + (rtextP hd.Method).length := by rw [hv8, List.length_append]
  refine is_ob (by omega) (is_lt fun v10 hv10 => ?_)
  subst hv10
  refine is_ob u2 (is_lt fun v11 hv11 => is_lt fun v12 hv12 => ?_)
  subst hv12
  have e11 : v11.length = v8.length + (rputP (wrp .u64 hd.Deadline)).length := by rw [hv11, List.length_append]
  refine is_ob (by omega) (is_as fun _ => is_eachI (fun k y => y.length ≤ 300 + 300 * k) (by rw [List.length_append]; omega) (.inr (by omega)) (fun i1 y2 h1 hm hI => ?_) (fun y2 _ hI => is_ret))
  have hI : y2.length ≤ 300 + 300 * i1 := hI
  obtain ⟨k1, k2⟩ := q6 _ (getD_mem (d := d_Meta) h1)
  have m1 := sized_len (hd.Metas.getD i1 d_Meta).Key (by omega)
  have m2 := sized_len (hd.Metas.getD i1 d_Meta).Val (by omega)
  rw [sized_eq _ (by omega)] at m1 m2
  refine ⟨is_ix (by omega) (by omega) (is_ob (by omega) (is_ix (by omega) (by omega) (is_ob (by omega) (is_lt fun v14 hv14 => is_lt fun v15 hv15 => ?_)))), fun y' hy' => ?_⟩
  · subst hv14 hv15
    exact is_ob (by omega) (is_lt fun v16 hv16 => is_ob (by rw [hv16, List.length_append]; omega) is_ret)
  · simp only [val_ix, val_ob, val_lt, val_ret] at hy'
    injection hy' with hy'
    subst hy'
    show (y2 ++ _).length ≤ _
    rw [List.length_append, List.length_append]
    omega
noncomputable def e_rhead : Ent Z := entN Z [e_rput, e_rheaded, e_rtext] [jS 6 (shp (fun sl => [.slot 6 false [none], .slot 5 false [none]]) (lCons (cInt .i64) (l1 cStr)))] (args (a1 (aAgg cd_Head))) (argsI (n := 55) rfl) (shr [.slot 0 false [none], .slot 1 false [none]] (lCons cStr (l1 (cInt .i64)))) [] Tryz.func75 Tryz.ntmps75 (by kernel_rfl) 2 rfl (fun a => rhead a) (fun a => some (okHead a)) (fun a e _ => by kernel_rfl) (fun a => rheadP a) (fun a h => ⟨rhead_is a h, rfl⟩)

theorem fhead_eq (hd : Head) (h : okHead hd) : fheadP hd = rheadP hd := by
  unfold fheadP fhead rheadP rhead
  simp only [val_lt, val_br, val_ob, val_as, val_each, val_ix, val_ret, headed_eq]
  by_cases h0 : rheadedP hd = 0
  · rw [h0]
    obtain ⟨q1, q2, q3, q4, q5, q6⟩ := headed_ok hd (by rw [headed_eq]; exact h0)
    obtain ⟨D, hD⟩ : ∃ D : Nat, hd.Deadline = (D : Int) := ⟨hd.Deadline.toNat, by omega⟩
    have w1 : wrp .u64 hd.Deadline = hd.Deadline := by rw [hD]; exact wrp_of (k := .u64) rfl (show D < 2 ^ 64 by omega)
    have u1 : isU64 (wrp .u64 hd.Deadline) := by rw [w1]; exact ⟨q3, by omega⟩
    have u2 := wl64 hd.Metas.length (by omega)
    rw [sized_eq _ h.1, sized_eq _ h.2.1, put_eq _ u1, put_eq _ u2]
    have key : ∀ (l : List AMeta) (k : Nat) (z : List UInt8), (∀ m ∈ l, m.Key.length ≤ 4294967296 ∧ m.Val.length ≤ 4294967296) →
        forE (fun (_ : Nat) (a3 : AMeta) (y2 : List Int) => (Sum.inl (y2 ++ txI (sizedP a3.Key ++ sizedP a3.Val)) : List Int ⊕ (List UInt8 × Int))) (fun (_ : Nat) (y2 : List Int) => (txU y2, (0 : Int))) l k (txI z) =
        forE (fun (_ : Nat) (a3 : AMeta) (y2 : List UInt8) => (Sum.inl (y2 ++ (rtextP a3.Key ++ rtextP a3.Val)) : List UInt8 ⊕ (List UInt8 × Int))) (fun (_ : Nat) (y2 : List UInt8) => (y2, (0 : Int))) l k z := by
      intro l
      induction l with
      | nil => intro k z _; show (txU (txI z), (0 : Int)) = (z, 0); rw [txU_txI]
      | cons a l ih =>
        intro k z hm
        unfold forE
        obtain ⟨k1, k2⟩ := hm a (by simp)
        simp only
        rw [← txI_app, sized_eq _ k1, sized_eq _ k2]
        exact ih (k + 1) _ fun m hm' => hm m (by simp [hm'])
    exact key hd.Metas 0 _ h.2.2.2
  · have : (rheadedP hd != 0) = true := by simpa using h0
    rw [this]
    rfl
theorem rhead_len (hd : Head) (h : okHead hd) : True := trivial

noncomputable def tnum (t : frame_taker) : Pg (Int × frame_taker) :=
  .br (t.errno != 0) (.ret (0, t))
    (.lt (vtakeP t.s) fun (v1 : Int × Int × Int) =>
      .ob (0 ≤ v1.snd.fst ∧ v1.snd.fst ≤ (↑(List.length t.s) : Int) ∧ (↑(List.length t.s) : Int) ≤ (↑(List.length t.s) : Int))
        (.ret (v1.fst, frame_taker.mk (List.drop v1.snd.fst.toNat (List.take (List.length t.s) t.s)) v1.snd.snd)))
noncomputable def tnumP (t : frame_taker) : Int × frame_taker := (tnum t).val

theorem tnum_is (t : frame_taker) : Is (tnum t) :=
  is_bne (fun _ => is_ret) (fun _ => is_lt fun v1 hv1 => is_ob (by have := take_rng t.s; rw [hv1]; omega) is_ret)
noncomputable def e_tnum : Ent Z := entN Z [e_vtake] [] (argsB (a1 (aPtr 0)) (b1 (bCells cd_frame_taker))) (argsBI (n := 34) rfl) (shr [.slot 0 false [none], .cells 0 [none, none]] (lCons (cInt .u64) (l1 cd_frame_taker))) [] Tryz.func68 Tryz.ntmps68 (by kernel_rfl) 1 rfl (fun a => tnum (a.2)) (fun a => none) (fun a e _ => by kernel_rfl) (fun a => tnumP (a.2)) (fun a h => ⟨tnum_is (a.2), rfl⟩)

theorem tnum_bad (t : frame_taker) (h : t.errno ≠ 0) : tnumP t = (0, t) := by
  unfold tnumP tnum
  simp only [val_br, val_lt, val_ob, val_ret]
  have : (t.errno != 0) = true := by simpa using h
  rw [this]
  rfl
theorem tnum_ok (t : frame_taker) (h : t.errno = 0) : tnumP t = ((rtakeP t.s).1, frame_taker.mk (t.s.drop (rtakeP t.s).2.1.toNat) (rtakeP t.s).2.2) := by
  unfold tnumP tnum
  simp only [val_br, val_lt, val_ob, val_ret, ← take_eq]
  have : (t.errno != 0) = false := by rw [h]; rfl
  rw [this, cond_false, List.take_length]
theorem tnum_rng (t : frame_taker) : 0 ≤ (tnumP t).1 ∧ (tnumP t).1 < 18446744073709551616 ∧ (tnumP t).2.s.length ≤ t.s.length := by
  by_cases h : t.errno = 0
  · rw [tnum_ok t h, ← take_eq]
    have := (take_rng t.s).1
    exact ⟨this.1, this.2, by rw [List.length_drop]; omega⟩
  · rw [tnum_bad t h]
    exact ⟨Int.le_refl _, by show (0 : Int) < _; decide, Nat.le_refl _⟩

noncomputable def ttext (t : frame_taker) : Pg (List UInt8 × frame_taker) :=
  .lt (tnumP t) fun (v2 : Int × frame_taker) =>
    .cut
      (fun (y1 : frame_taker) =>
        .br (y1.errno != 0) (.ret ([], y1))
          (.ob ((0 : Int) ≤ 0 ∧ 0 ≤ v2.fst ∧ v2.fst ≤ (↑(List.length y1.s) : Int))
            (.ob (0 ≤ v2.fst ∧ v2.fst ≤ (↑(List.length y1.s) : Int) ∧ (↑(List.length y1.s) : Int) ≤ (↑(List.length y1.s) : Int))
              (.ret (List.take v2.fst.toNat y1.s, frame_taker.mk (List.drop v2.fst.toNat (List.take (List.length y1.s) y1.s)) y1.errno)))))
      (.br (v2.snd.errno == 0)
        (.as (List.length v2.snd.s ≤ 9223372036854775807)
          (.lt (wrp .u64 (↑(List.length v2.snd.s) : Int)) fun (v3 : Int) =>
            .br (decide (v3 < v2.fst)) (.ret (.inl (frame_taker.mk v2.snd.s 4))) (.ret (.inl v2.snd))))
        (.ret (.inl v2.snd)))
noncomputable def ttextP (t : frame_taker) : Str × frame_taker := (ttext t).val

theorem ttext_is (t : frame_taker) (h : t.s.length ≤ 4294967296) : Is (ttext t) :=
  by
  refine is_lt fun v2 hv2 => is_cut (is_beq (fun _ => is_as fun _ => is_lt fun v3 hv3 => is_brd (fun _ => is_ret) (fun _ => is_ret)) (fun _ => is_ret)) (fun y1 hy1 => is_bne (fun _ => is_ret) fun h0 => ?_)
  obtain ⟨r1, r2, r3⟩ := tnum_rng t
  rw [← hv2] at r1 r2 r3
  have key : v2.1 ≤ y1.s.length := by
    revert hy1
    simp only [val_br, val_as, val_lt, val_ret, wl v2.2.s.length (by omega)]
    by_cases e1 : v2.2.errno = 0
    · rw [e1]
      by_cases e2 : (v2.2.s.length : Int) < v2.1
      · rw [decide_eq_true e2]
        intro e
        injection e with e
        subst e
        cases h0
      · rw [decide_eq_false e2]
        intro e
        injection e with e
        subst e
        omega
    · have : (v2.2.errno == 0) = false := by simpa using e1
      rw [this]
      intro e
      injection e with e
      subst e
      exact absurd h0 e1
  exact is_ob (by omega) (is_ob (by omega) is_ret)
noncomputable def e_ttext : Ent Z := entN Z [e_tnum] [jS 100004 (shp (fun sl => [.cells (pid (sl 0)) [none, none]]) (l1 cd_frame_taker))] (argsB (a1 (aPtr 0)) (b1 (bCells cd_frame_taker))) (argsBI (n := 46) rfl) (shr [.slot 0 false [none], .cells 0 [none, none]] (lCons cStr (l1 cd_frame_taker))) [] Tryz.func67 Tryz.ntmps67 (by kernel_rfl) 1 rfl (fun a => ttext (a.2)) (fun a => some ((a.2).s.length ≤ 4294967296)) (fun a e _ => by kernel_rfl) (fun a => ttextP (a.2)) (fun a h => ⟨ttext_is (a.2) h, rfl⟩)

noncomputable def rtake44 (s : Str) : Pg (List UInt8 × List UInt8 × Int) :=
  .lt (rtakeP s) fun (v1 : Int × Int × Int) =>
    .br (v1.snd.snd != 0) (.ret ([], [], v1.snd.snd))
      (.ob (0 ≤ v1.snd.fst ∧ v1.snd.fst ≤ (↑(List.length s) : Int) ∧ (↑(List.length s) : Int) ≤ (↑(List.length s) : Int))
        (.lt (List.drop v1.snd.fst.toNat (List.take (List.length s) s)) fun (v2 : List UInt8) =>
          .as (v2.length ≤ 9223372036854775807)
            (.lt (wrp .u64 (↑v2.length : Int)) fun (v3 : Int) =>
              .br (decide (v3 < v1.fst)) (.ret ([], [], 4))
                (.ob ((0 : Int) ≤ 0 ∧ 0 ≤ v1.fst ∧ v1.fst ≤ (↑v2.length : Int))
                  (.ob (0 ≤ v1.fst ∧ v1.fst ≤ (↑v2.length : Int) ∧ (↑v2.length : Int) ≤ (↑v2.length : Int))
                    (.ret (List.take v1.fst.toNat v2, List.drop v1.fst.toNat (List.take v2.length v2), 0)))))))
noncomputable def rtake44P (s : Str) : Str × Str × Int := (rtake44 s).val

theorem rtake44_is (s : Str) (h : s.length ≤ 4294967296) : Is (rtake44 s) :=
  by
  have hr := take_rng s
  rw [take_eq] at hr
  obtain ⟨⟨r1, _⟩, r2, r3, _⟩ := hr
  refine is_lt fun v1 hv1 => is_bne (fun _ => is_ret) fun _ => ?_
  subst hv1
  refine is_ob (by omega) (is_lt fun v2 hv2 => is_as fun _ => is_lt fun v3 hv3 => ?_)
  have hl : v2.length ≤ s.length := by rw [hv2, List.length_drop, List.length_take]; omega
  rw [wl _ (by omega)] at hv3
  subst hv3
  exact is_brd (fun _ => is_ret) fun _ => is_ob (by omega) (is_ob (by omega) is_ret)
noncomputable def e_rtake44 : Ent Z := entN Z [e_rtake] [] (args (a1 (aLf cStr))) (argsI (n := 31) rfl) (shr [.slot 0 false [none], .slot 1 false [none], .slot 2 false [none]] (lCons cStr (lCons cStr (l1 (cInt .i64))))) [] Tryz.func74 Tryz.ntmps74 (by kernel_rfl) 3 rfl (fun a => rtake44 a) (fun a => some (a.length ≤ 4294967296)) (fun a e _ => by kernel_rfl) (fun a => rtake44P a) (fun a h => ⟨rtake44_is a h, rfl⟩)

theorem rtake44_def (s : Str) (h : s.length ≤ 4294967296) : rtake44P s = if (rtakeP s).2.2 ≠ 0 then ([], [], (rtakeP s).2.2) else if ((s.drop (rtakeP s).2.1.toNat).length : Int) < (rtakeP s).1 then ([], [], 4) else ((s.drop (rtakeP s).2.1.toNat).take (rtakeP s).1.toNat, (s.drop (rtakeP s).2.1.toNat).drop (rtakeP s).1.toNat, 0) := by
  unfold rtake44P rtake44
  simp only [val_lt, val_br, val_ob, val_as, val_ret, List.take_length]
  rw [wl _ (by rw [List.length_drop]; omega)]
  by_cases e1 : (rtakeP s).2.2 = 0
  · have : ((rtakeP s).2.2 != 0) = false := by rw [e1]; rfl
    rw [this, cond_false, if_neg (by simpa using e1)]
    by_cases e2 : ((s.drop (rtakeP s).2.1.toNat).length : Int) < (rtakeP s).1
    · rw [decide_eq_true e2, if_pos e2]; rfl
    · rw [decide_eq_false e2, if_neg e2]; rfl
  · have : ((rtakeP s).2.2 != 0) = true := by simpa using e1
    rw [this, if_pos e1]; rfl
theorem rtake44_len (s : Str) (h : s.length ≤ 4294967296) : (rtake44P s).1.length ≤ s.length ∧ (rtake44P s).2.1.length ≤ s.length := by
  rw [rtake44_def s h]
  split
  · exact ⟨Nat.zero_le _, Nat.zero_le _⟩
  · split
    · exact ⟨Nat.zero_le _, Nat.zero_le _⟩
    · exact ⟨by show (List.take _ _).length ≤ _; rw [List.length_take, List.length_drop]; omega, by show (List.drop _ _).length ≤ _; rw [List.length_drop, List.length_drop]; omega⟩
theorem ttext_bad (t : frame_taker) (h : t.errno ≠ 0) : ttextP t = ([], t) := by
  unfold ttextP ttext
  simp only [val_lt, val_cut, val_br, val_as, val_ob, val_ret, tnum_bad t h]
  have e1 : (t.errno == 0) = false := by simpa using h
  have e2 : (t.errno != 0) = true := by simpa using h
  rw [e1, cond_false, thenS_inl, e2]
  rfl
theorem ttext_ok (t : frame_taker) (h : t.errno = 0) (hl : t.s.length ≤ 4294967296) : ((rtake44P t.s).2.2 = 0 → ttextP t = ((rtake44P t.s).1, frame_taker.mk (rtake44P t.s).2.1 0)) ∧ ((rtake44P t.s).2.2 ≠ 0 → (ttextP t).2.errno = (rtake44P t.s).2.2 ∧ (ttextP t).2.s.length ≤ 4294967296 ∧ (ttextP t).1 = []) := by
  have hd : (t.s.drop (rtakeP t.s).2.1.toNat).length ≤ 4294967296 := by rw [List.length_drop]; omega
  rw [rtake44_def t.s hl]
  unfold ttextP ttext
  simp only [val_lt, val_cut, val_br, val_as, val_ob, val_ret, tnum_ok t h, List.take_length]
  rw [wl _ hd]
  by_cases e1 : (rtakeP t.s).2.2 = 0
  · rw [e1]
    by_cases e2 : ((t.s.drop (rtakeP t.s).2.1.toNat).length : Int) < (rtakeP t.s).1
    · rw [decide_eq_true e2, if_neg (show ¬ ((0 : Int) ≠ 0) from fun h => h rfl), if_pos e2]
      exact ⟨fun e => absurd e (by decide), fun _ => ⟨rfl, hd, rfl⟩⟩
    · rw [decide_eq_false e2, if_neg (show ¬ ((0 : Int) ≠ 0) from fun h => h rfl), if_neg e2]
      exact ⟨fun _ => rfl, fun e => absurd rfl e⟩
  · have e3 : ((rtakeP t.s).2.2 == 0) = false := by simpa using e1
    have e4 : ((rtakeP t.s).2.2 != 0) = true := by simpa using e1
    rw [e3, cond_false, thenS_inl, e4, cond_true, if_pos e1]
    exact ⟨fun e => absurd e e1, fun _ => ⟨rfl, hd, rfl⟩⟩
theorem ttext_s (t : frame_taker) (hl : t.s.length ≤ 4294967296) : (ttextP t).2.s.length ≤ 4294967296 ∧ (ttextP t).1.length ≤ 4294967296 := by
  by_cases h : t.errno = 0
  · obtain ⟨h1, h2⟩ := ttext_ok t h hl
    by_cases e : (rtake44P t.s).2.2 = 0
    · rw [h1 e]
      have := rtake44_len t.s hl
      exact ⟨by show (rtake44P t.s).2.1.length ≤ _; omega, by show (rtake44P t.s).1.length ≤ _; omega⟩
    · obtain ⟨_, k2, k3⟩ := h2 e
      exact ⟨k2, by rw [k3]; exact Nat.zero_le _⟩
  · rw [ttext_bad t h]
    exact ⟨hl, Nat.zero_le _⟩
end Go.Proofs.YtcdhbdjlamikgaaGreatDoor
