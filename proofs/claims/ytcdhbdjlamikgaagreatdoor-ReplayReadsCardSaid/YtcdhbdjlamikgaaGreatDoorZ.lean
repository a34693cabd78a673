/-
  Replay: ReplayReads.
-/
import Derived.Test.YtcdhbdjlamikgaaGreatDoorY
import Derived.Test.YtcdhbdjlamikgaaGreatDoorC
namespace Go.Proofs.YtcdhbdjlamikgaaGreatDoor
open Go.RowKit Go.Vc
set_option linter.unusedVariables false
set_option linter.unusedSimpArgs false
set_option maxRecDepth 100000

theorem rtape_spec (f : List Frame) (i : Nat) (id : Int) (h : okFs f) (hi : i ≤ f.length) : (tapeS id (f.drop i) = none ∧ (rtapeP f (i : Int) id).2.2 = false) ∨ ∃ t n, tapeS id (f.drop i) = some (t, n) ∧ rtapeP f (i : Int) id = (t, ((i + n : Nat) : Int), true) := by
  have hl := h.1
  have w : ∀ j : Nat, j ≤ 9001 → wrp .i64 ((j : Int) + 1) = ((j + 1 : Nat) : Int) := fun j hj => wrp_next (by omega)
  unfold rtapeP rtape
  simp only [val_ob, val_br, val_ix, val_lt, val_ret, Int.toNat_natCast]
  rw [ris_eq f i]
  rcases Nat.lt_or_ge i f.length with hlt | hge
  · have ga := okFs_at h i
    rw [dropF hlt, ← hread_eq _ (show (f.getD i d_Frame).Data.length ≤ 4294967296 by omega)]
    generalize f.getD i d_Frame = a at *
    dsimp only
    unfold tapeS
    dsimp only
    by_cases c0 : a.Kind = 1 ∧ a.Stream = id ∧ (hreadP a.Data).1.Deadline = 0 ∧ (hreadP a.Data).1.Metas.length = 0
    · rw [if_pos c0]
      obtain ⟨c1, c2, c3, c4⟩ := c0
      have b0 : (!(a.Kind == 1 && a.Stream == id)) = false := by rw [c1, c2]; simp
      have b1 : ((hreadP a.Data).1.Deadline != 0) = false := by rw [c3]; rfl
      rw [b0, b1, decide_eq_false (show ¬ (0 : Int) < ((hreadP a.Data).1.Metas.length : Int) by omega), w i (by omega)]
      simp only [cond_false]
      rw [rmsgs_eq f id (i + 1) (by omega)]
      have m1 := msgs_len id (f.drop (i + 1))
      rw [List.length_drop] at m1
      dsimp only
      have hdd : f.drop (i + 1 + (msgsL id (f.drop (i + 1))).length) = (f.drop (i + 1)).drop (msgsL id (f.drop (i + 1))).length := by rw [List.drop_drop]
      rw [ris_eq f _ 3, hdd]
      cases hd1 : (f.drop (i + 1)).drop (msgsL id (f.drop (i + 1))).length with
      | nil => exact .inl ⟨rfl, rfl⟩
      | cons b l3 =>
        dsimp only
        have hd1' := hd1
        rw [List.drop_drop] at hd1'
        have hlt1 : i + 1 + (msgsL id (f.drop (i + 1))).length < f.length := by
          rcases Nat.lt_or_ge (i + 1 + (msgsL id (f.drop (i + 1))).length) f.length with q | q
          · exact q
          · rw [List.drop_eq_nil_of_le q] at hd1'; cases hd1'
        have hl3 : l3 = f.drop (i + 1 + (msgsL id (f.drop (i + 1))).length + 1) := by
          rw [dropF hlt1] at hd1'
          injection hd1' with _ e
          exact e.symm
        by_cases h3 : b.Kind = 3 ∧ b.Stream = id
        · rw [if_pos h3]
          have b3 : (!(b.Kind == 3 && b.Stream == id)) = false := by rw [h3.1, h3.2]; simp
          rw [b3, w _ (by omega)]
          simp only [cond_false]
          rw [rmsgs_eq f id _ (by omega), ← hl3]
          have m3 := msgs_len id l3
          have hl3' : l3.length = f.length - (i + 1 + (msgsL id (f.drop (i + 1))).length + 1) := by rw [hl3, List.length_drop]
          dsimp only
          rw [ris_eq f _ 4]
          have hd3 : f.drop (i + 1 + (msgsL id (f.drop (i + 1))).length + 1 + (msgsL id l3).length) = l3.drop (msgsL id l3).length := by rw [hl3, List.drop_drop]
          rw [hd3]
          cases hd2 : l3.drop (msgsL id l3).length with
          | nil => exact .inl ⟨rfl, rfl⟩
          | cons c r =>
            dsimp only
            rw [hd2] at hd3
            have hlt3 : i + 1 + (msgsL id (f.drop (i + 1))).length + 1 + (msgsL id l3).length < f.length := by
              rcases Nat.lt_or_ge (i + 1 + (msgsL id (f.drop (i + 1))).length + 1 + (msgsL id l3).length) f.length with q | q
              · exact q
              · rw [List.drop_eq_nil_of_le q] at hd3; cases hd3
            have hc : f.getD (i + 1 + (msgsL id (f.drop (i + 1))).length + 1 + (msgsL id l3).length) d_Frame = c := by
              rw [dropF hlt3] at hd3
              injection hd3
            by_cases h4 : c.Kind = 4 ∧ c.Stream = id
            · rw [if_pos h4]
              have b4 : (!(c.Kind == 4 && c.Stream == id)) = false := by rw [h4.1, h4.2]; simp
              rw [b4, w _ (by omega), Int.toNat_natCast, hc, ← stUnpack_eq]
              refine .inr ⟨_, _, rfl, ?_⟩
              simp only [cond_false]
              refine Prod.ext rfl (Prod.ext ?_ rfl)
              show ((_ : Nat) : Int) = ((_ : Nat) : Int)
              congr 1
              omega
            · rw [if_neg h4]
              refine .inl ⟨rfl, ?_⟩
              have b4 : (!(c.Kind == 4 && c.Stream == id)) = true := by
                rw [Bool.not_eq_true', Bool.and_eq_false_iff]
                by_cases q : c.Kind = 4
                · exact .inr (by simpa using fun e => h4 ⟨q, e⟩)
                · exact .inl (by simpa using q)
              rw [b4]
              rfl
        · rw [if_neg h3]
          refine .inl ⟨rfl, ?_⟩
          have b3 : (!(b.Kind == 3 && b.Stream == id)) = true := by
            rw [Bool.not_eq_true', Bool.and_eq_false_iff]
            by_cases q : b.Kind = 3
            · exact .inr (by simpa using fun e => h3 ⟨q, e⟩)
            · exact .inl (by simpa using q)
          rw [b3]
          rfl
    · rw [if_neg c0]
      refine .inl ⟨rfl, ?_⟩
      by_cases c1 : a.Kind = 1 ∧ a.Stream = id
      · have b0 : (!(a.Kind == 1 && a.Stream == id)) = false := by rw [c1.1, c1.2]; simp
        rw [b0]
        by_cases c3 : (hreadP a.Data).1.Deadline = 0
        · have c4 : ¬ (hreadP a.Data).1.Metas.length = 0 := fun e => c0 ⟨c1.1, c1.2, c3, e⟩
          rw [c3, decide_eq_true (show (0 : Int) < ((hreadP a.Data).1.Metas.length : Int) by omega)]
          rfl
        · have b1 : ((hreadP a.Data).1.Deadline != 0) = true := by simpa using c3
          rw [b1]
          rfl
      · have b0 : (!(a.Kind == 1 && a.Stream == id)) = true := by
          rw [Bool.not_eq_true', Bool.and_eq_false_iff]
          by_cases q : a.Kind = 1
          · exact .inr (by simpa using fun e => c1 ⟨q, e⟩)
          · exact .inl (by simpa using q)
        rw [b0]
        rfl
  · rw [List.drop_eq_nil_of_le hge]
    exact .inl ⟨rfl, rfl⟩
theorem tapeS_len {id : Int} {l : List Frame} {t : Tape} {n : Nat} (h : tapeS id l = some (t, n)) : t.In.length ≤ l.length ∧ t.Out.length ≤ l.length := by
  unfold tapeS at h
  cases l with
  | nil => cases h
  | cons a l1 =>
    dsimp only at h
    have m1 := msgs_len id l1
    split at h
    · split at h
      · cases h
      · rename_i b l3 hd
        have hl3 := congrArg List.length hd
        rw [List.length_drop, List.length_cons] at hl3
        have m3 := msgs_len id l3
        split at h
        · split at h
          · cases h
          · split at h
            · injection h with h
              injection h with h1 h2
              subst h1
              simp only [List.length_cons]
              exact ⟨by omega, by omega⟩
            · cases h
        · cases h
    · cases h
theorem okFs_drop {l : List Frame} (h : okFs l) (n : Nat) : okFs (l.drop n) := ⟨by rw [List.length_drop]; have := h.1; omega, fun f hf => h.2 f (List.mem_of_mem_drop hf)⟩

noncomputable def tread (data : Str) : Pg (List Tape × Int) :=
  .ob (List.length data ≤ 9000)
    (.lt (fsplitP data) fun (v3 : List Frame × Str × Int) =>
      .br (v3.snd.snd != 0) (.ret ([], v3.snd.snd))
        (.br (v3.snd.fst != []) (.ret ([], 18))
          (.cut (fun (y2 : List Tape) => .br (decide (1024 < (↑y2.length : Int))) (.ret ([], 3)) (.ret (y2, 0)))
            (.wh (data.length + 1) default
              (fun (x1 : List Frame × List Tape) =>
                .br (decide (0 < (↑x1.fst.length : Int)))
                  (.ob (okFs x1.fst)
                    (.lt (tape1P x1.fst (wrp .i64 ((↑x1.snd.length : Int) + 1))) fun (v4 : Tape × Int × Bool) =>
                      .br (!v4.snd.snd) (.ret (.inr (.inr ([], 11))))
                        (.ob (roomP (x1.snd.length + 1) 88)
                          (.ob (0 ≤ v4.snd.fst ∧ v4.snd.fst ≤ (↑x1.fst.length : Int) ∧ (↑x1.fst.length : Int) ≤ (↑x1.fst.length : Int))
                            (.ret (.inl (List.drop v4.snd.fst.toNat (List.take x1.fst.length x1.fst), x1.snd ++ [v4.fst])))))))
                  (.ret (.inr (.inl x1.snd))))
              (v3.fst, [])))))
noncomputable def treadP (data : Str) : (List Tape) × Int := (tread data).val

theorem tread_isP (data : Str) (h : data.length ≤ 9000) : IsP (tread data) (fun r => okTs r.1) := by
  have q0 : okTs [] := ⟨Nat.zero_le _, fun t ht => nomatch ht⟩
  refine isP_ob h (isP_lt fun v3 hv3 => isP_bne (fun _ => isP_ret q0) (fun _ => isP_br (fun _ => isP_ret q0) (fun _ => ?_)))
  obtain ⟨k1, k2⟩ := (fsplit_isP data h).2
  have k1 : v3.1.length ≤ data.length := by rw [hv3]; exact k1
  have k2 : ∀ f ∈ v3.1, goodF f := by rw [hv3]; exact k2
  refine isP_cut (fun y2 => okTs y2) (isP_wh (fun x => okFs x.1 ∧ x.1.length + x.2.length ≤ 9000 ∧ okTs x.2) (fun x => x.1.length) ⟨⟨by show v3.1.length ≤ _; omega, k2⟩, by show v3.1.length + 0 ≤ _; omega, q0⟩ (by show v3.1.length < _; omega) (fun x hx => ?_)) (fun y2 hy2 => isP_brd (fun _ => isP_ret q0) (fun _ => isP_ret hy2))
  obtain ⟨l, acc⟩ := x
  obtain ⟨c1, c2, c3⟩ := hx
  dsimp only at c1 c2 c3 ⊢
  refine isP_brd (fun hpos => isP_ob c1 (isP_lt fun v4 hv4 => isP_br (fun _ => isP_ret q0) (fun e => ?_))) (fun _ => isP_ret c3)
  rcases tape1_spec l (wrp .i64 ((acc.length : Int) + 1)) c1 with ⟨_, q⟩ | ⟨t, n, p1, p2, p3, p4⟩
  · rw [← hv4] at q; rw [q] at e; cases e
  · rw [← hv4] at p2
    subst p2
    obtain ⟨i1, i2⟩ := tapeS_len p1
    have hl := c1.1
    dsimp only
    refine isP_ob (room_of (by omega) (by omega)) (isP_ob (by omega) (isP_ret ?_))
    rw [List.take_length, Int.toNat_natCast]
    refine ⟨⟨okFs_drop c1 n, ?_, ?_⟩, ?_⟩
    · show (List.drop n l).length + (acc ++ [t]).length ≤ 9000
      rw [List.length_drop, List.length_append, List.length_singleton]
      omega
    · refine ⟨by show (acc ++ [t]).length ≤ _; rw [List.length_append, List.length_singleton]; omega, fun u hu => ?_⟩
      have hu : u ∈ acc ++ [t] := hu
      rcases List.mem_append.1 hu with hu | hu
      · exact c3.2 u hu
      · rw [List.mem_singleton] at hu
        subst hu
        exact ⟨by omega, by omega⟩
    · show (List.drop n l).length < l.length
      rw [List.length_drop]
      omega

theorem tread_is (data : Str) (h : data.length ≤ 9000) : Is (tread data) :=
  (tread_isP data h).is
noncomputable def e_tread : Ent Z := entN Z [e_fsplit, e_tape1] [jS 7 (shp (fun sl => [.slot 4 false [none], .slot 7 false [some 41]]) (lCons cd_LFrame (l1 cd_LTape))), jS 100013 (shp (fun sl => [.slot 7 false [some 41]]) (l1 cd_LTape))] (args (a1 (aLf cStr))) (argsI (n := 47) rfl) (shr [.slot 0 false [none], .slot 1 false [none]] (lCons cd_LTape (l1 (cInt .i64)))) [] Tryz.func11 Tryz.ntmps11 (by kernel_rfl) 2 rfl (fun a => tread a) (fun a => some (a.length ≤ 9000)) (fun a e _ => by kernel_rfl) (fun a => treadP a) (fun a h => ⟨tread_is a h, rfl⟩)

noncomputable def rtread (data : Str) : Pg (List Tape × Int) :=
  .ob (List.length data ≤ 9000)
    (.lt (rfsplitP data) fun (v3 : List Frame × Str × Int) =>
      .br (v3.snd.snd != 0) (.ret ([], v3.snd.snd))
        (.br (v3.snd.fst != []) (.ret ([], 18))
          (.cut (fun (y2 : List Tape) => .br (decide (1024 < (↑y2.length : Int))) (.ret ([], 3)) (.ret (y2, 0)))
            (.wh (data.length + 1) default
              (fun (x1 : List Tape × Int) =>
                .as (v3.fst.length ≤ 9223372036854775807)
                  (.br (decide (x1.snd < (↑v3.fst.length : Int)))
                    (.ob (okFs v3.fst ∧ 0 ≤ x1.snd ∧ x1.snd ≤ (↑v3.fst.length : Int))
                      (.lt (rtapeP v3.fst x1.snd (wrp .i64 ((↑x1.fst.length : Int) + 1))) fun (v4 : Tape × Int × Bool) =>
                        .br (!v4.snd.snd) (.ret (.inr (.inr ([], 11))))
                          (.ob (roomP (x1.fst.length + 1) 88) (.ret (.inl (x1.fst ++ [v4.fst], v4.snd.fst))))))
                    (.ret (.inr (.inl x1.fst)))))
              ([], 0)))))
noncomputable def rtreadP (data : Str) : (List Tape) × Int := (rtread data).val

theorem rtread_is0 (data : Str) (h : data.length ≤ 9000) : Is (rtread data) := by
  refine IsP.is (Q := fun _ => True) (isP_ob h (isP_lt fun v3 hv3 => isP_bne (fun _ => isP_ret trivial) (fun _ => isP_br (fun _ => isP_ret trivial) (fun _ => ?_))))
  obtain ⟨k1, k2⟩ := (fsplit_isP data h).2
  rw [← fsplit_eq data h] at hv3
  have k1 : v3.1.length ≤ data.length := by rw [hv3]; exact k1
  have k2 : ∀ f ∈ v3.1, goodF f := by rw [hv3]; exact k2
  have hf : okFs v3.1 := ⟨by omega, k2⟩
  refine isP_cut (fun _ => True) (isP_wh (fun x => 0 ≤ x.2 ∧ x.2 ≤ (v3.1.length : Int) ∧ (x.1.length : Int) ≤ x.2) (fun x => v3.1.length - x.2.toNat) ⟨by show (0 : Int) ≤ 0; omega, by show (0 : Int) ≤ _; omega, by show ((0 : Nat) : Int) ≤ 0; omega⟩ (by show v3.1.length - _ < _; omega) (fun x hx => ?_)) (fun y2 _ => isP_brd (fun _ => isP_ret trivial) (fun _ => isP_ret trivial))
  obtain ⟨acc, j⟩ := x
  obtain ⟨c1, c2, c3⟩ := hx
  dsimp only at c1 c2 c3 ⊢
  obtain ⟨i, rfl⟩ : ∃ i : Nat, j = (i : Int) := ⟨j.toNat, by omega⟩
  refine isP_as <| isP_brd (fun hpos => isP_ob ⟨hf, by omega, by omega⟩ (isP_lt fun v4 hv4 => isP_br (fun _ => isP_ret trivial) (fun e => ?_))) (fun _ => isP_ret trivial)
  rcases rtape_spec v3.1 i (wrp .i64 ((acc.length : Int) + 1)) hf (by omega) with ⟨_, q⟩ | ⟨t, n, p1, p2⟩
  · rw [← hv4] at q; rw [q] at e; cases e
  · rw [← hv4] at p2
    subst p2
    rcases tape1_spec (v3.1.drop i) (wrp .i64 ((acc.length : Int) + 1)) (okFs_drop hf i) with ⟨q, _⟩ | ⟨t2, n2, p3, _, p5, p6⟩
    · rw [p1] at q; cases q
    · rw [p1] at p3
      injection p3 with p3
      injection p3 with _ p3
      subst p3
      rw [List.length_drop] at p6
      dsimp only
      refine isP_ob (room_of (by omega) (by omega)) (isP_ret ⟨⟨by show (0 : Int) ≤ ((i + n : Nat) : Int); omega, by show ((i + n : Nat) : Int) ≤ _; omega, by show ((acc ++ [t]).length : Int) ≤ ((i + n : Nat) : Int); rw [List.length_append, List.length_singleton]; omega⟩, by show v3.1.length - (((i + n : Nat) : Int)).toNat < v3.1.length - ((i : Int)).toNat; omega⟩)

theorem rtread_is (data : Str) (h : data.length ≤ 9000) : Is (rtread data) :=
  rtread_is0 data h
noncomputable def e_rtread : Ent Z := entN Z [e_rfsplit, e_rtape] [jS 8 (shp (fun sl => [.slot 7 false [some 41], .slot 8 false [none]]) (lCons cd_LTape (l1 (cInt .i64)))), jS 100014 (shp (fun sl => [.slot 7 false [some 41]]) (l1 cd_LTape))] (args (a1 (aLf cStr))) (argsI (n := 48) rfl) (shr [.slot 0 false [none], .slot 1 false [none]] (lCons cd_LTape (l1 (cInt .i64)))) [] Tryz.func12 Tryz.ntmps12 (by kernel_rfl) 2 rfl (fun a => rtread a) (fun a => some (a.length ≤ 9000)) (fun a e _ => by kernel_rfl) (fun a => rtreadP a) (fun a h => ⟨rtread_is a h, rfl⟩)

theorem tread_eq (data : Str) (h : data.length ≤ 9000) : treadP data = rtreadP data := by
  unfold treadP tread rtreadP rtread
  simp only [val_ob, val_lt, val_br, val_cut, val_wh, val_as, val_ret, ← fsplit_eq data h]
  obtain ⟨k1, k2⟩ := (fsplit_isP data h).2
  have hf : okFs (fsplitP data).1 := ⟨by have : (fsplitP data).1.length ≤ data.length := k1; omega, k2⟩
  generalize fsplitP data = v at *
  have key : ∀ (n i : Nat) (acc : List Tape), i ≤ v.1.length →
      whN (fun (x1 : List Frame × List Tape) => bif decide ((0 : Int) < (x1.1.length : Int)) then (bif !(tape1P x1.1 (wrp .i64 ((x1.2.length : Int) + 1))).2.2 then (Sum.inr (.inr ([], 11)) : (List Frame × List Tape) ⊕ (List Tape ⊕ (List Tape × Int))) else .inl (List.drop (tape1P x1.1 (wrp .i64 ((x1.2.length : Int) + 1))).2.1.toNat (List.take x1.1.length x1.1), x1.2 ++ [(tape1P x1.1 (wrp .i64 ((x1.2.length : Int) + 1))).1])) else .inr (.inl x1.2)) default n (v.1.drop i, acc) =
      whN (fun (x1 : List Tape × Int) => bif decide (x1.2 < (v.1.length : Int)) then (bif !(rtapeP v.1 x1.2 (wrp .i64 ((x1.1.length : Int) + 1))).2.2 then (Sum.inr (.inr ([], 11)) : (List Tape × Int) ⊕ (List Tape ⊕ (List Tape × Int))) else .inl (x1.1 ++ [(rtapeP v.1 x1.2 (wrp .i64 ((x1.1.length : Int) + 1))).1], (rtapeP v.1 x1.2 (wrp .i64 ((x1.1.length : Int) + 1))).2.1)) else .inr (.inl x1.1)) default n (acc, (i : Int)) := by
    intro n
    induction n with
    | zero => intro i acc _; rfl
    | succ n ih =>
      intro i acc hi
      unfold whN
      dsimp only
      have hd : decide ((0 : Int) < ((v.1.drop i).length : Int)) = decide ((i : Int) < (v.1.length : Int)) := by
        rw [Bool.eq_iff_iff, decide_eq_true_eq, decide_eq_true_eq, List.length_drop]
        omega
      rw [hd]
      cases decide ((i : Int) < (v.1.length : Int)) with
      | false => rfl
      | true =>
        rcases tape1_spec (v.1.drop i) (wrp .i64 ((acc.length : Int) + 1)) (okFs_drop hf i) with ⟨q1, q2⟩ | ⟨t, m, p1, p2, p3, p4⟩
        · rcases rtape_spec v.1 i (wrp .i64 ((acc.length : Int) + 1)) hf hi with ⟨_, r2⟩ | ⟨t2, n2, r1, _⟩
          · rw [q2, r2]; rfl
          · rw [q1] at r1; cases r1
        · rcases rtape_spec v.1 i (wrp .i64 ((acc.length : Int) + 1)) hf hi with ⟨r1, _⟩ | ⟨t2, n2, r1, r2⟩
          · rw [p1] at r1; cases r1
          · rw [p1] at r1
            injection r1 with r1
            injection r1 with e1 e2
            subst e1 e2
            rw [p2, r2]
            simp only [Bool.not_true, cond_true, cond_false]
            rw [List.take_length, Int.toNat_natCast, List.drop_drop]
            rw [List.length_drop] at p4
            exact ih (i + m) (acc ++ [t]) (by omega)
  cases v.2.2 != 0 with
  | true => rfl
  | false =>
    cases v.2.1 != [] with
    | true => rfl
    | false =>
      have := key (data.length + 1) 0 [] (Nat.zero_le _)
      rw [List.drop_zero] at this
      exact congrArg (fun x : List Tape ⊕ (List Tape × Int) => thenS x (fun y2 => bif decide (1024 < (y2.length : Int)) then (([] : List Tape), (3 : Int)) else (y2, 0))) this

noncomputable def law4 (data : Str) : Pg Bool :=
  .br (decide (9000 < (↑(List.length data) : Int))) (.ret true)
    (.ob (List.length data ≤ 9000)
      (.ob (List.length data ≤ 9000)
        (.lt (treadP data) fun (v1 : List Tape × Int) =>
          .lt (rtreadP data) fun (v2 : List Tape × Int) => .br (v1.snd == v2.snd) (.br (sameP v1.fst v2.fst) (.ret true) (.ret false)) (.ret false))))
noncomputable def law4P (data : Str) : Bool := (law4 data).val

theorem law4_eq (data : Str) : law4P data = true := by
  unfold law4P law4
  simp only [val_br, val_ob, val_lt, val_ret]
  by_cases h : 9000 < (data.length : Int)
  · rw [decide_eq_true h]; rfl
  · rw [decide_eq_false h, cond_false, ← tread_eq data (by omega)]
    have hs := same_all _ (tread_isP data (by omega)).2
    have hs : sameP (treadP data).1 (treadP data).1 = true := hs
    rw [hs, beq_self_eq_true]
    rfl

theorem law4_is (data : Str) : Is (law4 data) :=
  is_brd (fun _ => is_ret) (fun hn => is_ob (by omega) (is_ob (by omega) (is_lt fun v1 hv1 => is_lt fun v2 hv2 => is_br (fun _ => is_br (fun _ => is_ret) (fun _ => is_ret)) (fun _ => is_ret))))
noncomputable def e_law4 : Ent Z := entN Z [e_same, e_awake, e_tread, e_rtread] [] (args (a1 (aLf cStr))) (argsI (n := 31) rfl) (shr [.slot 0 false [none]] (l1 cBool)) [] Tryz.func4 Tryz.ntmps4 (by kernel_rfl) 1 rfl (fun a => law4 a) (fun a => none) (fun a e _ => by kernel_rfl) (fun a => true) (fun a h => ⟨law4_is a, law4_eq a⟩)
end Go.Proofs.YtcdhbdjlamikgaaGreatDoor
