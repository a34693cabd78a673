/-
  Replay: heads, read.
-/
import Derived.Test.YtcdhbdjlamikgaaGreatDoorL
import Derived.Test.YtcdhbdjlamikgaaGreatDoorEng11
namespace Go.Proofs.YtcdhbdjlamikgaaGreatDoor
open Go.RowKit Go.Vc
set_option linter.unusedVariables false
set_option linter.unusedSimpArgs false
set_option maxRecDepth 100000

def okM (hd : Head) : Prop := hd.Service.length ≤ 4294967296 ∧ hd.Method.length ≤ 4294967296 ∧ ∀ m ∈ hd.Metas, m.Key.length ≤ 4294967296 ∧ m.Val.length ≤ 4294967296
theorem okM_add {a b : Str} {d : Int} {l : List AMeta} {k v : Str} (h : okM (Head.mk a b d l)) (hk : k.length ≤ 4294967296) (hv : v.length ≤ 4294967296) : okM (Head.mk a b d (l ++ [AMeta.mk k v])) := by
  refine ⟨h.1, h.2.1, fun m hm => ?_⟩
  rcases List.mem_append.1 hm with hm | hm
  · exact h.2.2 m hm
  · rw [List.mem_singleton] at hm
    subst hm
    exact ⟨hk, hv⟩
theorem okM_head {hd : Head} {d : Int} (h : okM hd) (hl : hd.Metas.length ≤ 17) : okHead (Head.mk hd.Service hd.Method d hd.Metas) := ⟨h.1, h.2.1, by show hd.Metas.length ≤ _; omega, h.2.2⟩

noncomputable def hread (data : Str) : Pg (Head × Int) :=
  .ob (List.length data ≤ 4294967296)
    (.lt (ttextP (frame_taker.mk data 0)) fun (v6 : Str × frame_taker) =>
      .ob (List.length v6.snd.s ≤ 4294967296)
        (.lt (tnumP (tnumP (ttextP v6.snd).snd).snd) fun (v7 : Int × frame_taker) =>
          .cut
            (fun (y1 : frame_taker) =>
              .lt (ttextP v6.snd) fun (v8 : Str × frame_taker) =>
                .cut
                  (fun (y5 : frame_taker × Head) =>
                    .br (y5.fst.errno != 0) (.ret (Head.mk [] [] 0 [], y5.fst.errno))
                      (.br (y5.fst.s != []) (.ret (Head.mk [] [] 0 [], 18))
                        (.lt (tnumP v8.snd) fun (v9 : Int × frame_taker) =>
                          .br (decide (1099511627776 < v9.fst)) (.ret (Head.mk [] [] 0 [], 6))
                            (.lt (wrp .i64 v9.fst) fun (v10 : Int) =>
                              .ob (okHead (Head.mk y5.snd.Service y5.snd.Method v10 y5.snd.Metas))
                                (.lt (fheadP (Head.mk y5.snd.Service y5.snd.Method v10 y5.snd.Metas)) fun (v11 : Str × Int) =>
                                  .br (v11.snd != 0) (.ret (Head.mk [] [] 0 [], v11.snd))
                                    (.br (v11.fst != data) (.ret (Head.mk [] [] 0 [], 5))
                                      (.ret (Head.mk y5.snd.Service y5.snd.Method v10 y5.snd.Metas, 0))))))))
                  (.wh (20) default
                    (fun (x4 : Int × frame_taker × Head) =>
                      .br (decide (x4.fst < v7.fst))
                        (.br (x4.snd.fst.errno == 0)
                          (.ob (List.length x4.snd.fst.s ≤ 4294967296)
                            (.lt (ttextP x4.snd.fst) fun (v12 : Str × frame_taker) =>
                              .ob (List.length v12.snd.s ≤ 4294967296)
                                (.ob (roomP (x4.snd.snd.Metas.length + 1) 32)
                                  (.lt (ttextP v12.snd) fun (v13 : Str × frame_taker) =>
                                    .ret
                                      (.inl
                                        (wrp .u64 (x4.fst + 1), v13.snd,
                                          Head.mk x4.snd.snd.Service x4.snd.snd.Method x4.snd.snd.Deadline (x4.snd.snd.Metas ++ [AMeta.mk v12.fst v13.fst])))))))
                          (.ret (.inr (.inl x4.snd))))
                        (.ret (.inr (.inl x4.snd))))
                    (0, y1, Head.mk v6.fst v8.fst 0 [])))
            (.br (v7.snd.errno == 0) (.br (decide (16 < v7.fst)) (.ret (.inl (frame_taker.mk v7.snd.s 3))) (.ret (.inl v7.snd)))
              (.ret (.inl v7.snd)))))
noncomputable def hreadP (data : Str) : Head × Int := (hread data).val

theorem hread_is (data : Str) (h : data.length ≤ 4294967296) : Is (hread data) :=
  by
  refine IsP.is (Q := fun _ => True) ?_
  refine isP_ob h (isP_lt fun v6 hv6 => ?_)
  have s6 := ttext_s (frame_taker.mk data 0) h
  rw [← hv6] at s6
  have s7 := ttext_s v6.2 s6.1
  have n1 := tnum_rng (ttextP v6.2).2
  have n2 := tnum_rng (tnumP (ttextP v6.2).2).2
  refine isP_ob s6.1 (isP_lt fun v7 hv7 => ?_)
  rw [← hv7] at n2
  refine isP_cut (fun y1 => y1.s.length ≤ 4294967296 ∧ (y1.errno = 0 → v7.1 ≤ 16)) ?_ (fun y1 hy1 => ?_)
  · refine isP_beq (fun e => isP_brd (fun _ => isP_ret ?_) (fun hn => isP_ret ?_)) (fun e => isP_ret ?_)
    · exact ⟨by show v7.2.s.length ≤ _; omega, fun e => absurd e (show ¬ (3 : Int) = 0 by decide)⟩
    · exact ⟨by omega, fun _ => by omega⟩
    · exact ⟨by omega, fun e' => absurd e' e⟩
  · refine isP_lt fun v8 hv8 => ?_
    rw [← hv8] at s7
    refine isP_cut (fun y5 => okM y5.2 ∧ y5.2.Metas.length ≤ 17) ?_ (fun y5 hy5 => ?_)
    · refine isP_wh (fun x => 0 ≤ x.1 ∧ x.1 ≤ 17 ∧ (x.2.2.Metas.length : Int) = x.1 ∧ okM x.2.2 ∧ x.2.1.s.length ≤ 4294967296 ∧ (x.2.1.errno = 0 → v7.1 ≤ 16)) (fun x => (18 - x.1).toNat) ⟨by show (0 : Int) ≤ 0; decide, by show (0 : Int) ≤ 17; decide, rfl, ⟨s6.2, s7.2, fun m hm => nomatch hm⟩, hy1.1, hy1.2⟩ (by show (18 - (0 : Int)).toNat < 20; decide) (fun x hx => ?_)
      obtain ⟨i, t, hd⟩ := x
      obtain ⟨c1, c2, c3, c4, c5, c6⟩ := hx
      dsimp only at c1 c2 c3 c4 c5 c6 ⊢
      have fin : okM hd ∧ hd.Metas.length ≤ 17 := ⟨c4, by omega⟩
      refine isP_brd (fun hlt => isP_beq (fun e => ?_) (fun _ => isP_ret fin)) (fun _ => isP_ret fin)
      have hm := c6 e
      have t1 := ttext_s t c5
      have t2 := ttext_s _ t1.1
      have w : wrp .u64 (i + 1) = i + 1 := by
        obtain ⟨n, rfl⟩ : ∃ n : Nat, i = (n : Int) := ⟨i.toNat, by omega⟩
        exact wrp_of (k := .u64) rfl (show n + 1 < 2 ^ 64 by omega)
      refine isP_ob c5 (isP_lt fun v12 hv12 => ?_)
      subst hv12
      refine isP_ob t1.1 (isP_ob (room_of (by omega) (by omega)) (isP_lt fun v13 hv13 => isP_ret ?_))
      subst hv13
      rw [w]
      refine ⟨⟨by show 0 ≤ i + 1; omega, by show i + 1 ≤ 17; omega, by show ((hd.Metas ++ [_]).length : Int) = i + 1; rw [List.length_append, List.length_singleton]; omega, okM_add c4 t1.2 t2.2, t2.1, fun _ => hm⟩, by show (18 - (i + 1)).toNat < (18 - i).toNat; omega⟩
    · refine isP_bne (fun _ => isP_ret trivial) (fun _ => isP_br (fun _ => isP_ret trivial) (fun _ => isP_lt fun v9 hv9 => isP_brd (fun _ => isP_ret trivial) (fun _ => isP_lt fun v10 hv10 => isP_ob (okM_head hy5.1 hy5.2) (isP_lt fun v11 hv11 => isP_bne (fun _ => isP_ret trivial) (fun _ => isP_br (fun _ => isP_ret trivial) (fun _ => isP_ret trivial))))))
noncomputable def e_hread : Ent Z := entN Z [e_fhead, e_ttext, e_tnum] [jS 7 (shp (fun sl => [.slot 8 false [none], .cells (pid (sl 13)) [none, none], .cells (pid (sl 5)) [none, none, none, some 177]]) (lCons (cInt .u64) (lCons cd_frame_taker (l1 cd_Head)))), jS 100006 (shp (fun sl => [.cells (pid (sl 13)) [none, none]]) (l1 cd_frame_taker)), jS 100010 (shp (fun sl => [.cells (pid (sl 13)) [none, none], .cells (pid (sl 5)) [none, none, none, none]]) (lCons cd_frame_taker (l1 cd_Head)))] (args (a1 (aLf cStr))) (argsI (n := 96) rfl) (shr [.slot 0 true [none, none, none, none], .slot 1 false [none]] (lCons cd_Head (l1 (cInt .i64)))) [] Tryz.func33 Tryz.ntmps33 (by kernel_rfl) 2 rfl (fun a => hread a) (fun a => some (a.length ≤ 4294967296)) (fun a e _ => by kernel_rfl) (fun a => hreadP a) (fun a h => ⟨hread_is a h, rfl⟩)

noncomputable def rhread (data : Str) : Pg (Head × Int) :=
  .ob (List.length data ≤ 4294967296)
    (.lt (rtake44P data) fun (v4 : Str × Str × Int) =>
      .br (v4.snd.snd != 0) (.ret (Head.mk [] [] 0 [], v4.snd.snd))
        (.ob (v4.snd.fst.length ≤ 4294967296)
          (.lt (rtake44P v4.snd.fst) fun (v5 : Str × Str × Int) =>
            .br (v5.snd.snd != 0) (.ret (Head.mk [] [] 0 [], v5.snd.snd))
              (.lt (rtakeP v5.snd.fst) fun (v6 : Int × Int × Int) =>
                .br (v6.snd.snd != 0) (.ret (Head.mk [] [] 0 [], v6.snd.snd))
                  (.ob (0 ≤ v6.snd.fst ∧ v6.snd.fst ≤ (↑v5.snd.fst.length : Int) ∧ (↑v5.snd.fst.length : Int) ≤ (↑v5.snd.fst.length : Int))
                    (.lt (rtakeP (List.drop v6.snd.fst.toNat (List.take v5.snd.fst.length v5.snd.fst))) fun (v7 : Int × Int × Int) =>
                      .br (v7.snd.snd != 0) (.ret (Head.mk [] [] 0 [], v7.snd.snd))
                        (.br (decide (16 < v7.fst)) (.ret (Head.mk [] [] 0 [], 3))
                          (.lt (wrp .i64 (v6.snd.fst + v7.snd.fst)) fun (v8 : Int) =>
                            .ob (0 ≤ v8 ∧ v8 ≤ (↑v5.snd.fst.length : Int) ∧ (↑v5.snd.fst.length : Int) ≤ (↑v5.snd.fst.length : Int))
                              (.cut
                                (fun (y3 : List UInt8 × Head) =>
                                  .br (y3.fst != []) (.ret (Head.mk [] [] 0 [], 18))
                                    (.br (decide (1099511627776 < v6.fst)) (.ret (Head.mk [] [] 0 [], 6))
                                      (.lt (wrp .i64 v6.fst) fun (v9 : Int) =>
                                        .ob (okHead (Head.mk y3.snd.Service y3.snd.Method v9 y3.snd.Metas))
                                          (.lt (rheadP (Head.mk y3.snd.Service y3.snd.Method v9 y3.snd.Metas)) fun (v10 : Str × Int) =>
                                            .br (v10.snd != 0) (.ret (Head.mk [] [] 0 [], v10.snd))
                                              (.br (v10.fst != data) (.ret (Head.mk [] [] 0 [], 5))
                                                (.ret (Head.mk y3.snd.Service y3.snd.Method v9 y3.snd.Metas, 0)))))))
                                (.lt (wrp .i64 v7.fst) fun (v11 : Int) =>
                                  .cnt ixP 0 v11
                                    (fun (i1 : Int) (y2 : List UInt8 × Head) =>
                                      .ob (y2.fst.length ≤ 4294967296)
                                        (.lt (rtake44P y2.fst) fun (v12 : Str × Str × Int) =>
                                          .br (v12.snd.snd != 0) (.ret (.inr (.inr (Head.mk [] [] 0 [], v12.snd.snd))))
                                            (.ob (v12.snd.fst.length ≤ 4294967296)
                                              (.lt (rtake44P v12.snd.fst) fun (v13 : Str × Str × Int) =>
                                                .br (v13.snd.snd != 0) (.ret (.inr (.inr (Head.mk [] [] 0 [], v13.snd.snd))))
                                                  (.ob (roomP (y2.snd.Metas.length + 1) 32)
                                                    (.ret
                                                      (.inl (v13.snd.fst, Head.mk y2.snd.Service y2.snd.Method y2.snd.Deadline (y2.snd.Metas ++ [AMeta.mk v12.fst v13.fst])))))))))
                                    (fun (i1 : Int) (y2 : List UInt8 × Head) => .ret (.inl y2))
                                    (List.drop v8.toNat (List.take v5.snd.fst.length v5.snd.fst), Head.mk v4.fst v5.fst 0 [])))))))))))
noncomputable def rhreadP (data : Str) : Head × Int := (rhread data).val

theorem rhread_is (data : Str) (h : data.length ≤ 4294967296) : Is (rhread data) :=
  by
  refine IsP.is (Q := fun _ => True) ?_
  refine isP_ob h (isP_lt fun v4 hv4 => isP_bne (fun _ => isP_ret trivial) (fun _ => ?_))
  have s4 := rtake44_len data h
  rw [← hv4] at s4
  refine isP_ob (by omega) (isP_lt fun v5 hv5 => isP_bne (fun _ => isP_ret trivial) (fun _ => isP_lt fun v6 hv6 => isP_bne (fun _ => isP_ret trivial) (fun _ => ?_)))
  have s5 := rtake44_len v4.2.1 (by omega)
  rw [← hv5] at s5
  have r6 := take_rng v5.2.1
  rw [take_eq, ← hv6] at r6
  obtain ⟨⟨a1, a2⟩, a3, a4, _⟩ := r6
  refine isP_ob (by omega) (isP_lt fun v7 hv7 => isP_bne (fun _ => isP_ret trivial) (fun _ => isP_brd (fun _ => isP_ret trivial) (fun h16 => isP_lt fun v8 hv8 => ?_)))
  rw [List.take_length] at hv7
  have r7 := take_rng (v5.2.1.drop v6.2.1.toNat)
  rw [take_eq, ← hv7, List.length_drop] at r7
  obtain ⟨⟨b1, b2⟩, b3, b4, _⟩ := r7
  have w8 : v8 = v6.2.1 + v7.2.1 := by rw [hv8]; exact wrp_in (k := .i64) (by simp only [InR]; omega)
  refine isP_ob (by omega) (isP_cut (fun y3 => okM y3.2 ∧ y3.2.Metas.length ≤ 17) (isP_lt fun v11 hv11 => ?_) (fun y3 hy3 => ?_))
  · have w11 : v11 = v7.1 := by rw [hv11]; exact wrp_in (k := .i64) (by simp only [InR]; omega)
    rw [w11]
    refine isP_cnt (fun i y => 0 ≤ i ∧ i ≤ 16 ∧ (y.2.Metas.length : Int) = i ∧ okM y.2 ∧ y.1.length ≤ 4294967296) ⟨by decide, by decide, rfl, ⟨by show v4.1.length ≤ _; omega, by show v5.1.length ≤ _; omega, fun m hm => nomatch hm⟩, by show (List.drop _ _).length ≤ _; rw [List.length_drop, List.length_take]; omega⟩ (by decide) (by omega) (fun i y h1 h2 hI => ?_) (fun i y _ _ hI => isP_ret ⟨hI.2.2.2.1, by have := hI.2.2.1; have := hI.2.1; omega⟩)
    obtain ⟨c1, c2, c3, c4, c5⟩ := hI
    have t1 := rtake44_len y.1 c5
    refine isP_ob c5 (isP_lt fun v12 hv12 => isP_bne (fun _ => isP_ret trivial) (fun _ => ?_))
    rw [← hv12] at t1
    have t2 := rtake44_len v12.2.1 (by omega)
    refine isP_ob (by omega) (isP_lt fun v13 hv13 => isP_bne (fun _ => isP_ret trivial) (fun _ => isP_ob (room_of (by omega) (by omega)) (isP_ret ?_)))
    rw [← hv13] at t2
    exact ⟨by omega, by omega, by show ((y.2.Metas ++ [_]).length : Int) = i + 1; rw [List.length_append, List.length_singleton]; omega, okM_add c4 (by omega) (by omega), by show v13.2.1.length ≤ _; omega⟩
  · exact isP_br (fun _ => isP_ret trivial) (fun _ => isP_brd (fun _ => isP_ret trivial) (fun _ => isP_lt fun v9 hv9 => isP_ob (okM_head hy3.1 hy3.2) (isP_lt fun v10 hv10 => isP_bne (fun _ => isP_ret trivial) (fun _ => isP_br (fun _ => isP_ret trivial) (fun _ => isP_ret trivial)))))
noncomputable def e_rhread : Ent Z := entN Z [e_rtake, e_rtake44, e_rhead] [jS 20 (shp (fun sl => [.slot 13 false [none], .slot 6 false [none], .cells (pid (sl 4)) [none, none, none, some 177]]) (lCons (cInt .i64) (lCons cStr (l1 cd_Head)))), jS 100030 (shp (fun sl => [.slot 6 false [none], .cells (pid (sl 4)) [none, none, none, none]]) (lCons cStr (l1 cd_Head)))] (args (a1 (aLf cStr))) (argsI (n := 133) rfl) (shr [.slot 0 true [none, none, none, none], .slot 1 false [none]] (lCons cd_Head (l1 (cInt .i64)))) [] Tryz.func38 Tryz.ntmps38 (by kernel_rfl) 2 rfl (fun a => rhread a) (fun a => some (a.length ≤ 4294967296)) (fun a e _ => by kernel_rfl) (fun a => rhreadP a) (fun a h => ⟨rhread_is a h, rfl⟩)
end Go.Proofs.YtcdhbdjlamikgaaGreatDoor
