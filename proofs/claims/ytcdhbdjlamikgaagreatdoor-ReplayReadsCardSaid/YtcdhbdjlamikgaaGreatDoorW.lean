/-
  Replay: tapes, read.
-/
import Derived.Test.YtcdhbdjlamikgaaGreatDoorT
namespace Go.Proofs.YtcdhbdjlamikgaaGreatDoor
open Go.RowKit Go.Vc
set_option linter.unusedVariables false
set_option linter.unusedSimpArgs false
set_option maxRecDepth 100000

def okFs (l : List Frame) : Prop := l.length ≤ 9000 ∧ ∀ f ∈ l, goodF f
theorem okFs_at {l : List Frame} (h : okFs l) (i : Nat) : (l.getD i d_Frame).Data.length ≤ 9000 := by
  by_cases hi : i < l.length
  · exact (h.2 _ (getD_mem hi)).1
  · have : l.getD i d_Frame = d_Frame := by rw [List.getD, List.getElem?_eq_none (by omega)]; rfl
    rw [this]
    exact Nat.zero_le _

noncomputable def mpath (service : Str) (method : Str) : Pg (List UInt8) :=
  .ob (List.length service + 1 ≤ 9223372036854775807)
    (.lt (service ++ [47]) fun (v1 : List UInt8) => .ob (v1.length + List.length method ≤ 9223372036854775807) (.ret (v1 ++ method)))
noncomputable def mpathP (service : Str) (method : Str) : Str := (mpath service method).val

theorem mpath_is (service : Str) (method : Str) (h : service.length ≤ 4294967296 ∧ method.length ≤ 4294967296) : Is (mpath service method) :=
  is_ob (by omega) (is_lt fun v1 hv1 => is_ob (by rw [hv1, List.length_append, List.length_singleton]; omega) is_ret)
noncomputable def e_mpath : Ent Z := entN Z [] [] (args (aCons (aLf cStr) (a1 (aLf cStr)))) (argsI (n := 9) rfl) (shr [.slot 0 false [none]] (l1 cStr)) [] Tryz.func34 Tryz.ntmps34 (by kernel_rfl) 1 rfl (fun a => mpath (a.1) (a.2)) (fun a => some ((a.1).length ≤ 4294967296 ∧ (a.2).length ≤ 4294967296)) (fun a e _ => by kernel_rfl) (fun a => mpathP (a.1) (a.2)) (fun a h => ⟨mpath_is (a.1) (a.2) h, rfl⟩)

noncomputable def rmpath (service : Str) (method : Str) : Pg (List UInt8) :=
  .ob (List.length service + 1 ≤ 9223372036854775807)
    (.lt (service ++ [47]) fun (v1 : List UInt8) => .ob (v1.length + List.length method ≤ 9223372036854775807) (.ret (v1 ++ method)))
noncomputable def rmpathP (service : Str) (method : Str) : Str := (rmpath service method).val

theorem rmpath_is (service : Str) (method : Str) (h : service.length ≤ 4294967296 ∧ method.length ≤ 4294967296) : Is (rmpath service method) :=
  is_ob (by omega) (is_lt fun v1 hv1 => is_ob (by rw [hv1, List.length_append, List.length_singleton]; omega) is_ret)
noncomputable def e_rmpath : Ent Z := entN Z [] [] (args (aCons (aLf cStr) (a1 (aLf cStr)))) (argsI (n := 9) rfl) (shr [.slot 0 false [none]] (l1 cStr)) [] Tryz.func41 Tryz.ntmps41 (by kernel_rfl) 1 rfl (fun a => rmpath (a.1) (a.2)) (fun a => some ((a.1).length ≤ 4294967296 ∧ (a.2).length ≤ 4294967296)) (fun a e _ => by kernel_rfl) (fun a => rmpathP (a.1) (a.2)) (fun a h => ⟨rmpath_is (a.1) (a.2) h, rfl⟩)

noncomputable def tape1 (l : List Frame) (id : Int) : Pg (Tape × Int × Bool) :=
  .as (l.length ≤ 9223372036854775807)
    (.each false ixP l d_Frame
      (fun (i1 : Int) (a3 : Frame) (y2 : Bool × Tape) =>
        .ix i1 l.length
          (.br (a3.Stream != id) (.ret (.inr (y2.snd, 0, false)))
            (.br ((i1 == 0) != (a3.Kind == 1)) (.ret (.inr (y2.snd, 0, false)))
              (.br (a3.Kind == 1)
                (.ob (List.length a3.Data ≤ 4294967296)
                  (.lt (hreadP a3.Data) fun (v4 : Head × Int) =>
                    .br (v4.snd != 0) (.ret (.inr (y2.snd, 0, false)))
                      (.br (v4.fst.Deadline != 0) (.ret (.inr (y2.snd, 0, false)))
                        (.br (decide (0 < (↑v4.fst.Metas.length : Int))) (.ret (.inr (y2.snd, 0, false)))
                          (.ob (List.length v4.fst.Service ≤ 4294967296 ∧ List.length v4.fst.Method ≤ 4294967296)
                            (.ret (.inl (y2.fst, Tape.mk (mpathP v4.fst.Service v4.fst.Method) y2.snd.In y2.snd.Out y2.snd.Status))))))))
                (.br (a3.Kind == 2)
                  (.br y2.fst
                    (.ob (roomP (y2.snd.Out.length + 1) 16) (.ret (.inl (y2.fst, Tape.mk y2.snd.Method y2.snd.In (y2.snd.Out ++ [a3.Data]) y2.snd.Status))))
                    (.ob (roomP (y2.snd.In.length + 1) 16) (.ret (.inl (y2.fst, Tape.mk y2.snd.Method (y2.snd.In ++ [a3.Data]) y2.snd.Out y2.snd.Status)))))
                  (.br (a3.Kind == 3) (.br y2.fst (.ret (.inr (y2.snd, 0, false))) (.ret (.inl (true, y2.snd))))
                    (.br (a3.Kind == 4)
                      (.ob (List.length a3.Data ≤ 4294967296)
                        (.lt (wrp .i64 (i1 + 1)) fun (v5 : Int) =>
                          .lt (stUnpackP a3.Data) fun (v6 : Status × Int) =>
                            .br y2.fst (.ret (.inr (Tape.mk y2.snd.Method y2.snd.In y2.snd.Out v6.fst, v5, v6.snd == 0)))
                              (.ret (.inr (Tape.mk y2.snd.Method y2.snd.In y2.snd.Out v6.fst, v5, false)))))
                      (.ret (.inr (y2.snd, 0, false))))))))))
      (fun (i1 : Int) (y2 : Bool × Tape) => .ret (y2.snd, 0, false)) (false, Tape.mk [] [] [] (Status.mk 0 [])))
noncomputable def tape1P (l : List Frame) (id : Int) : Tape × Int × Bool := (tape1 l id).val

theorem tape1_is (l : List Frame) (id : Int) (h : okFs l) : Is (tape1 l id) :=
  by
  have hl := h.1
  refine is_as fun _ => IsP.is (Q := fun _ => True) (isP_each (fun k y => y.2.In.length ≤ k ∧ y.2.Out.length ≤ k) ⟨Nat.zero_le _, Nat.zero_le _⟩ (by omega) (fun i1 y2 hlt hI => ?_) (fun y2 _ => isP_ret trivial))
  obtain ⟨q1, q2⟩ := hI
  have hg := okFs_at h i1
  have hh := hread_q (l.getD i1 d_Frame).Data (by omega)
  have keep : y2.2.In.length ≤ i1 + 1 ∧ y2.2.Out.length ≤ i1 + 1 := ⟨by omega, by omega⟩
  refine isP_ix (by omega) (by omega) (isP_bne (fun _ => isP_ret trivial) (fun _ => isP_br (fun _ => isP_ret trivial) (fun _ => isP_beq (fun _ => isP_ob (by omega) (isP_lt fun v4 hv4 => isP_bne (fun _ => isP_ret trivial) (fun _ => isP_bne (fun _ => isP_ret trivial) (fun _ => isP_brd (fun _ => isP_ret trivial) (fun _ => ?_))))) (fun _ => isP_beq (fun _ => isP_br (fun _ => ?_) (fun _ => ?_)) (fun _ => isP_beq (fun _ => isP_br (fun _ => isP_ret trivial) (fun _ => isP_ret keep)) (fun _ => isP_beq (fun _ => isP_ob (by omega) (isP_lt fun v5 hv5 => isP_lt fun v6 hv6 => isP_br (fun _ => isP_ret trivial) (fun _ => isP_ret trivial))) (fun _ => isP_ret trivial)))))))
  · rw [← hv4] at hh
    exact isP_ob hh (isP_ret keep)
  · exact isP_ob (room_of (by omega) (by omega)) (isP_ret ⟨by show y2.2.In.length ≤ _; omega, by show (y2.2.Out ++ [_]).length ≤ _; rw [List.length_append, List.length_singleton]; omega⟩)
  · exact isP_ob (room_of (by omega) (by omega)) (isP_ret ⟨by show (y2.2.In ++ [_]).length ≤ _; rw [List.length_append, List.length_singleton]; omega, by show y2.2.Out.length ≤ _; omega⟩)
noncomputable def e_tape1 : Ent Z := entN Z [e_hread, e_mpath, e_stUnpack] [jS 4 (shp (fun sl => [.slot 17 false [none], .slot 8 false [none], .cells (pid (sl 7)) [none, some 9, some 9, none, none]]) (lCons (cInt .i64) (lCons cBool (l1 cd_Tape))))] (args (aCons (aLf cd_LFrame) (a1 (aLf (cInt .i64))))) (argsI (n := 107) rfl) (shr [.slot 0 true [none, none, none, none, none], .slot 1 false [none], .slot 2 false [none]] (lCons cd_Tape (lCons (cInt .i64) (l1 cBool)))) [] Tryz.func18 Tryz.ntmps18 (by kernel_rfl) 3 rfl (fun a => tape1 (a.1) (a.2)) (fun a => some (okFs (a.1))) (fun a e _ => by kernel_rfl) (fun a => tape1P (a.1) (a.2)) (fun a h => ⟨tape1_is (a.1) (a.2) h, rfl⟩)

noncomputable def ris (f : List Frame) (i : Int) (kind : Int) (stream : Int) : Pg Bool :=
  .br (decide (i < (↑f.length : Int)))
    (.ix i f.length
      (.br ((f.getD i.toNat d_Frame).Kind == kind) (.ix i f.length (.as (f.length ≤ 9223372036854775807) (.ret ((f.getD i.toNat d_Frame).Stream == stream))))
        (.as (f.length ≤ 9223372036854775807) (.ret false))))
    (.as (f.length ≤ 9223372036854775807) (.ret false))
noncomputable def risP (f : List Frame) (i : Int) (kind : Int) (stream : Int) : Bool := (ris f i kind stream).val

theorem ris_is (f : List Frame) (i : Int) (kind : Int) (stream : Int) (h : 0 ≤ i) : Is (ris f i kind stream) :=
  is_brd (fun _ => is_ix (by omega) (by omega) (is_beq (fun _ => is_ix (by omega) (by omega) (is_as fun _ => is_ret)) (fun _ => is_as fun _ => is_ret))) (fun _ => is_as fun _ => is_ret)
noncomputable def e_ris : Ent Z := entN Z [] [] (args (aCons (aLf cd_LFrame) (aCons (aLf (cInt .i64)) (aCons (aLf (cInt .i64)) (a1 (aLf (cInt .i64))))))) (argsI (n := 31) rfl) (shr [.slot 0 false [none]] (l1 cBool)) [] Tryz.func37 Tryz.ntmps37 (by kernel_rfl) 1 rfl (fun a => ris (a.1) (a.2.1) (a.2.2.1) (a.2.2.2)) (fun a => some (0 ≤ (a.2.1))) (fun a e _ => by kernel_rfl) (fun a => risP (a.1) (a.2.1) (a.2.2.1) (a.2.2.2)) (fun a h => ⟨ris_is (a.1) (a.2.1) (a.2.2.1) (a.2.2.2) h, rfl⟩)

noncomputable def rmsgs (f : List Frame) (i : Int) (stream : Int) : Pg (List Str × Int) :=
  .cnt ixP i (↑f.length : Int)
    (fun (i1 : Int) (y2 : List Str) =>
      .ix i1 f.length
        (.br ((f.getD i1.toNat d_Frame).Kind == 2)
          (.ix i1 f.length
            (.as (f.length ≤ 9223372036854775807)
              (.br ((f.getD i1.toNat d_Frame).Stream == stream)
                (.ix i1 f.length (.ob (roomP (y2.length + 1) 16) (.ret (.inl (y2 ++ [(f.getD i1.toNat d_Frame).Data]))))) (.ret (.inr (y2, i1))))))
          (.as (f.length ≤ 9223372036854775807) (.ret (.inr (y2, i1))))))
    (fun (i1 : Int) (y2 : List Str) => .as (f.length ≤ 9223372036854775807) (.ret (y2, i1))) []
noncomputable def rmsgsP (f : List Frame) (i : Int) (stream : Int) : (List Str) × Int := (rmsgs f i stream).val

theorem rmsgs_is (f : List Frame) (i : Int) (stream : Int) (h : 0 ≤ i ∧ f.length ≤ 9000) : Is (rmsgs f i stream) :=
  by
  refine IsP.is (Q := fun _ => True) (isP_cnt (fun k y => (y.length : Int) ≤ k) (by show ((0 : Nat) : Int) ≤ i; omega) (by omega) (by omega) (fun i1 y2 h1 h2 hI => ?_) (fun i1 y2 _ _ _ => isP_as <| isP_ret trivial))
  exact isP_ix (by omega) (by omega) (isP_beq (fun _ => isP_ix (by omega) (by omega) (isP_as <| isP_beq (fun _ => isP_ix (by omega) (by omega) (isP_ob (room_of (by omega) (by omega)) (isP_ret (by show ((y2 ++ [_]).length : Int) ≤ i1 + 1; rw [List.length_append, List.length_singleton]; omega)))) (fun _ => isP_ret trivial))) (fun _ => isP_as <| isP_ret trivial))
noncomputable def e_rmsgs : Ent Z := entN Z [] [jS 2 (shp (fun sl => [.slot 1 false [none], .slot 8 false [some 9]]) (lCons (cInt .i64) (l1 cd_Lstr)))] (args (aCons (aLf cd_LFrame) (aCons (aLf (cInt .i64)) (a1 (aLf (cInt .i64)))))) (argsI (n := 42) rfl) (shr [.slot 0 false [none], .slot 1 false [none]] (lCons cd_Lstr (l1 (cInt .i64)))) [] Tryz.func39 Tryz.ntmps39 (by kernel_rfl) 2 rfl (fun a => rmsgs (a.1) (a.2.1) (a.2.2)) (fun a => some (0 ≤ (a.2.1) ∧ (a.1).length ≤ 9000)) (fun a e _ => by kernel_rfl) (fun a => rmsgsP (a.1) (a.2.1) (a.2.2)) (fun a h => ⟨rmsgs_is (a.1) (a.2.1) (a.2.2) h, rfl⟩)

/-- The messages that a list of frames begins with. -/
def msgsL (id : Int) : List Frame → List Str
  | [] => []
  | a :: l => if a.Kind = 2 ∧ a.Stream = id then a.Data :: msgsL id l else []
theorem msgs_len (id : Int) : ∀ l, (msgsL id l).length ≤ l.length
  | [] => Nat.le_refl _
  | a :: l => by
    unfold msgsL
    split
    · have := msgs_len id l; simp only [List.length_cons]; omega
    · exact Nat.zero_le _
theorem dropF {f : List Frame} {i : Nat} (h : i < f.length) : f.drop i = f.getD i d_Frame :: f.drop (i + 1) := by
  rw [List.drop_eq_getElem_cons h]
  simp [List.getD, h]
theorem rmsgs_eq (f : List Frame) (id : Int) (i : Nat) (hi : i ≤ f.length) : rmsgsP f (i : Int) id = (msgsL id (f.drop i), ((i + (msgsL id (f.drop i)).length : Nat) : Int)) := by
  have key : ∀ (n i : Nat) (y : List Str), i + n = f.length → forN (fun (i1 : Int) (y2 : List Str) => bif (f.getD i1.toNat d_Frame).Kind == 2 then (bif (f.getD i1.toNat d_Frame).Stream == id then (Sum.inl (y2 ++ [(f.getD i1.toNat d_Frame).Data]) : List Str ⊕ (List Str × Int)) else .inr (y2, i1)) else .inr (y2, i1)) (fun (i1 : Int) (y2 : List Str) => (y2, i1)) n (i : Int) y = (y ++ msgsL id (f.drop i), ((i + (msgsL id (f.drop i)).length : Nat) : Int)) := by
    intro n
    induction n with
    | zero =>
      intro i y hn
      rw [List.drop_eq_nil_of_le (by omega)]
      show (y, (i : Int)) = (y ++ [], _)
      rw [List.append_nil]
      rfl
    | succ n ih =>
      intro i y hn
      unfold forN
      rw [dropF (show i < f.length by omega), Int.toNat_natCast]
      generalize f.getD i d_Frame = a
      unfold msgsL
      by_cases c1 : a.Kind = 2
      · by_cases c2 : a.Stream = id
        · have q1 : (a.Kind == 2) = true := by simpa using c1
          have q2 : (a.Stream == id) = true := by simpa using c2
          rw [q1, q2, if_pos ⟨c1, c2⟩]
          have := ih (i + 1) (y ++ [a.Data]) (by omega)
          refine this.trans ?_
          rw [List.append_assoc, List.length_cons]
          refine Prod.ext rfl ?_
          show ((i + 1 + _ : Nat) : Int) = ((i + (_ + 1) : Nat) : Int)
          congr 1
          omega
        · have q1 : (a.Kind == 2) = true := by simpa using c1
          have q2 : (a.Stream == id) = false := by simpa using c2
          rw [q1, q2, if_neg fun e => c2 e.2, List.append_nil]
          rfl
      · have q1 : (a.Kind == 2) = false := by simpa using c1
        rw [q1, if_neg fun e => c1 e.1, List.append_nil]
        rfl
  unfold rmsgsP rmsgs
  simp only [val_cnt, val_ix, val_br, val_as, val_ob, val_ret]
  rw [show ((f.length : Int) - (i : Int)).toNat = f.length - i by omega]
  exact key (f.length - i) i [] (by omega)
theorem ris_eq (f : List Frame) (i : Nat) (kind id : Int) : risP f (i : Int) kind id = match f.drop i with
    | [] => false
    | c :: _ => (c.Kind == kind && c.Stream == id) := by
  unfold risP ris
  simp only [val_br, val_ix, val_as, val_ret, Int.toNat_natCast]
  by_cases h : i < f.length
  · rw [dropF h, decide_eq_true (show (i : Int) < (f.length : Int) by omega), cond_true]
    generalize f.getD i d_Frame = c
    dsimp only
    cases c.Kind == kind <;> rfl
  · rw [List.drop_eq_nil_of_le (by omega), decide_eq_false (show ¬ (i : Int) < (f.length : Int) by omega)]
    rfl

noncomputable def rtape (f : List Frame) (i : Int) (stream : Int) : Pg (Tape × Int × Bool) :=
  .ob (0 ≤ i)
    (.br (!risP f i 1 stream) (.ret (Tape.mk [] [] [] (Status.mk 0 []), i, false))
      (.ix i f.length
        (.ob (List.length (f.getD i.toNat d_Frame).Data ≤ 4294967296)
          (.lt (rhreadP (f.getD i.toNat d_Frame).Data) fun (v1 : Head × Int) =>
            .br (v1.fst.Deadline != 0) (.ret (Tape.mk [] [] [] (Status.mk 0 []), i, false))
              (.br (decide (0 < (↑v1.fst.Metas.length : Int))) (.ret (Tape.mk [] [] [] (Status.mk 0 []), i, false))
                (.lt (wrp .i64 (i + 1)) fun (v2 : Int) =>
                  .ob (0 ≤ v2 ∧ f.length ≤ 9000)
                    (.lt (rmsgsP f v2 stream) fun (v3 : List Str × Int) =>
                      .ob (0 ≤ v3.snd)
                        (.br (!risP f v3.snd 3 stream) (.ret (Tape.mk [] [] [] (Status.mk 0 []), v3.snd, false))
                          (.lt (wrp .i64 (v3.snd + 1)) fun (v4 : Int) =>
                            .ob (0 ≤ v4 ∧ f.length ≤ 9000)
                              (.lt (rmsgsP f v4 stream) fun (v5 : List Str × Int) =>
                                .ob (0 ≤ v5.snd)
                                  (.br (!risP f v5.snd 4 stream) (.ret (Tape.mk [] [] [] (Status.mk 0 []), v5.snd, false))
                                    (.ix v5.snd f.length
                                      (.ob (List.length (f.getD v5.snd.toNat d_Frame).Data ≤ 4294967296)
                                        (.ob (List.length v1.fst.Service ≤ 4294967296 ∧ List.length v1.fst.Method ≤ 4294967296)
                                          (.ret
                                            (Tape.mk (rmpathP v1.fst.Service v1.fst.Method) v3.fst v5.fst (rstUnpackP (f.getD v5.snd.toNat d_Frame).Data).fst,
                                              wrp .i64 (v5.snd + 1), true))))))))))))))))
noncomputable def rtapeP (f : List Frame) (i : Int) (stream : Int) : Tape × Int × Bool := (rtape f i stream).val

theorem rtape_is (f : List Frame) (i : Int) (stream : Int) (h : okFs f ∧ 0 ≤ i ∧ i ≤ f.length) : Is (rtape f i stream) :=
  by
  obtain ⟨hf, h0, h1⟩ := h
  have hl := hf.1
  obtain ⟨k, rfl⟩ : ∃ k : Nat, i = (k : Int) := ⟨i.toNat, by omega⟩
  have get : ∀ (j : Nat) (kind : Int), ¬ (!risP f (j : Int) kind stream) = true → j < f.length := fun j kind e => by
    rw [ris_eq] at e
    rcases Nat.lt_or_ge j f.length with hlt | hge
    · exact hlt
    · rw [List.drop_eq_nil_of_le hge] at e
      exact absurd rfl e
  have w : ∀ j : Nat, j ≤ 9000 → wrp .i64 ((j : Int) + 1) = ((j + 1 : Nat) : Int) := fun j hj => wrp_next (by omega)
  refine is_ob (by omega) (is_br (fun _ => is_ret) (fun e1 => ?_))
  have k1 := get k 1 (by rw [e1]; exact Bool.false_ne_true)
  have g1 := okFs_at hf k
  refine is_ix (by omega) (by omega) (is_ob (by rw [Int.toNat_natCast]; omega) (is_lt fun v1 hv1 => is_bne (fun _ => is_ret) (fun _ => is_brd (fun _ => is_ret) (fun _ => ?_))))
  rw [w k (by omega)]
  refine is_ob (by omega) (is_lt fun v2 hv2 => ?_)
  rw [rmsgs_eq f stream (k + 1) (by omega)] at hv2
  have m1 := msgs_len stream (f.drop (k + 1))
  rw [List.length_drop] at m1
  subst hv2
  refine is_ob (by omega) (is_br (fun _ => is_ret) (fun e2 => ?_))
  have k2 := get (k + 1 + (msgsL stream (f.drop (k + 1))).length) 3 (by rw [e2]; exact Bool.false_ne_true)
  rw [w _ (by omega)]
  refine is_ob (by omega) (is_lt fun v3 hv3 => ?_)
  rw [rmsgs_eq f stream _ (by omega)] at hv3
  have m2 := msgs_len stream (f.drop (k + 1 + (msgsL stream (f.drop (k + 1))).length + 1))
  rw [List.length_drop] at m2
  subst hv3
  refine is_ob (by omega) (is_br (fun _ => is_ret) (fun e3 => ?_))
  have k3 := get _ 4 (by rw [e3]; exact Bool.false_ne_true)
  have g3 := okFs_at hf (k + 1 + (msgsL stream (f.drop (k + 1))).length + 1 + (msgsL stream (f.drop (k + 1 + (msgsL stream (f.drop (k + 1))).length + 1))).length)
  have hh := hread_q (f.getD k d_Frame).Data (by omega)
  rw [hread_eq _ (by omega)] at hh
  rw [Int.toNat_natCast] at hv1
  rw [← hv1] at hh
  dsimp only
  exact is_ix (by omega) (by omega) (is_ob (by rw [Int.toNat_natCast]; omega) (is_ob hh is_ret))
noncomputable def e_rtape : Ent Z := entN Z [e_ris, e_rhread, e_rmsgs, e_rstUnpack, e_rmpath] [] (args (aCons (aLf cd_LFrame) (aCons (aLf (cInt .i64)) (a1 (aLf (cInt .i64)))))) (argsI (n := 93) rfl) (shr [.slot 0 true [none, none, none, none, none], .slot 1 false [none], .slot 2 false [none]] (lCons cd_Tape (lCons (cInt .i64) (l1 cBool)))) [] Tryz.func20 Tryz.ntmps20 (by kernel_rfl) 3 rfl (fun a => rtape (a.1) (a.2.1) (a.2.2)) (fun a => some (okFs (a.1) ∧ 0 ≤ (a.2.1) ∧ (a.2.1) ≤ (a.1).length)) (fun a e _ => by kernel_rfl) (fun a => rtapeP (a.1) (a.2.1) (a.2.2)) (fun a h => ⟨rtape_is (a.1) (a.2.1) (a.2.2) h, rfl⟩)
end Go.Proofs.YtcdhbdjlamikgaaGreatDoor
