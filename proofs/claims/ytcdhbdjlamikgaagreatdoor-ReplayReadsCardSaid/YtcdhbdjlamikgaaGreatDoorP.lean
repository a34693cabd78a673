/-
  Replay: heads are read as the reference reads them.
-/
import Derived.Test.YtcdhbdjlamikgaaGreatDoorO
namespace Go.Proofs.YtcdhbdjlamikgaaGreatDoor
open Go.RowKit Go.Vc
set_option linter.unusedVariables false
set_option linter.unusedSimpArgs false
set_option maxRecDepth 100000

noncomputable def hStep (m : Int) (x4 : Int × frame_taker × Head) : (Int × frame_taker × Head) ⊕ ((frame_taker × Head) ⊕ (Head × Int)) :=
  bif decide (x4.1 < m) then (bif x4.2.1.errno == 0 then .inl (wrp .u64 (x4.1 + 1), (ttextP (ttextP x4.2.1).2).2, Head.mk x4.2.2.Service x4.2.2.Method x4.2.2.Deadline (x4.2.2.Metas ++ [AMeta.mk (ttextP x4.2.1).1 (ttextP (ttextP x4.2.1).2).1])) else .inr (.inl x4.2)) else .inr (.inl x4.2)
noncomputable def rStep (_ : Int) (y : List UInt8 × Head) : (List UInt8 × Head) ⊕ ((List UInt8 × Head) ⊕ (Head × Int)) :=
  bif (rtake44P y.1).2.2 != 0 then .inr (.inr (Head.mk [] [] 0 [], (rtake44P y.1).2.2)) else bif (rtake44P (rtake44P y.1).2.1).2.2 != 0 then .inr (.inr (Head.mk [] [] 0 [], (rtake44P (rtake44P y.1).2.1).2.2))
    else .inl ((rtake44P (rtake44P y.1).2.1).2.1, Head.mk y.2.Service y.2.Method y.2.Deadline (y.2.Metas ++ [AMeta.mk (rtake44P y.1).1 (rtake44P (rtake44P y.1).2.1).1]))
theorem exit_bad (m i : Int) (t : frame_taker) (h : Head) (n : Nat) (he : t.errno ≠ 0) : whN (hStep m) default (n + 1) (i, t, h) = .inl (t, h) := by
  unfold whN hStep
  have : (t.errno == 0) = false := by simpa using he
  dsimp only
  rw [this]
  cases decide (i < m) <;> rfl
theorem loop_same (M : Nat) (hM : M ≤ 16) : ∀ (k i n : Nat) (s : Str) (h : Head), i + k = M → k + 2 ≤ n → s.length ≤ 4294967296 →
    (∃ s' h', forN rStep (fun _ y => .inl y) k (i : Int) (s, h) = .inl (s', h') ∧ whN (hStep (M : Int)) default n ((i : Int), frame_taker.mk s 0, h) = .inl (frame_taker.mk s' 0, h')) ∨
    (∃ e t' h', e ≠ 0 ∧ forN rStep (fun _ y => .inl y) k (i : Int) (s, h) = .inr (Head.mk [] [] 0 [], e) ∧ whN (hStep (M : Int)) default n ((i : Int), frame_taker.mk s 0, h) = .inl (t', h') ∧ t'.errno = e)
  | 0, i, n + 1, s, h, hi, hn, hs => by
    refine .inl ⟨s, h, rfl, ?_⟩
    unfold whN hStep
    dsimp only
    rw [decide_eq_false (show ¬ (i : Int) < (M : Int) by omega)]
    rfl
  | k + 1, i, n + 1, s, h, hi, hn, hs => by
    have hlt : decide ((i : Int) < (M : Int)) = true := decide_eq_true (by omega)
    have w : wrp .u64 ((i : Int) + 1) = ((i + 1 : Nat) : Int) := wrp_of (k := .u64) (n := i + 1) rfl (show i + 1 < 2 ^ 64 by omega)
    obtain ⟨t1, t2⟩ := ttext_ok (frame_taker.mk s 0) rfl hs
    have hl1 := rtake44_len s hs
    obtain ⟨m, rfl⟩ : ∃ m, n = m + 1 := ⟨n - 1, by omega⟩
    by_cases e1 : (rtake44P s).2.2 = 0
    · have t1 := t1 e1
      have b1 : ((rtake44P s).2.2 != 0) = false := by rw [e1]; rfl
      have hs2 : (rtake44P s).2.1.length ≤ 4294967296 := by omega
      obtain ⟨u1, u2⟩ := ttext_ok (frame_taker.mk (rtake44P s).2.1 0) rfl hs2
      have hl2 := rtake44_len _ hs2
      by_cases e2 : (rtake44P (rtake44P s).2.1).2.2 = 0
      · have u1 := u1 e2
        have b2 : ((rtake44P (rtake44P s).2.1).2.2 != 0) = false := by rw [e2]; rfl
        have hf : forN rStep (fun _ y => (.inl y : (List UInt8 × Head) ⊕ (Head × Int))) (k + 1) (i : Int) (s, h) = forN rStep (fun _ y => .inl y) k ((i + 1 : Nat) : Int) ((rtake44P (rtake44P s).2.1).2.1, Head.mk h.Service h.Method h.Deadline (h.Metas ++ [AMeta.mk (rtake44P s).1 (rtake44P (rtake44P s).2.1).1])) := by
          conv => lhs; unfold forN rStep
          dsimp only
          rw [b1, b2]
          rfl
        have hw : whN (hStep (M : Int)) default (m + 1 + 1) ((i : Int), frame_taker.mk s 0, h) = whN (hStep (M : Int)) default (m + 1) (((i + 1 : Nat) : Int), frame_taker.mk (rtake44P (rtake44P s).2.1).2.1 0, Head.mk h.Service h.Method h.Deadline (h.Metas ++ [AMeta.mk (rtake44P s).1 (rtake44P (rtake44P s).2.1).1])) := by
          conv => lhs; unfold whN hStep
          dsimp only
          rw [hlt, w, t1]
          dsimp only
          rw [u1]
          rfl
        rw [hf, hw]
        exact loop_same M hM k (i + 1) (m + 1) _ _ (by omega) (by omega) (by omega)
      · obtain ⟨u3, u4, u5⟩ := u2 e2
        have b2 : ((rtake44P (rtake44P s).2.1).2.2 != 0) = true := by simpa using e2
        refine .inr ⟨(rtake44P (rtake44P s).2.1).2.2, (ttextP (frame_taker.mk (rtake44P s).2.1 0)).2, Head.mk h.Service h.Method h.Deadline (h.Metas ++ [AMeta.mk (rtake44P s).1 (ttextP (frame_taker.mk (rtake44P s).2.1 0)).1]), e2, ?_, ?_, u3⟩
        · unfold forN rStep
          dsimp only
          rw [b1, b2]
          rfl
        · have hw : whN (hStep (M : Int)) default (m + 1 + 1) ((i : Int), frame_taker.mk s 0, h) = whN (hStep (M : Int)) default (m + 1) (((i + 1 : Nat) : Int), (ttextP (frame_taker.mk (rtake44P s).2.1 0)).2, Head.mk h.Service h.Method h.Deadline (h.Metas ++ [AMeta.mk (rtake44P s).1 (ttextP (frame_taker.mk (rtake44P s).2.1 0)).1])) := by
            conv => lhs; unfold whN hStep
            dsimp only
            rw [hlt, w, t1]
            rfl
          rw [hw, exit_bad _ _ _ _ _ (by rw [u3]; exact e2)]
    · obtain ⟨u3, u4, u5⟩ := t2 e1
      have b1 : ((rtake44P s).2.2 != 0) = true := by simpa using e1
      have hne : (ttextP (frame_taker.mk s 0)).2.errno ≠ 0 := by rw [u3]; exact e1
      refine .inr ⟨(rtake44P s).2.2, (ttextP (frame_taker.mk s 0)).2, Head.mk h.Service h.Method h.Deadline (h.Metas ++ [AMeta.mk (ttextP (frame_taker.mk s 0)).1 []]), e1, ?_, ?_, u3⟩
      · unfold forN rStep
        dsimp only
        rw [b1]
        rfl
      · have hw : whN (hStep (M : Int)) default (m + 1 + 1) ((i : Int), frame_taker.mk s 0, h) = whN (hStep (M : Int)) default (m + 1) (((i + 1 : Nat) : Int), (ttextP (frame_taker.mk s 0)).2, Head.mk h.Service h.Method h.Deadline (h.Metas ++ [AMeta.mk (ttextP (frame_taker.mk s 0)).1 []])) := by
          conv => lhs; unfold whN hStep
          dsimp only
          rw [hlt, w, ttext_bad _ hne]
          rfl
        rw [hw, exit_bad _ _ _ _ _ hne]

noncomputable def hFin (data : Str) (dl : Int) (y5 : frame_taker × Head) : Head × Int :=
  bif y5.1.errno != 0 then (Head.mk [] [] 0 [], y5.1.errno) else bif y5.1.s != [] then (Head.mk [] [] 0 [], 18) else bif decide (1099511627776 < dl) then (Head.mk [] [] 0 [], 6) else
    bif (fheadP (Head.mk y5.2.Service y5.2.Method (wrp .i64 dl) y5.2.Metas)).2 != 0 then (Head.mk [] [] 0 [], (fheadP (Head.mk y5.2.Service y5.2.Method (wrp .i64 dl) y5.2.Metas)).2) else
    bif (fheadP (Head.mk y5.2.Service y5.2.Method (wrp .i64 dl) y5.2.Metas)).1 != data then (Head.mk [] [] 0 [], 5) else (Head.mk y5.2.Service y5.2.Method (wrp .i64 dl) y5.2.Metas, 0)
noncomputable def hMid (data : Str) (v7 : Int × frame_taker) (a b : Str) (dl : Int) (y1 : frame_taker) : Head × Int :=
  thenS (whN (hStep v7.1) default 20 (0, y1, Head.mk a b 0 [])) (hFin data dl)
def hTop (v7 : Int × frame_taker) : frame_taker ⊕ (Head × Int) := bif v7.2.errno == 0 then (bif decide (16 < v7.1) then .inl (frame_taker.mk v7.2.s 3) else .inl v7.2) else .inl v7.2
theorem hread_def (data : Str) : hreadP data = thenS (hTop (tnumP (tnumP (ttextP (ttextP (frame_taker.mk data 0)).2).2).2)) (hMid data (tnumP (tnumP (ttextP (ttextP (frame_taker.mk data 0)).2).2).2) (ttextP (frame_taker.mk data 0)).1 (ttextP (ttextP (frame_taker.mk data 0)).2).1 (tnumP (ttextP (ttextP (frame_taker.mk data 0)).2).2).1) := rfl
noncomputable def rFin (data : Str) (dl : Int) (y3 : List UInt8 × Head) : Head × Int :=
  bif y3.1 != [] then (Head.mk [] [] 0 [], 18) else bif decide (1099511627776 < dl) then (Head.mk [] [] 0 [], 6) else
    bif (rheadP (Head.mk y3.2.Service y3.2.Method (wrp .i64 dl) y3.2.Metas)).2 != 0 then (Head.mk [] [] 0 [], (rheadP (Head.mk y3.2.Service y3.2.Method (wrp .i64 dl) y3.2.Metas)).2) else
    bif (rheadP (Head.mk y3.2.Service y3.2.Method (wrp .i64 dl) y3.2.Metas)).1 != data then (Head.mk [] [] 0 [], 5) else (Head.mk y3.2.Service y3.2.Method (wrp .i64 dl) y3.2.Metas, 0)
noncomputable def rMid (data : Str) (a b : Str) (dl m : Int) (s : Str) : Head × Int :=
  thenS (forN rStep (fun _ y => .inl y) (wrp .i64 m - 0).toNat 0 (s, Head.mk a b 0 [])) (rFin data dl)
theorem rhread_def (data : Str) : rhreadP data = bif (rtake44P data).2.2 != 0 then (Head.mk [] [] 0 [], (rtake44P data).2.2) else bif (rtake44P (rtake44P data).2.1).2.2 != 0 then (Head.mk [] [] 0 [], (rtake44P (rtake44P data).2.1).2.2) else
    bif (rtakeP (rtake44P (rtake44P data).2.1).2.1).2.2 != 0 then (Head.mk [] [] 0 [], (rtakeP (rtake44P (rtake44P data).2.1).2.1).2.2) else
    bif (rtakeP (List.drop (rtakeP (rtake44P (rtake44P data).2.1).2.1).2.1.toNat (List.take (rtake44P (rtake44P data).2.1).2.1.length (rtake44P (rtake44P data).2.1).2.1))).2.2 != 0 then (Head.mk [] [] 0 [], (rtakeP (List.drop (rtakeP (rtake44P (rtake44P data).2.1).2.1).2.1.toNat (List.take (rtake44P (rtake44P data).2.1).2.1.length (rtake44P (rtake44P data).2.1).2.1))).2.2) else
    bif decide (16 < (rtakeP (List.drop (rtakeP (rtake44P (rtake44P data).2.1).2.1).2.1.toNat (List.take (rtake44P (rtake44P data).2.1).2.1.length (rtake44P (rtake44P data).2.1).2.1))).1) then (Head.mk [] [] 0 [], 3) else
    rMid data (rtake44P data).1 (rtake44P (rtake44P data).2.1).1 (rtakeP (rtake44P (rtake44P data).2.1).2.1).1 (rtakeP (List.drop (rtakeP (rtake44P (rtake44P data).2.1).2.1).2.1.toNat (List.take (rtake44P (rtake44P data).2.1).2.1.length (rtake44P (rtake44P data).2.1).2.1))).1
      (List.drop (wrp .i64 ((rtakeP (rtake44P (rtake44P data).2.1).2.1).2.1 + (rtakeP (List.drop (rtakeP (rtake44P (rtake44P data).2.1).2.1).2.1.toNat (List.take (rtake44P (rtake44P data).2.1).2.1.length (rtake44P (rtake44P data).2.1).2.1))).2.1)).toNat (List.take (rtake44P (rtake44P data).2.1).2.1.length (rtake44P (rtake44P data).2.1).2.1)) := rfl
theorem hMid_bad (data : Str) (v7 : Int × frame_taker) (a b : Str) (dl : Int) (y1 : frame_taker) (he : y1.errno ≠ 0) : hMid data v7 a b dl y1 = (Head.mk [] [] 0 [], y1.errno) := by
  unfold hMid
  rw [exit_bad _ _ _ _ 19 he, thenS_inl]
  unfold hFin
  have : (y1.errno != 0) = true := by simpa using he
  rw [this]
  rfl
theorem hTop_bad (v7 : Int × frame_taker) (he : v7.2.errno ≠ 0) : hTop v7 = .inl v7.2 := by
  unfold hTop
  have : (v7.2.errno == 0) = false := by simpa using he
  rw [this]
  rfl
theorem okM_loop : ∀ (k : Nat) (i : Int) (s : Str) (h : Head) (s' : Str) (h' : Head), s.length ≤ 4294967296 → okM h → forN rStep (fun _ y => (.inl y : (List UInt8 × Head) ⊕ (Head × Int))) k i (s, h) = .inl (s', h') → okM h' ∧ h'.Metas.length = h.Metas.length + k
  | 0, i, s, h, s', h', hs, ho, e => by
    have e : (.inl (s, h) : (List UInt8 × Head) ⊕ (Head × Int)) = .inl (s', h') := e
    injection e with e
    injection e with _ e
    subst e
    exact ⟨ho, rfl⟩
  | k + 1, i, s, h, s', h', hs, ho, e => by
    unfold forN rStep at e
    dsimp only at e
    have l1 := rtake44_len s hs
    have l2 := rtake44_len (rtake44P s).2.1 (by omega)
    cases b1 : (rtake44P s).2.2 != 0 with
    | true => rw [b1] at e; cases e
    | false =>
      cases b2 : (rtake44P (rtake44P s).2.1).2.2 != 0 with
      | true => rw [b1, b2] at e; cases e
      | false =>
        rw [b1, b2] at e
        obtain ⟨q1, q2⟩ := okM_loop k (i + 1) _ _ s' h' (by omega) (okM_add (k := (rtake44P s).1) (v := (rtake44P (rtake44P s).2.1).1) ho (by omega) (by omega)) e
        refine ⟨q1, ?_⟩
        rw [q2]
        show (h.Metas ++ [_]).length + k = _
        rw [List.length_append, List.length_singleton]
        omega
theorem hread_eq (data : Str) (h : data.length ≤ 4294967296) : hreadP data = rhreadP data := by
  rw [hread_def, rhread_def]
  obtain ⟨a1, a2⟩ := ttext_ok (frame_taker.mk data 0) rfl h
  have l1 := rtake44_len data h
  by_cases e1 : (rtake44P data).2.2 = 0
  · rw [a1 e1]
    have b1 : ((rtake44P data).2.2 != 0) = false := by rw [e1]; rfl
    rw [b1, cond_false]
    have hs1 : (rtake44P data).2.1.length ≤ 4294967296 := by omega
    generalize (rtake44P data).1 = A at *
    generalize (rtake44P data).2.1 = s1 at *
    dsimp only
    obtain ⟨c1, c2⟩ := ttext_ok (frame_taker.mk s1 0) rfl hs1
    have l2 := rtake44_len s1 hs1
    by_cases e2 : (rtake44P s1).2.2 = 0
    · rw [c1 e2]
      have b2 : ((rtake44P s1).2.2 != 0) = false := by rw [e2]; rfl
      rw [b2, cond_false]
      have hs2 : (rtake44P s1).2.1.length ≤ 4294967296 := by omega
      generalize (rtake44P s1).1 = B at *
      generalize (rtake44P s1).2.1 = s2 at *
      dsimp only
      rw [tnum_ok (frame_taker.mk s2 0) rfl]
      dsimp only
      rw [List.take_length]
      have r2 := take_rng s2
      rw [take_eq] at r2
      obtain ⟨⟨p1, p2⟩, p3, p4, _⟩ := r2
      by_cases e3 : (rtakeP s2).2.2 = 0
      · rw [e3]
        have b3 : ((0 : Int) != 0) = false := rfl
        rw [b3, cond_false]
        have r3 := take_rng (s2.drop (rtakeP s2).2.1.toNat)
        rw [take_eq, List.length_drop] at r3
        obtain ⟨⟨o1, o2⟩, o3, o4, _⟩ := r3
        have hdrop : List.drop (wrp .i64 ((rtakeP s2).2.1 + (rtakeP (List.drop (rtakeP s2).2.1.toNat s2)).2.1)).toNat s2 = List.drop (rtakeP (List.drop (rtakeP s2).2.1.toNat s2)).2.1.toNat (List.drop (rtakeP s2).2.1.toNat s2) := by
          rw [wrp_in (k := .i64) (by simp only [InR]; omega), List.drop_drop]
          congr 1
          omega
        rw [hdrop, tnum_ok _ rfl]
        have hs3 : (List.drop (rtakeP s2).2.1.toNat s2).length ≤ 4294967296 := by rw [List.length_drop]; omega
        generalize List.drop (rtakeP s2).2.1.toNat s2 = s3 at *
        generalize (rtakeP s2).1 = dl at *
        dsimp only
        by_cases e4 : (rtakeP s3).2.2 = 0
        · rw [e4, b3, cond_false]
          by_cases e5 : 16 < (rtakeP s3).1
          · have hT : hTop ((rtakeP s3).1, frame_taker.mk (s3.drop (rtakeP s3).2.1.toNat) 0) = .inl (frame_taker.mk (s3.drop (rtakeP s3).2.1.toNat) 3) := by
              unfold hTop
              rw [decide_eq_true e5]
              rfl
            rw [hT, thenS_inl, hMid_bad _ _ _ _ _ _ (show (3 : Int) ≠ 0 by decide), decide_eq_true e5]
            rfl
          · have hT : hTop ((rtakeP s3).1, frame_taker.mk (s3.drop (rtakeP s3).2.1.toNat) 0) = .inl (frame_taker.mk (s3.drop (rtakeP s3).2.1.toNat) 0) := by
              unfold hTop
              rw [decide_eq_false e5]
              rfl
            rw [hT, thenS_inl, decide_eq_false e5, cond_false]
            have hs4 : (s3.drop (rtakeP s3).2.1.toNat).length ≤ 4294967296 := by rw [List.length_drop]; omega
            obtain ⟨M, hM⟩ : ∃ M : Nat, (rtakeP s3).1 = (M : Int) := ⟨(rtakeP s3).1.toNat, by omega⟩
            rw [hM]
            unfold hMid rMid
            have w : (wrp .i64 (M : Int) - 0).toNat = M := by rw [wrp_in (k := .i64) (by simp only [InR]; omega)]; omega
            rw [w]
            rcases loop_same M (by omega) M 0 20 (s3.drop (rtakeP s3).2.1.toNat) (Head.mk A B 0 []) (by omega) (by omega) hs4 with ⟨s', h', k1, k2⟩ | ⟨e, t', h', k0, k1, k2, k3⟩
            · have k1' : forN rStep (fun _ y => (.inl y : (List UInt8 × Head) ⊕ (Head × Int))) M 0 (s3.drop (rtakeP s3).2.1.toNat, Head.mk A B 0 []) = .inl (s', h') := k1
              have k2' : whN (hStep (M : Int)) default 20 (0, frame_taker.mk (s3.drop (rtakeP s3).2.1.toNat) 0, Head.mk A B 0 []) = .inl (frame_taker.mk s' 0, h') := k2
              dsimp only
              rw [k1', k2', thenS_inl, thenS_inl]
              unfold hFin rFin
              dsimp only
              obtain ⟨q1, q2⟩ := okM_loop M 0 _ _ s' h' hs4 ⟨by show A.length ≤ _; omega, by show B.length ≤ _; omega, fun m hm => nomatch (show m ∈ ([] : List AMeta) from hm)⟩ k1'
              have hok : okHead (Head.mk h'.Service h'.Method (wrp .i64 dl) h'.Metas) := okM_head q1 (by rw [q2]; show 0 + M ≤ 17; omega)
              rw [fhead_eq _ hok, b3, cond_false]
            · have k1' : forN rStep (fun _ y => (.inl y : (List UInt8 × Head) ⊕ (Head × Int))) M 0 (s3.drop (rtakeP s3).2.1.toNat, Head.mk A B 0 []) = .inr (Head.mk [] [] 0 [], e) := k1
              have k2' : whN (hStep (M : Int)) default 20 (0, frame_taker.mk (s3.drop (rtakeP s3).2.1.toNat) 0, Head.mk A B 0 []) = .inl (t', h') := k2
              dsimp only
              rw [k1', k2', thenS_inl, thenS_inr]
              unfold hFin
              dsimp only
              have : (t'.errno != 0) = true := by rw [k3]; simpa using k0
              rw [this, k3]
              rfl
        · have b4 : ((rtakeP s3).2.2 != 0) = true := by simpa using e4
          rw [b4, cond_true, hTop_bad _ e4, thenS_inl, hMid_bad _ _ _ _ _ _ e4]
      · have b3 : ((rtakeP s2).2.2 != 0) = true := by simpa using e3
        rw [b3, cond_true, tnum_bad _ e3, hTop_bad _ e3, thenS_inl, hMid_bad _ _ _ _ _ _ e3]
    · have b2 : ((rtake44P s1).2.2 != 0) = true := by simpa using e2
      obtain ⟨k1, _, _⟩ := c2 e2
      have hne : (ttextP (frame_taker.mk s1 0)).2.errno ≠ 0 := by rw [k1]; exact e2
      rw [b2, cond_true, tnum_bad _ hne]
      dsimp only
      rw [tnum_bad _ hne, hTop_bad _ hne, thenS_inl, hMid_bad _ _ _ _ _ _ hne, k1]
  · have b1 : ((rtake44P data).2.2 != 0) = true := by simpa using e1
    obtain ⟨k1, _, _⟩ := a2 e1
    have hne : (ttextP (frame_taker.mk data 0)).2.errno ≠ 0 := by rw [k1]; exact e1
    rw [b1, cond_true, ttext_bad _ hne]
    dsimp only
    rw [tnum_bad _ hne]
    dsimp only
    rw [tnum_bad _ hne, hTop_bad _ hne, thenS_inl, hMid_bad _ _ _ _ _ _ hne, k1]
end Go.Proofs.YtcdhbdjlamikgaaGreatDoor
