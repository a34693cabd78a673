/-
  Replay: heads, written.
-/
import Derived.Test.YtcdhbdjlamikgaaGreatDoorJ
namespace Go.Proofs.YtcdhbdjlamikgaaGreatDoor
open Go.RowKit Go.Vc
set_option linter.unusedVariables false
set_option linter.unusedSimpArgs false
set_option maxRecDepth 100000

theorem forE_zero {A : Type} {b : Nat → A → Unit → Unit ⊕ Int} {f : Nat → Unit → Int} (P : A → Prop) (hb : ∀ k a, b k a () = .inl () → P a) (hr : ∀ k a r, b k a () = .inr r → r ≠ 0) : ∀ (l : List A) (k : Nat), forE b f l k () = 0 → ∀ a ∈ l, P a
  | [], _, _ => fun a ha => nomatch ha
  | x :: l, k, h => by
    unfold forE at h
    cases hx : b k x () with
    | inl u =>
      rw [hx] at h
      intro a ha
      rcases List.mem_cons.1 ha with rfl | ha
      · exact hb k _ hx
      · exact forE_zero P hb hr l (k + 1) h a ha
    | inr r =>
      rw [hx] at h
      exact absurd h (hr k x r hx)
theorem rkey_len (s : Str) (h : rkeyP s = true) : s.length ≤ 40 := by
  unfold rkeyP rkey at h
  simp only [val_br, val_ret] at h
  by_cases h1 : (s.length : Int) < 1
  · rw [decide_eq_true h1] at h; cases h
  · rw [decide_eq_false h1, cond_false] at h
    by_cases h2 : (40 : Int) < s.length
    · rw [decide_eq_true h2] at h; cases h
    · omega
theorem part_len (s : Str) (h : partB s = true) : s.length ≤ 40 := by
  unfold partB at h
  rw [Bool.and_eq_true, decide_eq_true_eq] at h
  exact h.1
theorem headed_eq (hd : Head) : headedP hd = rheadedP hd := by
  unfold headedP headed rheadedP rheaded
  simp only [val_cut, val_br, val_ob, val_as, val_each, val_ix, val_lt, val_ret, ifull_eq, ipart_eq, r6part_eq, fkey_eq]
  have e : ∀ s, uvalidP s = rvalidP s := fun s => rfl
  simp only [e, less_total]
  cases r6fullP hd.Service <;> cases partB hd.Method <;> cases decide (hd.Deadline < 0) <;> cases decide (1099511627776 < hd.Deadline) <;> cases decide (16 < (hd.Metas.length : Int)) <;> rfl
theorem headed_ok (hd : Head) (h : headedP hd = 0) : hd.Service.length ≤ 120 ∧ hd.Method.length ≤ 40 ∧ 0 ≤ hd.Deadline ∧ hd.Deadline ≤ 1099511627776 ∧ hd.Metas.length ≤ 16 ∧ ∀ m ∈ hd.Metas, m.Key.length ≤ 40 ∧ m.Val.length ≤ 200 := by
  rw [headed_eq] at h
  unfold rheadedP rheaded at h
  simp only [val_br, val_ob, val_each, val_ix, val_lt, val_ret, r6part_eq] at h
  cases h1 : r6fullP hd.Service with
  | false => rw [h1] at h; exact absurd h (by simp)
  | true =>
    cases h2 : partB hd.Method with
    | false => rw [h1, h2] at h; exact absurd h (by simp)
    | true =>
      by_cases h3 : hd.Deadline < 0
      · rw [h1, h2, decide_eq_true h3] at h; exact absurd h (by simp)
      · by_cases h4 : 1099511627776 < hd.Deadline
        · rw [h1, h2, decide_eq_false h3, decide_eq_true h4] at h; exact absurd h (by simp)
        · by_cases h5 : 16 < (hd.Metas.length : Int)
          · rw [h1, h2, decide_eq_false h3, decide_eq_false h4, decide_eq_true h5] at h; exact absurd h (by simp)
          · rw [h1, h2, decide_eq_false h3, decide_eq_false h4, decide_eq_false h5] at h
            simp only [Bool.not_true, cond_false] at h
            have hs := h1
            rw [r6full_eq, Bool.and_eq_true, decide_eq_true_eq] at hs
            refine ⟨hs.1, part_len _ h2, by omega, by omega, by omega, forE_zero (fun m : AMeta => m.Key.length ≤ 40 ∧ m.Val.length ≤ 200) (fun k a hk => ?_) (fun k a r hk => ?_) _ _ h⟩
            · cases hk1 : rkeyP a.Key with
              | false => rw [hk1] at hk; cases hk
              | true =>
                by_cases hv : 200 < (a.Val.length : Int)
                · rw [hk1, decide_eq_true hv] at hk; cases hk
                · exact ⟨rkey_len _ hk1, by omega⟩
            · revert hk
              cases rkeyP a.Key <;> cases decide (200 < (a.Val.length : Int)) <;> cases rvalidP a.Val <;> cases decide ((0 : Int) < (k : Int)) <;> cases !Op.bytesLess (hd.Metas.getD (wrp .i64 ((k : Int) - 1)).toNat d_Meta).Key a.Key <;> intro hk <;> first | (cases hk; decide) | (cases hk; done)

noncomputable def fhead (hd : Head) : Pg (List UInt8 × Int) :=
  .ob (okHead hd)
    (.lt (headedP hd) fun (v4 : Int) =>
      .br (v4 != 0) (.ret ([], v4))
        (.ob (List.length hd.Service ≤ 4294967296)
          (.ob (List.length hd.Method ≤ 4294967296)
            (.lt (sizedP hd.Service) fun (v5 : Str) =>
              .lt (sizedP hd.Method) fun (v6 : Str) =>
                .ob (List.length v5 + List.length v6 ≤ 9223372036854775807)
                  (.lt (wrp .u64 hd.Deadline) fun (v7 : Int) =>
                    .ob (isU64 v7)
                      (.lt (v5 ++ v6) fun (v8 : List UInt8) =>
                        .lt (vputP v7) fun (v9 : Str) =>
                          .ob (v8.length + List.length v9 ≤ 9223372036854775807)
                            (.lt (wrp .u64 (↑hd.Metas.length : Int)) fun (v10 : Int) =>
                              .ob (isU64 v10)
                                (.lt (v8 ++ v9) fun (v11 : List UInt8) =>
                                  .lt (vputP v10) fun (v12 : Str) =>
                                    .ob (v11.length + List.length v12 ≤ 9223372036854775807)
                                      (.lt (v11 ++ v12) fun (v13 : List UInt8) =>
                                        .ob ((dp (roomP v13.length 1)).p ∧ True)
                                          (.as (hd.Metas.length ≤ 9223372036854775807)
                                            (.as (hd.Metas.length ≤ 9223372036854775807)
                                              (.each false ixP hd.Metas d_Meta
                                                (fun (i1 : Int) (a3 : AMeta) (y2 : List Int) =>
                                                  .ix i1 hd.Metas.length
                                                    (.ob (List.length a3.Key ≤ 4294967296)
                                                      (.ob (List.length a3.Val ≤ 4294967296)
                                                        (.lt (sizedP a3.Key) fun (v14 : Str) =>
                                                          .lt (sizedP a3.Val) fun (v15 : Str) =>
                                                            .ob (List.length v14 + List.length v15 ≤ 9223372036854775807)
                                                              (.lt (v14 ++ v15) fun (v16 : List UInt8) =>
                                                                .ob ((dp (roomP (y2.length + v16.length) 1)).p ∧ True) (.ret (.inl (y2 ++ txI v16))))))))
                                                (fun (i1 : Int) (y2 : List Int) =>
                                                  .ob
                                                    ((dp (0 < y2.length)).p ∧
                                                      (dp ((↑y2.length : Int) = (↑y2.length : Int) ∧ 0 < (↑y2.length : Int) ∧ allN (inByte y2) y2.length = true)).p ∧ True)
                                                    (.ret (txU y2, 0)))
                                                (txI v13)))))))))))))
noncomputable def fheadP (hd : Head) : Str × Int := (fhead hd).val

theorem fhead_is (hd : Head) (h : okHead hd) : Is (fhead hd) :=
  by
  refine is_ob h (is_lt fun v4 hv4 => is_bne (fun _ => is_ret) fun h0 => ?_)
  obtain ⟨q1, q2, q3, q4, q5, q6⟩ := headed_ok hd (by rw [← hv4]; exact h0)
  have l1 := sized_len hd.Service (by omega)
  have l2 := sized_len hd.Method (by omega)
  have p1 := sized_pos hd.Service (by omega)
  obtain ⟨D, hD⟩ : ∃ D : Nat, hd.Deadline = (D : Int) := ⟨hd.Deadline.toNat, by omega⟩
  have w1 : wrp .u64 hd.Deadline = hd.Deadline := by rw [hD]; exact wrp_of (k := .u64) rfl (show D < 2 ^ 64 by omega)
  have u1 : isU64 (wrp .u64 hd.Deadline) := by rw [w1]; exact ⟨q3, by omega⟩
  have u2 := wl64 hd.Metas.length (by omega)
  have l3 := put_len _ u1
  have l4 := put_len _ u2
  refine is_ob (by omega) (is_ob (by omega) (is_lt fun v5 hv5 => is_lt fun v6 hv6 => ?_))
  subst hv5 hv6
  refine is_ob (by omega) (is_lt fun v7 hv7 => ?_)
  subst hv7
  refine is_ob u1 (is_lt fun v8 hv8 => is_lt fun v9 hv9 => ?_)
  subst hv9
  have e8 : v8.length = (sizedP hd.Service).length + (sizedP hd.Method).length := by rw [hv8, List.length_append]
  refine is_ob (by omega) (is_lt fun v10 hv10 => ?_)
  subst hv10
  refine is_ob u2 (is_lt fun v11 hv11 => is_lt fun v12 hv12 => ?_)
  subst hv12
  have e11 : v11.length = v8.length + (vputP (wrp .u64 hd.Deadline)).length := by rw [hv11, List.length_append]
  refine is_ob (by omega) (is_lt fun v13 hv13 => ?_)
  have e13 : v13.length = v11.length + (vputP (wrp .u64 (hd.Metas.length : Int))).length := by rw [hv13, List.length_append]
  refine is_ob ⟨room_of (by omega) (by omega), trivial⟩ (is_as fun _ => is_as fun _ => is_eachI (fun k y => 0 < y.length ∧ y.length ≤ 300 + 300 * k ∧ ∀ i, inByte y i = true) ⟨by rw [txI_len]; omega, by rw [txI_len]; omega, inByte_txI _⟩ (.inr (by omega)) (fun i1 y2 h1 hm hI => ?_) (fun y2 _ hI => is_ob ⟨hI.1, ⟨rfl, by have := hI.1; omega, allN_true hI.2.2 _⟩, trivial⟩ is_ret))
  obtain ⟨c1, c2, c3⟩ := hI
  obtain ⟨k1, k2⟩ := q6 _ (getD_mem (d := d_Meta) h1)
  have m1 := sized_len (hd.Metas.getD i1 d_Meta).Key (by omega)
  have m2 := sized_len (hd.Metas.getD i1 d_Meta).Val (by omega)
  refine ⟨is_ix (by omega) (by omega) (is_ob (by omega) (is_ob (by omega) (is_lt fun v14 hv14 => is_lt fun v15 hv15 => ?_))), fun y' hy' => ?_⟩
  · subst hv14 hv15
    refine is_ob (by omega) (is_lt fun v16 hv16 => is_ob ⟨room_of (by rw [hv16, List.length_append]; omega) (by rw [hv16, List.length_append]; omega), trivial⟩ is_ret)
  · simp only [val_ix, val_ob, val_lt, val_ret] at hy'
    injection hy' with hy'
    subst hy'
    refine ⟨by rw [List.length_append]; omega, by rw [List.length_append, txI_len, List.length_append]; omega, inByte_app c3 (inByte_txI _)⟩
noncomputable def e_fhead : Ent Z := entN Z [e_writeString, e_bString, e_headed, e_sized, e_vput] [jS 7 (shp (fun sl => [.slot 35 false [none], .tcs (pid (sl 5)) 91 [some 5]]) (lCons (cInt .i64) (l1 cd_Lu8)))] (args (a1 (aAgg cd_Head))) (argsI (n := 49) rfl) (shr [.slot 0 false [none], .slot 1 false [none]] (lCons cStr (l1 (cInt .i64)))) [] Tryz.func56 Tryz.ntmps56 (by kernel_rfl) 2 rfl (fun a => fhead a) (fun a => some (okHead a)) (fun a e _ => by kernel_rfl) (fun a => fheadP a) (fun a h => ⟨fhead_is a h, rfl⟩)
end Go.Proofs.YtcdhbdjlamikgaaGreatDoor
