/-
  Replay: heads.
-/
import Derived.Test.YtcdhbdjlamikgaaGreatDoorI
namespace Go.Proofs.YtcdhbdjlamikgaaGreatDoor
open Go.RowKit Go.Vc
set_option linter.unusedVariables false
set_option linter.unusedSimpArgs false
set_option maxRecDepth 100000

theorem less_total : ∀ a b : List UInt8, (Op.bytesLess a b || a == b) = !Op.bytesLess b a
  | [], [] => rfl
  | [], _ :: _ => rfl
  | _ :: _, [] => rfl
  | x :: a, y :: b => by
    have ih := less_total a b
    unfold Op.bytesLess
    rcases Nat.lt_trichotomy x.toNat y.toNat with h | h | h
    · have h1 : x < y := UInt8.lt_iff_toNat_lt.2 h
      have h2 : ¬ y < x := fun e => by have := UInt8.lt_iff_toNat_lt.1 e; omega
      have h3 : (y == x) = false := by rw [beq_eq_false_iff_ne]; rintro rfl; omega
      rw [decide_eq_true h1, decide_eq_false h2, h3]
      rfl
    · obtain rfl : x = y := UInt8.toNat_inj.1 h
      have h2 : ¬ x < x := fun e => by have := UInt8.lt_iff_toNat_lt.1 e; omega
      rw [decide_eq_false h2]
      simp only [beq_self_eq_true, Bool.true_and, Bool.false_or]
      rw [← ih]
      congr 1
      rw [Bool.eq_iff_iff]
      simp
    · have h1 : y < x := UInt8.lt_iff_toNat_lt.2 h
      have h2 : ¬ x < y := fun e => by have := UInt8.lt_iff_toNat_lt.1 e; omega
      have h3 : (x == y) = false := by rw [beq_eq_false_iff_ne]; rintro rfl; omega
      have h4 : (x :: a == y :: b) = false := by rw [beq_eq_false_iff_ne]; intro e; injection e with e _; subst e; omega
      rw [decide_eq_true h1, decide_eq_false h2, h3, h4]
      rfl
theorem wl (n : Nat) (h : n ≤ 4294967296) : wrp .u64 (n : Int) = (n : Int) := wrp_of (k := .u64) rfl (Nat.lt_of_le_of_lt h (by decide))
theorem wl64 (n : Nat) (h : n ≤ 4294967296) : isU64 (wrp .u64 (n : Int)) := by rw [wl n h]; exact ⟨by omega, by omega⟩

noncomputable def sized (s : Str) : Pg (List UInt8) :=
  .lt (wrp .u64 (↑(List.length s) : Int)) fun (v1 : Int) =>
    .ob (isU64 v1)
      (.lt (vputP v1) fun (v2 : Str) =>
        .ob (List.length v2 + List.length s ≤ 9223372036854775807) (.as (List.length s ≤ 9223372036854775807) (.ret (v2 ++ s))))
noncomputable def sizedP (s : Str) : Str := (sized s).val

theorem sized_is (s : Str) (h : s.length ≤ 4294967296) : Is (sized s) :=
  is_lt fun v1 hv1 => is_ob (by rw [hv1]; exact wl64 _ h) (is_lt fun v2 hv2 => is_ob (by have := put_len v1 (by rw [hv1]; exact wl64 _ h); rw [hv2]; omega) (is_as fun _ => is_ret))
noncomputable def e_sized : Ent Z := entN Z [e_vput] [] (args (a1 (aLf cStr))) (argsI (n := 9) rfl) (shr [.slot 0 false [none]] (l1 cStr)) [] Tryz.func107 Tryz.ntmps107 (by kernel_rfl) 1 rfl (fun a => sized a) (fun a => some (a.length ≤ 4294967296)) (fun a e _ => by kernel_rfl) (fun a => sizedP a) (fun a h => ⟨sized_is a h, rfl⟩)

noncomputable def rtext (s : Str) : Pg (List UInt8) :=
  .lt (wrp .u64 (↑(List.length s) : Int)) fun (v1 : Int) =>
    .ob (isU64 v1)
      (.lt (rputP v1) fun (v2 : Str) =>
        .ob (List.length v2 + List.length s ≤ 9223372036854775807) (.as (List.length s ≤ 9223372036854775807) (.ret (v2 ++ s))))
noncomputable def rtextP (s : Str) : Str := (rtext s).val

theorem rtext_is (s : Str) (h : s.length ≤ 4294967296) : Is (rtext s) :=
  is_lt fun v1 hv1 => is_ob (by rw [hv1]; exact wl64 _ h) (is_lt fun v2 hv2 => is_ob (by have := put_len v1 (by rw [hv1]; exact wl64 _ h); have e := put_eq v1 (by rw [hv1]; exact wl64 _ h); rw [hv2, ← e]; omega) (is_as fun _ => is_ret))
noncomputable def e_rtext : Ent Z := entN Z [e_rput] [] (args (a1 (aLf cStr))) (argsI (n := 9) rfl) (shr [.slot 0 false [none]] (l1 cStr)) [] Tryz.func128 Tryz.ntmps128 (by kernel_rfl) 1 rfl (fun a => rtext a) (fun a => some (a.length ≤ 4294967296)) (fun a e _ => by kernel_rfl) (fun a => rtextP a) (fun a h => ⟨rtext_is a h, rfl⟩)

theorem sized_eq (s : Str) (h : s.length ≤ 4294967296) : sizedP s = rtextP s := by
  unfold sizedP sized rtextP rtext
  simp only [val_lt, val_ob, val_as, val_ret]
  rw [put_eq _ (wl64 _ h)]
theorem sized_len (s : Str) (h : s.length ≤ 4294967296) : (sizedP s).length ≤ s.length + 10 := by
  unfold sizedP sized
  simp only [val_lt, val_ob, val_as, val_ret]
  have := put_len _ (wl64 _ h)
  rw [List.length_append]
  omega
theorem sized_pos (s : Str) (h : s.length ≤ 4294967296) : 0 < (sizedP s).length := by
  unfold sizedP sized
  simp only [val_lt, val_ob, val_as, val_ret]
  rw [List.length_append, wl _ h, (vput_nat s.length (by omega)).1, txU_len, List.length_map]
  unfold encV
  split <;> simp <;> omega
def okHead (hd : Head) : Prop := hd.Service.length ≤ 4294967296 ∧ hd.Method.length ≤ 4294967296 ∧ hd.Metas.length ≤ 4294967296 ∧ ∀ m ∈ hd.Metas, m.Key.length ≤ 4294967296 ∧ m.Val.length ≤ 4294967296

noncomputable def headed (hd : Head) : Pg Int :=
  .cut
    (fun (y1 : Unit) =>
      .as (hd.Metas.length ≤ 9223372036854775807)
        (.each false ixI hd.Metas d_Meta
          (fun (i2 : Int) (a4 : AMeta) (y3 : Unit) =>
            .ix i2 hd.Metas.length
              (.br (!fkeyP a4.Key) (.ret (.inr 8))
                (.br (decide (200 < (↑(List.length a4.Val) : Int))) (.ret (.inr 3))
                  (.ob (List.length a4.Val ≤ 9223372036854775700)
                    (.br (!uvalidP a4.Val) (.ret (.inr 7))
                      (.br (decide (0 < i2))
                        (.lt (wrp .i64 (i2 - 1)) fun (v5 : Int) =>
                          .ix v5 hd.Metas.length
                            (.br (Op.bytesLess a4.Key (hd.Metas.getD v5.toNat d_Meta).Key || a4.Key == (hd.Metas.getD v5.toNat d_Meta).Key) (.ret (.inr 11))
                              (.ret (.inl ()))))
                        (.ret (.inl ()))))))))
          (fun (i2 : Int) (y3 : Unit) => .ret 0) ()))
    (.ob (List.length hd.Service ≤ 4294967296)
      (.br (!ifullP hd.Service) (.ret (.inr 8))
        (.br (!ipartP hd.Method) (.ret (.inr 8))
          (.br (decide (hd.Deadline < 0)) (.ret (.inr 6))
            (.br (decide (1099511627776 < hd.Deadline)) (.ret (.inr 6))
              (.br (decide (16 < (↑hd.Metas.length : Int))) (.ret (.inr 3)) (.ret (.inl ()))))))))
noncomputable def headedP (hd : Head) : Int := (headed hd).val

theorem headed_is (hd : Head) (h : okHead hd) : Is (headed hd) :=
  is_cut (is_ob (h.1) (is_br (fun _ => is_ret) (fun _ => is_br (fun _ => is_ret) (fun _ => is_brd (fun _ => is_ret) (fun _ => is_brd (fun _ => is_ret) (fun _ => is_brd (fun _ => is_ret) (fun _ => is_ret))))))) (fun y1 hy1 => is_as fun _ => is_each (.inr (by omega)) (fun i2 y3 _ _ => is_ix (by omega) (by omega) (is_br (fun _ => is_ret) (fun _ => is_brd (fun _ => is_ret) (fun _ => is_ob (by have := (h.2.2.2 _ (getD_mem (d := d_Meta) ‹_ < hd.Metas.length›)).2; omega) (is_br (fun _ => is_ret) (fun _ => is_brd (fun _ => is_ltw fun v5 hv5 _ => is_ix (by omega) (by omega) (is_br (fun _ => is_ret) (fun _ => is_ret))) (fun _ => is_ret))))))) (fun y3 _ => is_ret))
noncomputable def e_headed : Ent Z := entN Z [e_ifull, e_ipart, e_uvalid, e_fkey] [jS 8 (shp (fun sl => [.slot 33 false [none]]) (l1 (cInt .i64))), jS 100007 (shp (fun sl => []) l0)] (args (a1 (aAgg cd_Head))) (argsI (n := 69) rfl) (shr [.slot 0 false [none]] (l1 (cInt .i64))) [] Tryz.func106 Tryz.ntmps106 (by kernel_rfl) 1 rfl (fun a => headed a) (fun a => some (okHead a)) (fun a e _ => by kernel_rfl) (fun a => headedP a) (fun a h => ⟨headed_is a h, rfl⟩)

noncomputable def rheaded (hd : Head) : Pg Int :=
  .br (!r6fullP hd.Service) (.ret 8)
    (.br (!r6partP hd.Method) (.ret 8)
      (.br (decide (hd.Deadline < 0)) (.ret 6)
        (.br (decide (1099511627776 < hd.Deadline)) (.ret 6)
          (.br (decide (16 < (↑hd.Metas.length : Int))) (.ret 3)
            (.each true ixI hd.Metas d_Meta
              (fun (i1 : Int) (a3 : AMeta) (y2 : Unit) =>
                .ix i1 hd.Metas.length
                  (.br (!rkeyP a3.Key) (.ret (.inr 8))
                    (.ix i1 hd.Metas.length
                      (.br (decide (200 < (↑(List.length a3.Val) : Int))) (.ret (.inr 3))
                        (.ix i1 hd.Metas.length
                          (.ob (List.length a3.Val ≤ 9223372036854775700)
                            (.br (!rvalidP a3.Val) (.ret (.inr 7))
                              (.br (decide (0 < i1))
                                (.lt (wrp .i64 (i1 - 1)) fun (v4 : Int) =>
                                  .ix v4 hd.Metas.length
                                    (.ix i1 hd.Metas.length (.br (!Op.bytesLess (hd.Metas.getD v4.toNat d_Meta).Key a3.Key) (.ret (.inr 11)) (.ret (.inl ())))))
                                (.ret (.inl ()))))))))))
              (fun (i1 : Int) (y2 : Unit) => .ret 0) ())))))
noncomputable def rheadedP (hd : Head) : Int := (rheaded hd).val

theorem rheaded_is (hd : Head) (h : okHead hd) : Is (rheaded hd) :=
  is_br (fun _ => is_ret) (fun _ => is_br (fun _ => is_ret) (fun _ => is_brd (fun _ => is_ret) (fun _ => is_brd (fun _ => is_ret) (fun _ => is_brd (fun _ => is_ret) (fun _ => is_each (.inl rfl) (fun i1 y2 _ _ => is_ix (by omega) (by omega) (is_br (fun _ => is_ret) (fun _ => is_ix (by omega) (by omega) (is_brd (fun _ => is_ret) (fun _ => is_ix (by omega) (by omega) (is_ob (by have := (h.2.2.2 _ (getD_mem (d := d_Meta) ‹_ < hd.Metas.length›)).2; omega) (is_br (fun _ => is_ret) (fun _ => is_brd (fun _ => is_ltw fun v4 hv4 _ => is_ix (by omega) (by omega) (is_ix (by omega) (by omega) (is_br (fun _ => is_ret) (fun _ => is_ret)))) (fun _ => is_ret))))))))) (fun y2 _ => is_ret))))))
noncomputable def e_rheaded : Ent Z := entN Z [e_rvalid, e_r6full, e_r6part, e_rkey] [jS 8 (shp (fun sl => [.slot 3 false [none]]) (l1 (cInt .i64)))] (args (a1 (aAgg cd_Head))) (argsI (n := 75) rfl) (shr [.slot 0 false [none]] (l1 (cInt .i64))) [] Tryz.func127 Tryz.ntmps127 (by kernel_rfl) 1 rfl (fun a => rheaded a) (fun a => some (okHead a)) (fun a e _ => by kernel_rfl) (fun a => rheadedP a) (fun a h => ⟨rheaded_is a h, rfl⟩)
end Go.Proofs.YtcdhbdjlamikgaaGreatDoor
