/-
  Replay: numbers of variable length.
-/
import Derived.Test.YtcdhbdjlamikgaaGreatDoorF
import Derived.Test.YtcdhbdjlamikgaaGreatDoorEng22
namespace Go.Proofs.YtcdhbdjlamikgaaGreatDoor
open Go.RowKit Go.Vc
set_option linter.unusedVariables false
set_option linter.unusedSimpArgs false
set_option maxRecDepth 100000

def isU64 (u : Int) : Prop := 0 ≤ u ∧ u < 18446744073709551616
theorem u8_or : ∀ y, y < 256 → y ||| 128 = y % 128 + 128 := by decide +kernel
theorem put_step (x : Nat) (hx : x < 18446744073709551616) : orI .u8 (wrp .u8 (x : Int)) 128 = ((x % 128 + 128 : Nat) : Int) := by
  rw [wrp_nat (k := .u8) rfl]
  refine (orI_nat (k := .u8) rfl (y := 128) (Nat.mod_lt _ (by decide)) (by decide)).trans ?_
  rw [show (2 : Nat) ^ IntKind.u8.bits = 256 from rfl, u8_or _ (Nat.mod_lt _ (by decide))]
  congr 2
  omega
theorem rput_step (x : Nat) (hx : x < 18446744073709551616) : wrp .u8 (wrp .u64 ((x : Int).tmod 128 + 128)) = ((x % 128 + 128 : Nat) : Int) := by
  have e : (x : Int).tmod 128 + 128 = ((x % 128 + 128 : Nat) : Int) := by
    have : (x : Int).tmod 128 = ((x % 128 : Nat) : Int) := tmod_nat x 128
    rw [this]; rfl
  rw [e, wrp_of (k := .u64) rfl (Nat.lt_of_lt_of_le (show x % 128 + 128 < 256 by omega) (by decide)), wrp_of (k := .u8) rfl (show x % 128 + 128 < 2 ^ 8 by omega)]
theorem put_next (x : Nat) : shrI .u64 (x : Int) 7 = ((x / 128 : Nat) : Int) := shrI_nat (k := .u64) x 7 (by decide)
theorem rput_next (x : Nat) (hx : x < 18446744073709551616) : wrp .u64 ((x : Int).tdiv 128) = ((x / 128 : Nat) : Int) := by
  rw [show (x : Int).tdiv 128 = ((x / 128 : Nat) : Int) from tdiv_nat x 128]
  exact wrp_of (k := .u64) rfl (show x / 128 < 2 ^ 64 by omega)
theorem byte_lt (x : Nat) (h : x < 128) : wrp .u8 (x : Int) = (x : Int) := wrp_of (k := .u8) rfl (show x < 2 ^ 8 by omega)
def okPut (X : Int × List Int) : Prop := ∃ x : Nat, X.1 = (x : Int) ∧ X.2.length ≤ 9 ∧ x < 2 ^ (64 - 7 * X.2.length)
theorem okPut_next {x : Nat} {b : List Int} {v : Int} (h1 : b.length ≤ 9) (h2 : x < 2 ^ (64 - 7 * b.length)) (h3 : 128 ≤ x) : okPut (((x / 128 : Nat) : Int), b ++ [v]) := by
  refine ⟨x / 128, rfl, ?_, ?_⟩
  · show (b ++ [v]).length ≤ 9
    rw [List.length_append, List.length_singleton]
    rcases (by omega : b.length = 9 ∨ b.length ≤ 8) with h | h
    · rw [h] at h2
      have : x < 2 := h2
      omega
    · omega
  · show x / 128 < 2 ^ (64 - 7 * (b ++ [v]).length)
    rw [List.length_append, List.length_singleton]
    rcases (by omega : b.length = 9 ∨ b.length ≤ 8) with h | h
    · rw [h] at h2
      have : x < 2 := h2
      omega
    · have e : 64 - 7 * b.length = (64 - 7 * (b.length + 1)) + 7 := by omega
      rw [e, Nat.pow_add] at h2
      omega
theorem lt64 {x k : Nat} (h : x < 2 ^ (64 - 7 * k)) : x < 18446744073709551616 := Nat.lt_of_lt_of_le h (show 2 ^ (64 - 7 * k) ≤ 2 ^ 64 from Nat.pow_le_pow_right (by decide) (by omega))

noncomputable def vput (u : Int) : Pg (List UInt8) :=
  .wh (u.toNat + 1) default
    (fun (x3 : Int × List Int) =>
      .br (decide (128 ≤ x3.fst))
        (.ob (roomP (x3.snd.length + 1) 1)
          (.ob ((0 : Int) ≤ 7) (.ret (.inl (shrI .u64 x3.fst 7, x3.snd ++ [orI .u8 (wrp .u8 x3.fst) 128])))))
        (.ob (roomP (x3.snd.length + 1) 1)
          (.lt (x3.snd ++ [wrp .u8 x3.fst]) fun (v4 : List Int) => .ob (allN (fun (i : Nat) => true) v4.length = true) (.ret (.inr (txU v4))))))
    (u, [])
noncomputable def vputP (u : Int) : Str := (vput u).val

theorem vput_is (u : Int) (h : isU64 u) : Is (vput u) :=
  by
  have h : 0 ≤ u ∧ u < 18446744073709551616 := h
  obtain ⟨x, rfl⟩ : ∃ x : Nat, u = (x : Int) := ⟨u.toNat, by omega⟩
  have hx : x < 18446744073709551616 := by omega
  refine is_wh okPut (fun X => X.1.toNat) ⟨x, rfl, Nat.zero_le _, hx⟩ (by show x < x + 1; omega) (fun X hX => ?_)
  obtain ⟨i, b⟩ := X
  obtain ⟨x, rfl, h1, h2⟩ := hX
  dsimp only at h1 h2 ⊢
  rw [put_next, put_step x (lt64 h2)]
  refine ⟨is_brd (fun _ => is_ob (room_of (by omega) (by omega)) (is_ob (by omega) is_ret)) (fun _ => is_ob (room_of (by omega) (by omega)) (is_lt fun v4 hv4 => is_ob (allN_true (fun _ => rfl) _) is_ret)), fun x' hx' => ?_⟩
  revert hx'
  simp only [val_br, val_ob, val_lt, val_ret, Bool.cond_eq_ite, decide_eq_true_eq]
  split
  · rename_i h3
    intro e
    injection e with e
    subst e
    refine ⟨okPut_next h1 h2 (by omega), ?_⟩
    show ((x / 128 : Nat) : Int).toNat < (x : Int).toNat
    omega
  · intro e; cases e
noncomputable def e_vput : Ent Z := entN Z [] [jS 2 (shp (fun sl => [.slot 0 false [none], .slot 3 false [some 5]]) (lCons (cInt .u64) (l1 cd_Lu8)))] (args (a1 (aLf (cInt .u64)))) (argsI (n := 20) rfl) (shr [.slot 0 false [none]] (l1 cStr)) [] Tryz.func108 Tryz.ntmps108 (by kernel_rfl) 1 rfl (fun a => vput a) (fun a => some (isU64 a)) (fun a e _ => by kernel_rfl) (fun a => vputP a) (fun a h => ⟨vput_is a h, rfl⟩)

noncomputable def rput (u : Int) : Pg (List UInt8) :=
  .wh (u.toNat + 1) default
    (fun (x3 : Int × List Int) =>
      .br (decide (128 ≤ x3.fst))
        (.ob ((128 : Int) ≠ 0)
          (.ob (roomP (x3.snd.length + 1) 1)
            (.ob ((128 : Int) ≠ 0)
              (.ret (.inl (wrp .u64 (x3.fst.tdiv 128), x3.snd ++ [wrp .u8 (wrp .u64 (x3.fst.tmod 128 + 128))]))))))
        (.ob (roomP (x3.snd.length + 1) 1)
          (.lt (x3.snd ++ [wrp .u8 x3.fst]) fun (v4 : List Int) => .ob (allN (fun (i : Nat) => true) v4.length = true) (.ret (.inr (txU v4))))))
    (u, [])
noncomputable def rputP (u : Int) : Str := (rput u).val

theorem rput_is (u : Int) (h : isU64 u) : Is (rput u) :=
  by
  have h : 0 ≤ u ∧ u < 18446744073709551616 := h
  obtain ⟨x, rfl⟩ : ∃ x : Nat, u = (x : Int) := ⟨u.toNat, by omega⟩
  have hx : x < 18446744073709551616 := by omega
  refine is_wh okPut (fun X => X.1.toNat) ⟨x, rfl, Nat.zero_le _, hx⟩ (by show x < x + 1; omega) (fun X hX => ?_)
  obtain ⟨i, b⟩ := X
  obtain ⟨x, rfl, h1, h2⟩ := hX
  dsimp only at h1 h2 ⊢
  rw [rput_next x (lt64 h2), rput_step x (lt64 h2)]
  refine ⟨is_brd (fun _ => is_ob (by omega) (is_ob (room_of (by omega) (by omega)) (is_ob (by omega) is_ret))) (fun _ => is_ob (room_of (by omega) (by omega)) (is_lt fun v4 hv4 => is_ob (allN_true (fun _ => rfl) _) is_ret)), fun x' hx' => ?_⟩
  revert hx'
  simp only [val_br, val_ob, val_lt, val_ret, Bool.cond_eq_ite, decide_eq_true_eq]
  split
  · rename_i h3
    intro e
    injection e with e
    subst e
    refine ⟨okPut_next h1 h2 (by omega), ?_⟩
    show ((x / 128 : Nat) : Int).toNat < (x : Int).toNat
    omega
  · intro e; cases e
noncomputable def e_rput : Ent Z := entN Z [] [jS 2 (shp (fun sl => [.slot 0 false [none], .slot 3 false [some 5]]) (lCons (cInt .u64) (l1 cd_Lu8)))] (args (a1 (aLf (cInt .u64)))) (argsI (n := 21) rfl) (shr [.slot 0 false [none]] (l1 cStr)) [] Tryz.func126 Tryz.ntmps126 (by kernel_rfl) 1 rfl (fun a => rput a) (fun a => some (isU64 a)) (fun a e _ => by kernel_rfl) (fun a => rputP a) (fun a h => ⟨rput_is a h, rfl⟩)

noncomputable def vlen (u : Int) : Pg Int :=
  .wh (u.toNat + 1) default
    (fun (x3 : Int × Int) =>
      .br (decide (128 ≤ x3.fst)) (.ob ((0 : Int) ≤ 7) (.ret (.inl (shrI .u64 x3.fst 7, wrp .i64 (x3.snd + 1)))))
        (.ret (.inr x3.snd)))
    (u, 1)
noncomputable def vlenP (u : Int) : Int := (vlen u).val

theorem vlen_is (u : Int) (h : isU64 u) : Is (vlen u) :=
  by
  have h : 0 ≤ u ∧ u < 18446744073709551616 := h
  obtain ⟨x, rfl⟩ : ∃ x : Nat, u = (x : Int) := ⟨u.toNat, by omega⟩
  have hx : x < 18446744073709551616 := by omega
  refine is_wh (fun X => ∃ x : Nat, X.1 = (x : Int)) (fun X => X.1.toNat) ⟨x, rfl⟩ (by show x < x + 1; omega) (fun X hX => ?_)
  obtain ⟨i, b⟩ := X
  obtain ⟨x, rfl⟩ := hX
  dsimp only
  rw [put_next]
  refine ⟨is_brd (fun _ => is_ob (by omega) is_ret) (fun _ => is_ret), fun x' hx' => ?_⟩
  revert hx'
  simp only [val_br, val_ob, val_ret, Bool.cond_eq_ite, decide_eq_true_eq]
  split
  · rename_i h3
    intro e
    injection e with e
    subst e
    refine ⟨⟨x / 128, rfl⟩, ?_⟩
    show ((x / 128 : Nat) : Int).toNat < (x : Int).toNat
    omega
  · intro e; cases e
noncomputable def e_vlen : Ent Z := entN Z [] [jS 2 (shp (fun sl => [.slot 0 false [none], .slot 3 false [none]]) (lCons (cInt .u64) (l1 (cInt .i64))))] (args (a1 (aLf (cInt .u64)))) (argsI (n := 11) rfl) (shr [.slot 0 false [none]] (l1 (cInt .i64))) [] Tryz.func69 Tryz.ntmps69 (by kernel_rfl) 1 rfl (fun a => vlen a) (fun a => some (isU64 a)) (fun a e _ => by kernel_rfl) (fun a => vlenP a) (fun a h => ⟨vlen_is a h, rfl⟩)

theorem vput_nat (x : Nat) (hx : x < 18446744073709551616) : vputP (x : Int) = txU ((encV 10 x).map Int.ofNat) ∧ rputP (x : Int) = txU ((encV 10 x).map Int.ofNat) ∧ vlenP (x : Int) = ((encV 10 x).length : Int) := by
  have k1 : ∀ (k n x : Nat) (b : List Int), x < n → x < 128 ^ k → 1 ≤ k → x < 18446744073709551616 → whN (fun (x3 : Int × List Int) => (bif decide (128 ≤ x3.fst) then (Sum.inl (shrI .u64 x3.fst 7, x3.snd ++ [orI .u8 (wrp .u8 x3.fst) 128]) : (Int × List Int) ⊕ List UInt8) else .inr (txU (x3.snd ++ [wrp .u8 x3.fst])))) default n ((x : Int), b) = txU (b ++ (encV k x).map Int.ofNat) := by
    intro k
    induction k with
    | zero => intro n x b _ _ h; omega
    | succ k ih =>
      intro n x b hn hk _ hx
      obtain ⟨n, rfl⟩ : ∃ m, n = m + 1 := ⟨n - 1, by omega⟩
      unfold whN encV
      by_cases h : x < 128
      · rw [if_pos h, decide_eq_false (show ¬ (128 : Int) ≤ (x : Int) by omega)]
        simp only [cond_false, byte_lt x h]
        rfl
      · rw [if_neg h, decide_eq_true (show (128 : Int) ≤ (x : Int) by omega)]
        simp only [cond_true, put_next, put_step x hx]
        rw [Nat.pow_succ] at hk
        rw [ih n (x / 128) _ (by omega) (by omega) (by rcases k with _ | k; · simp at hk; omega
                                                       · omega) (by omega), List.append_assoc]
        rfl
  have k2 : ∀ (k n x : Nat) (b : List Int), x < n → x < 128 ^ k → 1 ≤ k → x < 18446744073709551616 → whN (fun (x3 : Int × List Int) => (bif decide (128 ≤ x3.fst) then (Sum.inl (wrp .u64 (x3.fst.tdiv 128), x3.snd ++ [wrp .u8 (wrp .u64 (x3.fst.tmod 128 + 128))]) : (Int × List Int) ⊕ List UInt8) else .inr (txU (x3.snd ++ [wrp .u8 x3.fst])))) default n ((x : Int), b) = txU (b ++ (encV k x).map Int.ofNat) := by
    intro k
    induction k with
    | zero => intro n x b _ _ h; omega
    | succ k ih =>
      intro n x b hn hk _ hx
      obtain ⟨n, rfl⟩ : ∃ m, n = m + 1 := ⟨n - 1, by omega⟩
      unfold whN encV
      by_cases h : x < 128
      · rw [if_pos h, decide_eq_false (show ¬ (128 : Int) ≤ (x : Int) by omega)]
        simp only [cond_false, byte_lt x h]
        rfl
      · rw [if_neg h, decide_eq_true (show (128 : Int) ≤ (x : Int) by omega)]
        simp only [cond_true, rput_next x hx, rput_step x hx]
        rw [Nat.pow_succ] at hk
        rw [ih n (x / 128) _ (by omega) (by omega) (by rcases k with _ | k; · simp at hk; omega
                                                       · omega) (by omega), List.append_assoc]
        rfl
  have k3 : ∀ (k n x m : Nat), x < n → x < 128 ^ k → 1 ≤ k → m + k < 1000 → whN (fun (x3 : Int × Int) => (bif decide (128 ≤ x3.fst) then (Sum.inl (shrI .u64 x3.fst 7, wrp .i64 (x3.snd + 1)) : (Int × Int) ⊕ Int) else .inr x3.snd)) default n ((x : Int), ((m + 1 : Nat) : Int)) = ((m + (encV k x).length : Nat) : Int) := by
    intro k
    induction k with
    | zero => intro n x m _ _ h; omega
    | succ k ih =>
      intro n x m hn hk _ hm
      obtain ⟨n, rfl⟩ : ∃ m, n = m + 1 := ⟨n - 1, by omega⟩
      unfold whN encV
      by_cases h : x < 128
      · rw [if_pos h, decide_eq_false (show ¬ (128 : Int) ≤ (x : Int) by omega)]
        rfl
      · rw [if_neg h, decide_eq_true (show (128 : Int) ≤ (x : Int) by omega)]
        have w : wrp .i64 (((m + 1 : Nat) : Int) + 1) = ((m + 1 + 1 : Nat) : Int) := wrp_next (by omega)
        simp only [cond_true, put_next, w]
        rw [Nat.pow_succ] at hk
        rw [ih n (x / 128) (m + 1) (by omega) (by omega) (by rcases k with _ | k; · simp at hk; omega
                                                             · omega) (by omega)]
        simp only [List.length_cons]
        congr 1
        omega
  have hk : x < 128 ^ 10 := Nat.lt_of_lt_of_le hx (by decide)
  refine ⟨?_, ?_, ?_⟩
  · exact (k1 10 ((x : Int).toNat + 1) x [] (by omega) hk (by decide) hx)
  · exact (k2 10 ((x : Int).toNat + 1) x [] (by omega) hk (by decide) hx)
  · exact (k3 10 ((x : Int).toNat + 1) x 0 (by omega) hk (by decide) (by decide)).trans (by rw [Nat.zero_add])
theorem enc_len : ∀ (k x : Nat), (encV k x).length ≤ k
  | 0, x => Nat.le_refl _
  | k + 1, x => by
    unfold encV
    split
    · simp
    · simp only [List.length_cons]; have := enc_len k (x / 128); omega
theorem put_eq (u : Int) (h : 0 ≤ u ∧ u < 18446744073709551616) : vputP u = rputP u := by
  obtain ⟨x, rfl⟩ : ∃ x : Nat, u = (x : Int) := ⟨u.toNat, by omega⟩
  obtain ⟨h1, h2, _⟩ := vput_nat x (by omega)
  rw [h1, h2]
theorem put_len (u : Int) (h : 0 ≤ u ∧ u < 18446744073709551616) : (vputP u).length ≤ 10 := by
  obtain ⟨x, rfl⟩ : ∃ x : Nat, u = (x : Int) := ⟨u.toNat, by omega⟩
  obtain ⟨h1, _⟩ := vput_nat x (by omega)
  rw [h1, txU_len, List.length_map]
  exact enc_len 10 x

def finV (u i : Nat) (t : Nat × Nat × Int) : Int × Int × Int := if t.2.2 = 0 then (((u + 2 ^ (7 * i) * t.1 : Nat) : Int), ((i + t.2.1 : Nat) : Int), 0) else (0, 0, t.2.2)
theorem or_add {u i c : Nat} (hu : u < 2 ^ (7 * i)) (hi : i ≤ 8 ∨ i = 9 ∧ c ≤ 1) (hc : c < 128) : c * 2 ^ (7 * i) < 2 ^ 64 ∧ u ||| (c * 2 ^ (7 * i)) = u + 2 ^ (7 * i) * c ∧ u + 2 ^ (7 * i) * c < 2 ^ 64 := by
  have h1 : u ||| (c * 2 ^ (7 * i)) = u + 2 ^ (7 * i) * c := by
    rw [Nat.or_comm, Nat.mul_comm, ← Nat.two_pow_add_eq_or_of_lt hu, Nat.add_comm]
  rw [h1]
  rcases hi with hi | ⟨rfl, hc1⟩
  · have h2 : 2 ^ (7 * i) ≤ 2 ^ 56 := Nat.pow_le_pow_right (by decide) (by omega)
    generalize 2 ^ (7 * i) = p at *
    have h3 : c * p ≤ 127 * p := Nat.mul_le_mul_right p (by omega)
    rw [Nat.mul_comm p c]
    refine ⟨by omega, rfl, by omega⟩
  · have : c = 0 ∨ c = 1 := by omega
    rcases this with rfl | rfl <;> refine ⟨by decide, rfl, by omega⟩
theorem and127 (c : UInt8) : wrp .u64 (andI .u8 (c.toNat : Int) 127) = ((c.toNat % 128 : Nat) : Int) := by
  have hc := c.toNat_lt
  have e : andI .u8 (c.toNat : Int) 127 = ((c.toNat &&& 127 : Nat) : Int) := andI_nat (k := .u8) rfl (y := 127) hc (by decide)
  rw [e, show c.toNat &&& 127 = c.toNat % 128 from Nat.and_two_pow_sub_one_eq_mod _ 7]
  exact wrp_of (k := .u64) rfl (Nat.lt_trans (Nat.mod_lt _ (by decide)) (by decide : 128 < 2 ^ 64))
theorem take_or (u i : Nat) (c : UInt8) (hu : u < 2 ^ (7 * i)) (hi : i ≤ 8 ∨ i = 9 ∧ c.toNat ≤ 1) : orI .u64 (u : Int) (shlI .u64 (wrp .u64 (andI .u8 (c.toNat : Int) 127)) (wrp .i64 (7 * (i : Int)))) = ((u + 2 ^ (7 * i) * (c.toNat % 128) : Nat) : Int) := by
  have hm : c.toNat % 128 < 128 := Nat.mod_lt _ (by decide)
  obtain ⟨h1, h2, h3⟩ := or_add hu (hi.imp id fun h => ⟨h.1, by omega⟩) hm
  have w : wrp .i64 (7 * (i : Int)) = ((7 * i : Nat) : Int) := by rw [wrp_in (k := .i64) (by simp only [InR]; omega)]; omega
  rw [and127, w, shlI_nat (k := .u64) rfl (show 7 * i ≤ 64 by omega) h1]
  have hu64 : u < 2 ^ 64 := by omega
  rw [orI_nat (k := .u64) rfl hu64 h1, h2]
theorem drop_at {s : Str} {i : Nat} (h : i < s.length) : s.drop i = s.getD i 0 :: s.drop (i + 1) := by
  rw [List.drop_eq_getElem_cons h]
  simp [List.getD, h]
theorem fin_step (u i : Nat) (c : UInt8) (r : Str) (h9 : ¬ (i = 9 ∧ 1 < c.toNat)) (h1 : ¬ c.toNat < 128) : finV u i (takeV i (c :: r)) = finV (u + 2 ^ (7 * i) * (c.toNat % 128)) (i + 1) (takeV (i + 1) r) := by
  conv => lhs; unfold takeV
  rw [if_neg h9, if_neg h1]
  generalize takeV (i + 1) r = t
  obtain ⟨v, n, e⟩ := t
  dsimp only
  by_cases he : e = 0
  · subst he
    unfold finV
    dsimp only
    rw [if_pos rfl, if_pos rfl, if_pos rfl]
    have e2 : u + 2 ^ (7 * i) * (c.toNat % 128 + 128 * v) = u + 2 ^ (7 * i) * (c.toNat % 128) + 2 ^ (7 * (i + 1)) * v := by
      rw [show 7 * (i + 1) = 7 * i + 7 by omega, Nat.pow_add, Nat.mul_add, Nat.add_assoc, ← Nat.mul_assoc]
    rw [e2, show i + (n + 1) = i + 1 + n by omega]
  · unfold finV
    rw [if_neg he, if_neg he, if_neg he]

noncomputable def vtake (s : Str) : Pg (Int × Int × Int) :=
  .wh (11) default
    (fun (x3 : Int × Int) =>
      .as (List.length s ≤ 9223372036854775807)
        (.br (x3.snd == (↑(List.length s) : Int)) (.ret (.inr (0, 0, 4)))
          (.ix x3.snd (List.length s)
            (.cut
              (fun (y4 : Unit) =>
                .lt (wrp .i64 (7 * x3.snd)) fun (v5 : Int) =>
                  .ob (0 ≤ v5)
                    (.lt (orI .u64 x3.fst (shlI .u64 (wrp .u64 (andI .u8 (↑(List.getD s x3.snd.toNat 0).toNat : Int) 127)) v5))
                      fun (v6 : Int) =>
                      .lt (wrp .i64 (x3.snd + 1)) fun (v7 : Int) =>
                        .br (decide ((↑(List.getD s x3.snd.toNat 0).toNat : Int) < 128)) (.ret (.inr (v6, v7, 0))) (.ret (.inl (v6, v7)))))
              (.br (x3.snd == 9)
                (.br (decide (1 < (↑(List.getD s x3.snd.toNat 0).toNat : Int))) (.ret (.inr (.inr (0, 0, 6))))
                  (.ret (.inl ())))
                (.ret (.inl ())))))))
    (0, 0)
noncomputable def vtakeP (s : Str) : Int × Int × Int := (vtake s).val

theorem vtake_is (s : Str) : Is (vtake s) :=
  by
  refine is_wh (fun X => 0 ≤ X.2 ∧ X.2 ≤ 9 ∧ X.2 ≤ s.length) (fun X => (10 - X.2).toNat) ⟨by decide, by decide, by simp⟩ (by decide) (fun X hX => ?_)
  obtain ⟨u, n⟩ := X
  obtain ⟨h1, h2, h3⟩ := hX
  dsimp only at h1 h2 h3 ⊢
  have w : wrp .i64 (7 * n) = 7 * n := wrp_in (k := .i64) (by simp only [InR]; omega)
  have w1 : wrp .i64 (n + 1) = n + 1 := wrp_in (k := .i64) (by simp only [InR]; omega)
  rw [w, w1]
  refine ⟨is_as fun _ => is_beq (fun _ => is_ret) (fun hne => is_ix (by omega) (by omega) (is_cut (is_beq (fun _ => is_brd (fun _ => is_ret) (fun _ => is_ret)) (fun _ => is_ret)) (fun y hy => is_lt fun v5 hv5 => is_ob (by omega) (is_lt fun v6 hv6 => is_lt fun v7 hv7 => is_brd (fun _ => is_ret) (fun _ => is_ret))))), fun x' hx' => ?_⟩
  revert hx'
  simp only [val_as, val_br, val_ix, val_cut, val_lt, val_ob, val_ret, Bool.cond_eq_ite, decide_eq_true_eq, beq_iff_eq]
  by_cases e1 : n = (s.length : Int)
  · rw [if_pos e1]; intro e; cases e
  rw [if_neg e1]
  by_cases e2 : n = 9
  · rw [if_pos e2]
    by_cases e3 : (1 : Int) < ((s.getD n.toNat 0).toNat : Int)
    · rw [if_pos e3]; intro e; cases e
    · rw [if_neg e3, thenS_inl, if_pos (by omega)]; intro e; cases e
  · rw [if_neg e2, thenS_inl]
    split
    · intro e; cases e
    · intro e
      injection e with e
      subst e
      exact ⟨⟨by show 0 ≤ n + 1; omega, by show n + 1 ≤ 9; omega, by show n + 1 ≤ (s.length : Int); omega⟩, by show (10 - (n + 1)).toNat < (10 - n).toNat; omega⟩
noncomputable def e_vtake : Ent Z := entN Z [] [jS 3 (shp (fun sl => [.slot 5 false [none], .slot 6 false [none]]) (lCons (cInt .u64) (l1 (cInt .i64)))), jS 100008 (shp (fun sl => []) l0)] (args (a1 (aLf cStr))) (argsI (n := 36) rfl) (shr [.slot 0 false [none], .slot 1 false [none], .slot 2 false [none]] (lCons (cInt .u64) (lCons (cInt .i64) (l1 (cInt .i64))))) [] Tryz.func65 Tryz.ntmps65 (by kernel_rfl) 3 rfl (fun a => vtake a) (fun a => none) (fun a e _ => by kernel_rfl) (fun a => vtakeP a) (fun a h => ⟨vtake_is a, rfl⟩)

noncomputable def rtake (s : Str) : Pg (Int × Int × Int) :=
  .cnt ixP 0 10
    (fun (i1 : Int) (y2 : Int × Int) =>
      .as (List.length s ≤ 9223372036854775807)
        (.br (decide ((↑(List.length s) : Int) ≤ i1)) (.ret (.inr (0, 0, 4)))
          (.ix i1 (List.length s)
            (.lt (wrp .u64 (↑(List.getD s i1.toNat 0).toNat : Int)) fun (v4 : Int) =>
              .cut
                (fun (y3 : Unit) =>
                  .ob ((128 : Int) ≠ 0)
                    (.lt (wrp .u64 (y2.fst + wrp .u64 (v4.tmod 128 * y2.snd))) fun (v5 : Int) =>
                      .br (decide (v4 < 128)) (.ret (.inr (v5, wrp .i64 (i1 + 1), 0)))
                        (.ret (.inl (v5, wrp .u64 (y2.snd * 128))))))
                (.br (i1 == 9) (.br (decide (1 < v4)) (.ret (.inr (.inr (0, 0, 6)))) (.ret (.inl ())))
                  (.ret (.inl ())))))))
    (fun (i1 : Int) (y2 : Int × Int) => .ret (0, 0, 6)) (0, 1)
noncomputable def rtakeP (s : Str) : Int × Int × Int := (rtake s).val

theorem rtake_is (s : Str) : Is (rtake s) :=
  is_cnt (by omega) (by omega) (fun i1 y2 _ _ => is_as fun _ => is_brd (fun _ => is_ret) (fun _ => is_ix (by omega) (by omega) (is_lt fun v4 hv4 => is_cut (is_beq (fun _ => is_brd (fun _ => is_ret) (fun _ => is_ret)) (fun _ => is_ret)) (fun y3 hy3 => is_ob (by omega) (is_lt fun v5 hv5 => is_brd (fun _ => is_ret) (fun _ => is_ret)))))) (fun i1 y2 _ _ => is_ret)
noncomputable def e_rtake : Ent Z := entN Z [] [jS 3 (shp (fun sl => [.slot 7 false [none], .slot 5 false [none], .slot 6 false [none]]) (lCons (cInt .i64) (lCons (cInt .u64) (l1 (cInt .u64))))), jS 100010 (shp (fun sl => []) l0)] (args (a1 (aLf cStr))) (argsI (n := 40) rfl) (shr [.slot 0 false [none], .slot 1 false [none], .slot 2 false [none]] (lCons (cInt .u64) (lCons (cInt .i64) (l1 (cInt .i64))))) [] Tryz.func70 Tryz.ntmps70 (by kernel_rfl) 3 rfl (fun a => rtake a) (fun a => none) (fun a e _ => by kernel_rfl) (fun a => rtakeP a) (fun a h => ⟨rtake_is a, rfl⟩)

theorem pow7 {u i c : Nat} (hu : u < 2 ^ (7 * i)) : u + 2 ^ (7 * i) * (c % 128) < 2 ^ (7 * (i + 1)) := by
  rw [show 7 * (i + 1) = 7 * i + 7 by omega, Nat.pow_add]
  have hm : c % 128 < 128 := Nat.mod_lt _ (by decide)
  generalize 2 ^ (7 * i) = p at *
  have h3 : p * (c % 128) ≤ p * 127 := Nat.mul_le_mul_left p (by omega)
  omega
theorem fin_end (u i : Nat) : finV u i (takeV i []) = (0, 0, 4) := rfl
theorem fin_bad (u i : Nat) (c : UInt8) (r : Str) (h9 : i = 9 ∧ 1 < c.toNat) : finV u i (takeV i (c :: r)) = (0, 0, 6) := by
  unfold takeV
  rw [if_pos h9]
  rfl
theorem fin_one (u i : Nat) (c : UInt8) (r : Str) (h9 : ¬ (i = 9 ∧ 1 < c.toNat)) (h1 : c.toNat < 128) : finV u i (takeV i (c :: r)) = (((u + 2 ^ (7 * i) * (c.toNat % 128) : Nat) : Int), ((i + 1 : Nat) : Int), 0) := by
  unfold takeV
  rw [if_neg h9, if_pos h1, Nat.mod_eq_of_lt h1]
  rfl
theorem vtake_eq (s : Str) : vtakeP s = finV 0 0 (takeV 0 s) := by
  have key : ∀ (m i u : Nat), i ≤ 9 → i ≤ s.length → u < 2 ^ (7 * i) → 10 - i < m → whN (fun (x3 : Int × Int) => bif x3.snd == (s.length : Int) then (Sum.inr (0, 0, 4) : (Int × Int) ⊕ (Int × Int × Int)) else thenS (bif x3.snd == 9 then (bif decide ((1 : Int) < ((s.getD x3.snd.toNat 0).toNat : Int)) then (Sum.inr (.inr (0, 0, 6)) : Unit ⊕ ((Int × Int) ⊕ (Int × Int × Int))) else .inl ()) else .inl ()) fun _ => bif decide (((s.getD x3.snd.toNat 0).toNat : Int) < 128) then Sum.inr (orI .u64 x3.fst (shlI .u64 (wrp .u64 (andI .u8 ((s.getD x3.snd.toNat 0).toNat : Int) 127)) (wrp .i64 (7 * x3.snd))), wrp .i64 (x3.snd + 1), 0) else .inl (orI .u64 x3.fst (shlI .u64 (wrp .u64 (andI .u8 ((s.getD x3.snd.toNat 0).toNat : Int) 127)) (wrp .i64 (7 * x3.snd))), wrp .i64 (x3.snd + 1))) default m ((u : Int), (i : Int)) = finV u i (takeV i (s.drop i)) := by
    intro m
    induction m with
    | zero => intro i u _ _ _ h; omega
    | succ m ih =>
      intro i u h9 hl hu hm
      unfold whN
      dsimp only
      by_cases e1 : i = s.length
      · have : ((i : Int) == (s.length : Int)) = true := by rw [e1]; simp
        rw [this, List.drop_eq_nil_of_le (by omega), fin_end]
        rfl
      · have : ((i : Int) == (s.length : Int)) = false := by rw [beq_eq_false_iff_ne]; omega
        rw [this, cond_false, Int.toNat_natCast, drop_at (by omega)]
        generalize s.getD i 0 = c
        by_cases e2 : i = 9 ∧ 1 < c.toNat
        · rw [fin_bad _ _ _ _ e2]
          have q1 : ((i : Int) == 9) = true := by rw [e2.1]; rfl
          have q2 : decide ((1 : Int) < (c.toNat : Int)) = true := decide_eq_true (by omega)
          rw [q1, q2]
          rfl
        · have q : (bif (i : Int) == 9 then (bif decide ((1 : Int) < (c.toNat : Int)) then (Sum.inr (.inr (0, 0, 6)) : Unit ⊕ ((Int × Int) ⊕ (Int × Int × Int))) else .inl ()) else .inl ()) = .inl () := by
            by_cases e3 : i = 9
            · have q2 : decide ((1 : Int) < (c.toNat : Int)) = false := decide_eq_false (by omega)
              rw [q2]
              cases (i : Int) == 9 <;> rfl
            · have q1 : ((i : Int) == 9) = false := by rw [beq_eq_false_iff_ne]; omega
              rw [q1]
              rfl
          have hi : i ≤ 8 ∨ i = 9 ∧ c.toNat ≤ 1 := by omega
          have w1 : wrp .i64 ((i : Int) + 1) = ((i + 1 : Nat) : Int) := wrp_next (by omega)
          rw [q, thenS_inl, take_or u i c hu hi, w1]
          by_cases e3 : c.toNat < 128
          · rw [fin_one _ _ _ _ e2 e3, decide_eq_true (show (c.toNat : Int) < 128 by omega)]
            rfl
          · rw [fin_step _ _ _ _ e2 e3, decide_eq_false (show ¬ (c.toNat : Int) < 128 by omega)]
            exact ih (i + 1) _ (by omega) (by omega) (pow7 hu) (by omega)
  exact key 11 0 0 (by decide) (Nat.zero_le _) (by decide) (by decide)
theorem rtake_eq (s : Str) : rtakeP s = finV 0 0 (takeV 0 s) := by
  have key : ∀ (k i u : Nat), i + k = 10 → i ≤ 9 → u < 2 ^ (7 * i) → forN (fun (i1 : Int) (y2 : Int × Int) => bif decide ((s.length : Int) ≤ i1) then (Sum.inr (0, 0, 4) : (Int × Int) ⊕ (Int × Int × Int)) else thenS (bif i1 == 9 then (bif decide (1 < wrp .u64 ((s.getD i1.toNat 0).toNat : Int)) then (Sum.inr (.inr (0, 0, 6)) : Unit ⊕ ((Int × Int) ⊕ (Int × Int × Int))) else .inl ()) else .inl ()) fun _ => bif decide (wrp .u64 ((s.getD i1.toNat 0).toNat : Int) < 128) then Sum.inr (wrp .u64 (y2.fst + wrp .u64 ((wrp .u64 ((s.getD i1.toNat 0).toNat : Int)).tmod 128 * y2.snd)), wrp .i64 (i1 + 1), 0) else .inl (wrp .u64 (y2.fst + wrp .u64 ((wrp .u64 ((s.getD i1.toNat 0).toNat : Int)).tmod 128 * y2.snd)), wrp .u64 (y2.snd * 128))) (fun (_ : Int) (_ : Int × Int) => ((0 : Int), (0 : Int), (6 : Int))) k (i : Int) ((u : Int), ((2 ^ (7 * i) : Nat) : Int)) = finV u i (takeV i (s.drop i)) := by
    intro k
    induction k with
    | zero => intro i u h h9; omega
    | succ k ih =>
      intro i u hk h9 hu
      unfold forN
      dsimp only
      by_cases e1 : s.length ≤ i
      · rw [decide_eq_true (show (s.length : Int) ≤ (i : Int) by omega), List.drop_eq_nil_of_le e1, fin_end]
        rfl
      · rw [decide_eq_false (show ¬ (s.length : Int) ≤ (i : Int) by omega), cond_false, Int.toNat_natCast, drop_at (by omega)]
        generalize s.getD i 0 = c
        have hc := c.toNat_lt
        have wc : wrp .u64 (c.toNat : Int) = (c.toNat : Int) := wrp_of (k := .u64) rfl (Nat.lt_trans hc (by decide))
        rw [wc]
        by_cases e2 : i = 9 ∧ 1 < c.toNat
        · rw [fin_bad _ _ _ _ e2]
          have q1 : ((i : Int) == 9) = true := by rw [e2.1]; rfl
          have q2 : decide ((1 : Int) < (c.toNat : Int)) = true := decide_eq_true (by omega)
          rw [q1, q2]
          rfl
        · have q : (bif (i : Int) == 9 then (bif decide ((1 : Int) < (c.toNat : Int)) then (Sum.inr (.inr (0, 0, 6)) : Unit ⊕ ((Int × Int) ⊕ (Int × Int × Int))) else .inl ()) else .inl ()) = .inl () := by
            by_cases e3 : i = 9
            · have q2 : decide ((1 : Int) < (c.toNat : Int)) = false := decide_eq_false (by omega)
              rw [q2]
              cases (i : Int) == 9 <;> rfl
            · have q1 : ((i : Int) == 9) = false := by rw [beq_eq_false_iff_ne]; omega
              rw [q1]
              rfl
          have hm : c.toNat % 128 < 128 := Nat.mod_lt _ (by decide)
          have hi : i ≤ 8 ∨ i = 9 ∧ c.toNat ≤ 1 := by omega
          obtain ⟨h1, h2, h3⟩ := or_add hu (hi.imp id fun h => ⟨h.1, by omega⟩) hm
          have w1 : wrp .i64 ((i : Int) + 1) = ((i + 1 : Nat) : Int) := wrp_next (by omega)
          have w2 : wrp .u64 ((c.toNat : Int).tmod 128 * ((2 ^ (7 * i) : Nat) : Int)) = ((c.toNat % 128 * 2 ^ (7 * i) : Nat) : Int) := by
            have : (c.toNat : Int).tmod 128 = ((c.toNat % 128 : Nat) : Int) := tmod_nat _ 128
            rw [this, ← Int.natCast_mul]
            exact wrp_of (k := .u64) rfl h1
          have w3 : wrp .u64 ((u : Int) + ((c.toNat % 128 * 2 ^ (7 * i) : Nat) : Int)) = ((u + 2 ^ (7 * i) * (c.toNat % 128) : Nat) : Int) := by
            rw [← Int.natCast_add, Nat.mul_comm (c.toNat % 128)]
            exact wrp_of (k := .u64) rfl h3
          rw [q, thenS_inl, w2, w3, w1]
          by_cases e3 : c.toNat < 128
          · rw [fin_one _ _ _ _ e2 e3, decide_eq_true (show (c.toNat : Int) < 128 by omega)]
            rfl
          · rw [fin_step _ _ _ _ e2 e3, decide_eq_false (show ¬ (c.toNat : Int) < 128 by omega)]
            have hi8 : i ≤ 8 := by omega
            have w4 : wrp .u64 (((2 ^ (7 * i) : Nat) : Int) * 128) = ((2 ^ (7 * (i + 1)) : Nat) : Int) := by
              have : ((2 ^ (7 * i) : Nat) : Int) * 128 = ((2 ^ (7 * (i + 1)) : Nat) : Int) := by
                rw [show 7 * (i + 1) = 7 * i + 7 by omega, Nat.pow_add, Int.natCast_mul]
                rfl
              rw [this]
              exact wrp_of (k := .u64) rfl (Nat.pow_lt_pow_right (by decide) (show 7 * (i + 1) < 64 by omega))
            rw [w4]
            exact ih (i + 1) _ (by omega) (by omega) (pow7 hu)
  exact key 10 0 0 (by decide) (by decide) (by decide)
theorem take_eq (s : Str) : vtakeP s = rtakeP s := by rw [vtake_eq, rtake_eq]
theorem take_rng (s : Str) : isU64 (vtakeP s).1 ∧ 0 ≤ (vtakeP s).2.1 ∧ (vtakeP s).2.1 ≤ s.length ∧ ((vtakeP s).2.2 = 0 ∨ (vtakeP s).2.2 = 4 ∨ (vtakeP s).2.2 = 6) ∧ ((vtakeP s).2.2 = 0 → 1 ≤ (vtakeP s).2.1) := by
  rw [vtake_eq]
  have he : ∀ (r : Str) (i : Nat), (takeV i r).2.2 = 0 ∨ (takeV i r).2.2 = 4 ∨ (takeV i r).2.2 = 6 := by
    intro r
    induction r with
    | nil => intro i; exact .inr (.inl rfl)
    | cons c r ih =>
      intro i
      unfold takeV
      split
      · exact .inr (.inr rfl)
      · split
        · exact .inl rfl
        · have := ih (i + 1)
          generalize takeV (i + 1) r = t at *
          obtain ⟨u, n, e⟩ := t
          dsimp only at this ⊢
          split
          · exact .inl rfl
          · exact this
  unfold finV
  by_cases h : (takeV 0 s).2.2 = 0
  · obtain ⟨l, w1, w2, w3, w4, w5, w6, w7⟩ := takeV_spec s 0 (by decide) h
    have := wfV_len w1
    rw [if_pos h]
    have w7 : (takeV 0 s).1 < 18446744073709551616 := w7
    rw [Nat.zero_add, Nat.zero_add, Nat.mul_zero, Nat.pow_zero, Nat.one_mul]
    dsimp only
    exact ⟨⟨by omega, by omega⟩, by omega, by omega, .inl rfl, fun _ => by omega⟩
  · rw [if_neg h]
    dsimp only
    exact ⟨⟨Int.le_refl _, by decide⟩, Int.le_refl _, by omega, (he s 0), fun e => absurd e h⟩
theorem enc_lt : ∀ (k x : Nat), ∀ c ∈ encV k x, c < 256
  | 0, x, c, h => by cases h
  | k + 1, x, c, h => by
    unfold encV at h
    split at h
    · rw [List.mem_singleton] at h; omega
    · rcases List.mem_cons.1 h with h | h
      · omega
      · exact enc_lt k _ c h
theorem enc_bytes (e : List Nat) (s : Str) (he : ∀ c ∈ e, c < 256) : txU (e.map Int.ofNat) = s ↔ e = s.map UInt8.toNat := by
  rw [txU_eq, List.map_map]
  constructor
  · rintro rfl
    rw [List.map_map]
    conv => lhs; rw [← List.map_id e]
    refine List.map_congr_left fun c hc => ?_
    have := he c hc
    simp [UInt8.toNat_ofNat', Nat.mod_eq_of_lt this]
  · rintro rfl
    rw [List.map_map]
    conv => rhs; rw [← List.map_id s]
    exact List.map_congr_left fun c _ => by simp

noncomputable def rshort (s : Str) : Pg Bool :=
  .lt (rtakeP s) fun (v1 : Int × Int × Int) =>
    .br (v1.snd.snd == 0)
      (.br (v1.snd.fst == (↑(List.length s) : Int)) (.ob (isU64 v1.fst) (.as (List.length s ≤ 9223372036854775807) (.ret (rputP v1.fst == s))))
        (.as (List.length s ≤ 9223372036854775807) (.ret false)))
      (.ret false)
noncomputable def rshortP (s : Str) : Bool := (rshort s).val

theorem rshort_is (s : Str) : Is (rshort s) :=
  is_lt fun v1 hv1 => is_beq (fun _ => is_beq (fun _ => is_ob (by rw [hv1, ← take_eq]; exact (take_rng s).1) (is_as fun _ => is_ret)) (fun _ => is_as fun _ => is_ret)) (fun _ => is_ret)
noncomputable def e_rshort : Ent Z := entN Z [e_rtake, e_rput] [] (args (a1 (aLf cStr))) (argsI (n := 26) rfl) (shr [.slot 0 false [none]] (l1 cBool)) [] Tryz.func76 Tryz.ntmps76 (by kernel_rfl) 1 rfl (fun a => rshort a) (fun a => none) (fun a e _ => by kernel_rfl) (fun a => rshortP a) (fun a h => ⟨rshort_is a, rfl⟩)

theorem len_short (s : Str) (h : (vtakeP s).2.2 = 0) : (decide ((vtakeP s).2.1 = vlenP (vtakeP s).1)) = rshortP (s.take (vtakeP s).2.1.toNat) := by
  have hv := vtake_eq s
  unfold finV at hv
  by_cases h0 : (takeV 0 s).2.2 = 0
  · obtain ⟨l, w1, w2, w3, w4, w5, w6, w7⟩ := takeV_spec s 0 (by decide) h0
    have w7 : (takeV 0 s).1 < 18446744073709551616 := w7
    rw [if_pos h0, Nat.zero_add, Nat.zero_add, Nat.mul_zero, Nat.pow_zero, Nat.one_mul] at hv
    rw [hv]
    dsimp only
    rw [Int.toNat_natCast]
    have hp := takeV_pre s 0 h0
    obtain ⟨p1, p2, p3⟩ := vput_nat (takeV 0 s).1 w7
    unfold rshortP rshort
    have hr : rtakeP (s.take (takeV 0 s).2.1) = (((takeV 0 s).1 : Int), ((takeV 0 s).2.1 : Int), 0) := by
      rw [← take_eq, vtake_eq, hp]
      unfold finV
      rw [if_pos h0, Nat.zero_add, Nat.zero_add, Nat.mul_zero, Nat.pow_zero, Nat.one_mul]
    simp only [val_lt, val_br, val_ob, val_as, val_ret, hr]
    have hlen : (s.take (takeV 0 s).2.1).length = (takeV 0 s).2.1 := by rw [List.length_take]; omega
    rw [hlen, p2, p3]
    have e1 : ((0 : Int) == 0) = true := rfl
    have e2 : (((takeV 0 s).2.1 : Int) == ((takeV 0 s).2.1 : Int)) = true := by simp
    rw [e1, e2, cond_true, cond_true]
    have key := enc_iff l 10 w1 (by omega)
    rw [w5] at key
    have e3 : (txU ((encV 10 (takeV 0 s).1).map Int.ofNat) == s.take (takeV 0 s).2.1) = decide (encV 10 (takeV 0 s).1 = l) := by
      rw [Bool.eq_iff_iff, beq_iff_eq, decide_eq_true_eq, enc_bytes _ _ (enc_lt 10 _), w2]
    rw [e3, Bool.eq_iff_iff, decide_eq_true_eq, decide_eq_true_eq, key, w3]
    omega
  · rw [if_neg h0] at hv
    rw [hv] at h
    exact absurd h h0
end Go.Proofs.YtcdhbdjlamikgaaGreatDoor
