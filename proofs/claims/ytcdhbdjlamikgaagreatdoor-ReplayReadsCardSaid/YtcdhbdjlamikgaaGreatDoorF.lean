/-
  Replay: numbers.
-/
import Derived.Test.YtcdhbdjlamikgaaGreatDoorV
import Derived.Test.YtcdhbdjlamikgaaGreatDoorEng21
namespace Go.Proofs.YtcdhbdjlamikgaaGreatDoor
open Go.RowKit Go.Vc
set_option linter.unusedVariables false
set_option linter.unusedSimpArgs false
set_option maxRecDepth 100000

theorem and15 (i : Int) : ∃ n : Nat, andI .u32 i 15 = (n : Int) ∧ n < 16 := by
  have h : (BitVec.ofInt 32 i &&& BitVec.ofInt 32 15).toNat < 2 ^ 4 := by
    rw [BitVec.toNat_and]
    exact Nat.and_lt_two_pow _ (by decide)
  exact ⟨_, wrp_of (k := .u32) rfl (Nat.lt_trans h (by decide)), h⟩

noncomputable def half (i : Int) : Pg Int :=
  .ob (0 ≤ andI .u32 i 15 ∧ andI .u32 i (15 : Int) < 16)
    (.ret
      ([0, 498536548, 997073096, 651767980, 1994146192, 1802195444, 1303535960, 1342533948, 3988292384,
            4027552580, 3604390888, 3412177804, 2607071920, 2262029012, 2685067896, 3183342108].getD
        (andI .u32 i 15).toNat 0))
noncomputable def halfP (i : Int) : Int := (half i).val

theorem half_is (i : Int) : Is (half i) :=
  by
  obtain ⟨n, e, hn⟩ := and15 i
  unfold half
  rw [e]
  exact is_ob (by omega) is_ret
noncomputable def e_half : Ent Z := entN Z [] [] (args (a1 (aLf (cInt .u32)))) (argsI (n := 7) rfl) (shr [.slot 0 false [none]] (l1 (cInt .u32))) [] Tryz.func247 Tryz.ntmps247 (by kernel_rfl) 1 rfl (fun a => half a) (fun a => none) (fun a e _ => by kernel_rfl) (fun a => halfP a) (fun a h => ⟨half_is a, rfl⟩)

theorem half_nat (x : Nat) (hx : x < 4294967296) : halfP (x : Int) = ((tabCrc.getD (x % 16) 0 : Nat) : Int) := by
  unfold halfP half
  rw [val_ob, val_ret]
  have e : andI .u32 (x : Int) 15 = ((x &&& 15 : Nat) : Int) := andI_nat (k := .u32) rfl (y := 15) hx (by decide)
  rw [e, show x &&& 15 = x % 16 from Nat.and_two_pow_sub_one_eq_mod x 4, Int.toNat_natCast]
  have key : ∀ i, i < 16 → ([0, 498536548, 997073096, 651767980, 1994146192, 1802195444, 1303535960, 1342533948, 3988292384,
            4027552580, 3604390888, 3412177804, 2607071920, 2262029012, 2685067896, 3183342108] : List Int).getD i 0 = ((tabCrc.getD i 0 : Nat) : Int) := by decide
  exact key _ (by omega)
theorem tab_lt (i : Nat) : tabCrc.getD (i % 16) 0 < 4294967296 := by
  have key : ∀ i, i < 16 → tabCrc.getD i 0 < 4294967296 := by decide
  exact key _ (by omega)

def stepN (r : Nat) (c : UInt8) : Nat := bits4 3988292384 (bits4 3988292384 r c.toNat) (c.toNat / 16)
theorem bitC_lt {p r c : Nat} (hp : p < 4294967296) (hr : r < 4294967296) : bitC p r c < 4294967296 := by
  unfold bitC
  cases r % 2 != c % 2
  · simp only [cond_false]; omega
  · simp only [cond_true]
    exact Nat.xor_lt_two_pow (n := 32) (by omega) hp
theorem bits4_lt {p r c : Nat} (hp : p < 4294967296) (hr : r < 4294967296) : bits4 p r c < 4294967296 := bitC_lt hp (bitC_lt hp (bitC_lt hp (bitC_lt hp hr)))
theorem stepN_lt {r : Nat} {c : UInt8} (hr : r < 4294967296) : stepN r c < 4294967296 := bits4_lt (by decide) (bits4_lt (by decide) hr)
theorem xor32 {x y : Nat} (hx : x < 4294967296) (hy : y < 4294967296) : xorI .u32 (x : Int) (y : Int) = ((x ^^^ y : Nat) : Int) := xorI_nat (k := .u32) rfl hx hy
theorem shr4 (x : Nat) : shrI .u32 (x : Int) 4 = ((x / 16 : Nat) : Int) := shrI_nat (k := .u32) x 4 (by decide)

theorem nibs (r c : Nat) (hc : c < 256) : (((r ^^^ c) / 16 ^^^ tabCrc.getD ((r ^^^ c) % 16) 0) / 16) ^^^ tabCrc.getD (((r ^^^ c) / 16 ^^^ tabCrc.getD ((r ^^^ c) % 16) 0) % 16) 0 = bits4 3988292384 (bits4 3988292384 r c) (c / 16) := by
  have h1 : (r ^^^ c) / 16 ^^^ tabCrc.getD ((r ^^^ c) % 16) 0 = bits4 3988292384 r c ^^^ (c / 16) := by
    rw [nib]
    have : (r ^^^ c) / 16 = r / 16 ^^^ c / 16 := Nat.xor_div_two_pow (n := 4)
    rw [this, Nat.xor_assoc, Nat.xor_assoc, Nat.xor_comm (c / 16)]
  rw [h1, nib (bits4 3988292384 r c) (c / 16)]
  have : (bits4 3988292384 r c ^^^ c / 16) / 16 = bits4 3988292384 r c / 16 ^^^ c / 16 / 16 := Nat.xor_div_two_pow (n := 4)
  rw [this, show c / 16 / 16 = 0 by omega, Nat.xor_zero]

noncomputable def crc (s : Str) : Pg Int :=
  .as (List.length s ≤ 9223372036854775807)
    (.each false ixP s 0
      (fun (i1 : Int) (a3 : UInt8) (y2 : Int) =>
        .ix i1 (List.length s)
          (.ob ((0 : Int) ≤ 4)
            (.ob ((0 : Int) ≤ 4)
              (.lt (shrI .u32 (xorI .u32 y2 (wrp .u32 (↑a3.toNat : Int))) 4) fun (v4 : Int) =>
                .lt (halfP (xorI .u32 y2 (wrp .u32 (↑a3.toNat : Int)))) fun (v5 : Int) =>
                  .ret (.inl (xorI .u32 (shrI .u32 (xorI .u32 v4 v5) 4) (halfP (xorI .u32 v4 v5))))))))
      (fun (i1 y2 : Int) => .ret (wrp .u64 (xorI .u32 (if IntKind.u32.signed = true then (-1) else IntKind.u32.max) y2))) 4294967295)
noncomputable def crcP (s : Str) : Int := (crc s).val

theorem crc_is (s : Str) : Is (crc s) :=
  is_as fun _ => is_each (.inr (by omega)) (fun i1 y2 _ _ => is_ix (by omega) (by omega) (is_ob (by omega) (is_ob (by omega) (is_lt fun v4 hv4 => is_lt fun v5 hv5 => is_ret)))) (fun y2 _ => is_ret)
noncomputable def e_crc : Ent Z := entN Z [e_half] [jS 3 (shp (fun sl => [.slot 7 false [none], .slot 3 false [none]]) (lCons (cInt .i64) (l1 (cInt .u32))))] (args (a1 (aLf cStr))) (argsI (n := 30) rfl) (shr [.slot 0 false [none]] (l1 (cInt .u64))) [] Tryz.func172 Tryz.ntmps172 (by kernel_rfl) 1 rfl (fun a => crc a) (fun a => none) (fun a e _ => by kernel_rfl) (fun a => crcP a) (fun a h => ⟨crc_is a, rfl⟩)

noncomputable def rcrc (s : Str) : Pg Int :=
  .each true ixP s 0
    (fun (i1 : Int) (a5 : UInt8) (y2 : Int) =>
      .ix i1 (List.length s)
        (.lt (wrp .u64 (↑a5.toNat : Int)) fun (v6 : Int) =>
          .cnt ixP 0 8
            (fun (i3 : Int) (y4 : Int × Int) =>
              .ob ((2 : Int) ≠ 0)
                (.ob ((2 : Int) ≠ 0)
                  (.ob ((2 : Int) ≠ 0)
                    (.ob ((2 : Int) ≠ 0)
                      (.br (y4.fst.tmod 2 != y4.snd.tmod 2)
                        (.ret (.inl (xorI .u64 (wrp .u64 (y4.fst.tdiv 2)) 3988292384, wrp .u64 (y4.snd.tdiv 2))))
                        (.ret (.inl (wrp .u64 (y4.fst.tdiv 2), wrp .u64 (y4.snd.tdiv 2)))))))))
            (fun (i3 : Int) (y4 : Int × Int) => .ret (.inl y4.fst)) (y2, v6)))
    (fun (i1 y2 : Int) => .ret (wrp .u64 (4294967295 - y2))) 4294967295
noncomputable def rcrcP (s : Str) : Int := (rcrc s).val

theorem rcrc_is (s : Str) : Is (rcrc s) :=
  is_each (.inl rfl) (fun i1 y2 _ _ => is_ix (by omega) (by omega) (is_lt fun v6 hv6 => is_cnt (by omega) (by omega) (fun i3 y4 _ _ => is_ob (by omega) (is_ob (by omega) (is_ob (by omega) (is_ob (by omega) (is_bne (fun _ => is_ret) (fun _ => is_ret)))))) (fun i3 y4 _ _ => is_ret))) (fun y2 _ => is_ret)
noncomputable def e_rcrc : Ent Z := entN Z [] [jS 3 (shp (fun sl => [.slot 4 false [none], .slot 3 false [none]]) (lCons (cInt .i64) (l1 (cInt .u64)))), jS 7 (shp (fun sl => [.slot 6 false [none], .slot 3 false [none], .slot 5 false [none]]) (lCons (cInt .i64) (lCons (cInt .u64) (l1 (cInt .u64)))))] (args (a1 (aLf cStr))) (argsI (n := 36) rfl) (shr [.slot 0 false [none]] (l1 (cInt .u64))) [] Tryz.func123 Tryz.ntmps123 (by kernel_rfl) 1 rfl (fun a => rcrc a) (fun a => none) (fun a e _ => by kernel_rfl) (fun a => rcrcP a) (fun a h => ⟨rcrc_is a, rfl⟩)

theorem crc_step (r : Nat) (c : UInt8) (hr : r < 4294967296) : xorI .u32 (shrI .u32 (xorI .u32 (shrI .u32 (xorI .u32 (r : Int) (wrp .u32 (c.toNat : Int))) 4) (halfP (xorI .u32 (r : Int) (wrp .u32 (c.toNat : Int))))) 4) (halfP (xorI .u32 (shrI .u32 (xorI .u32 (r : Int) (wrp .u32 (c.toNat : Int))) 4) (halfP (xorI .u32 (r : Int) (wrp .u32 (c.toNat : Int)))))) = ((stepN r c : Nat) : Int) := by
  have hc := c.toNat_lt
  have w : wrp .u32 (c.toNat : Int) = (c.toNat : Int) := wrp_of (k := .u32) rfl (Nat.lt_trans hc (by decide))
  have hx : r ^^^ c.toNat < 4294967296 := Nat.xor_lt_two_pow (n := 32) hr (by omega)
  have hx1 : (r ^^^ c.toNat) / 16 ^^^ tabCrc.getD ((r ^^^ c.toNat) % 16) 0 < 4294967296 := Nat.xor_lt_two_pow (n := 32) (by omega) (tab_lt _)
  rw [w, xor32 hr (by omega), shr4, half_nat _ hx, xor32 (by omega) (tab_lt _), shr4, half_nat _ hx1, xor32 (by omega) (tab_lt _), nibs r c.toNat hc]
  rfl
def crcN (s : Str) : Nat := s.foldl stepN 4294967295
theorem crcN_lt (s : Str) : crcN s < 4294967296 := by
  suffices key : ∀ (s : Str) (r : Nat), r < 4294967296 → s.foldl stepN r < 4294967296 from key s _ (by decide)
  intro s
  induction s with
  | nil => intro r hr; exact hr
  | cons c s ih => intro r hr; exact ih _ (stepN_lt hr)
theorem ones_xor (x : Nat) (h : x < 4294967296) : 4294967295 ^^^ x = 4294967295 - x := by
  have e : (BitVec.allOnes 32 ^^^ BitVec.ofNat 32 x).toNat = (~~~ (BitVec.ofNat 32 x)).toNat := by rw [BitVec.allOnes_xor]
  rw [BitVec.toNat_xor, BitVec.toNat_not, BitVec.toNat_allOnes, BitVec.toNat_ofNat, Nat.mod_eq_of_lt h] at e
  exact e
theorem crc_nat (s : Str) : crcP s = ((4294967295 - crcN s : Nat) : Int) := by
  have key : ∀ (s : Str) (k r : Nat), r < 4294967296 → forE (fun (i : Nat) (a3 : UInt8) (y2 : Int) => (Sum.inl (xorI .u32 (shrI .u32 (xorI .u32 (shrI .u32 (xorI .u32 y2 (wrp .u32 (a3.toNat : Int))) 4) (halfP (xorI .u32 y2 (wrp .u32 (a3.toNat : Int))))) 4) (halfP (xorI .u32 (shrI .u32 (xorI .u32 y2 (wrp .u32 (a3.toNat : Int))) 4) (halfP (xorI .u32 y2 (wrp .u32 (a3.toNat : Int))))))) : Int ⊕ Int))
      (fun (_ : Nat) (y2 : Int) => wrp .u64 (xorI .u32 (if IntKind.u32.signed = true then (-1) else IntKind.u32.max) y2)) s k (r : Int) = ((4294967295 - s.foldl stepN r : Nat) : Int) := by
    intro s
    induction s with
    | nil =>
      intro k r hr
      show wrp .u64 (xorI .u32 ((4294967295 : Nat) : Int) (r : Int)) = _
      rw [xor32 (by decide) hr, ones_xor r hr]
      exact wrp_of (k := .u64) rfl (Nat.lt_of_le_of_lt (Nat.sub_le _ _) (by decide))
    | cons c s ih =>
      intro k r hr
      unfold forE
      rw [crc_step r c hr]
      exact ih (k + 1) (stepN r c) (stepN_lt hr)
  exact key s 0 4294967295 (by decide)
def bitN (x : Nat × Nat) : Nat × Nat := (bitC 3988292384 x.1 x.2, x.2 / 2)
def itN : Nat → Nat × Nat → Nat × Nat
  | 0, x => x
  | n + 1, x => itN n (bitN x)
theorem bit_step (r c : Nat) (hr : r < 4294967296) (hc : c < 256) : (bif (r : Int).tmod 2 != (c : Int).tmod 2 then (Sum.inl (xorI .u64 (wrp .u64 ((r : Int).tdiv 2)) 3988292384, wrp .u64 ((c : Int).tdiv 2)) : (Int × Int) ⊕ (Int ⊕ Int)) else .inl (wrp .u64 ((r : Int).tdiv 2), wrp .u64 ((c : Int).tdiv 2))) = .inl (((bitN (r, c)).1 : Int), ((bitN (r, c)).2 : Int)) := by
  have e1 : (r : Int).tmod 2 = ((r % 2 : Nat) : Int) := tmod_nat r 2
  have e2 : (c : Int).tmod 2 = ((c % 2 : Nat) : Int) := tmod_nat c 2
  have e3 : wrp .u64 ((r : Int).tdiv 2) = ((r / 2 : Nat) : Int) := wrp_of (k := .u64) rfl (n := r / 2) (by show r / 2 < 2 ^ 64; omega)
  have e4 : wrp .u64 ((c : Int).tdiv 2) = ((c / 2 : Nat) : Int) := wrp_of (k := .u64) rfl (n := c / 2) (by show c / 2 < 2 ^ 64; omega)
  have e5 : xorI .u64 ((r / 2 : Nat) : Int) 3988292384 = (((r / 2) ^^^ 3988292384 : Nat) : Int) := xorI_nat (k := .u64) rfl (y := 3988292384) (by show r / 2 < 2 ^ 64; omega) (by decide)
  rw [e1, e2, e3, e4, e5]
  unfold bitN bitC
  have e6 : (((r % 2 : Nat) : Int) != ((c % 2 : Nat) : Int)) = (r % 2 != c % 2) := by
    rw [Bool.eq_iff_iff]
    simp only [bne_iff_ne, ne_eq]
    omega
  rw [e6]
  dsimp only
  cases r % 2 != c % 2 <;> rfl
theorem rcrc_nat (s : Str) : rcrcP s = ((4294967295 - crcN s : Nat) : Int) := by
  have inner : ∀ (n : Nat) (i : Int) (r c : Nat), r < 4294967296 → c < 256 → ∃ r' c' : Nat, r' < 4294967296 ∧ c' < 256 ∧ itN n (r, c) = (r', c') ∧
      forN (fun (_ : Int) (y4 : Int × Int) => (bif y4.fst.tmod 2 != y4.snd.tmod 2 then (Sum.inl (xorI .u64 (wrp .u64 (y4.fst.tdiv 2)) 3988292384, wrp .u64 (y4.snd.tdiv 2)) : (Int × Int) ⊕ (Int ⊕ Int)) else .inl (wrp .u64 (y4.fst.tdiv 2), wrp .u64 (y4.snd.tdiv 2)))) (fun (_ : Int) (y4 : Int × Int) => (Sum.inl y4.fst : Int ⊕ Int)) n i ((r : Int), (c : Int)) = .inl (r' : Int) := by
    intro n
    induction n with
    | zero => intro i r c hr hc; exact ⟨r, c, hr, hc, rfl, rfl⟩
    | succ n ih =>
      intro i r c hr hc
      obtain ⟨r', c', h1, h2, h3, h4⟩ := ih (i + 1) (bitN (r, c)).1 (bitN (r, c)).2 (bitC_lt (by decide) hr) (by show c / 2 < 256; omega)
      refine ⟨r', c', h1, h2, h3, ?_⟩
      unfold forN
      dsimp only
      rw [bit_step r c hr hc]
      exact h4
  have key : ∀ (s : Str) (k r : Nat), r < 4294967296 → forE (fun (_ : Nat) (a5 : UInt8) (y2 : Int) => forN (fun (_ : Int) (y4 : Int × Int) => (bif y4.fst.tmod 2 != y4.snd.tmod 2 then (Sum.inl (xorI .u64 (wrp .u64 (y4.fst.tdiv 2)) 3988292384, wrp .u64 (y4.snd.tdiv 2)) : (Int × Int) ⊕ (Int ⊕ Int)) else .inl (wrp .u64 (y4.fst.tdiv 2), wrp .u64 (y4.snd.tdiv 2)))) (fun (_ : Int) (y4 : Int × Int) => (Sum.inl y4.fst : Int ⊕ Int)) ((8 : Int) - 0).toNat 0 (y2, wrp .u64 (a5.toNat : Int)))
      (fun (_ : Nat) (y2 : Int) => wrp .u64 (4294967295 - y2)) s k (r : Int) = ((4294967295 - s.foldl stepN r : Nat) : Int) := by
    intro s
    induction s with
    | nil =>
      intro k r hr
      show wrp .u64 (4294967295 - (r : Int)) = ((4294967295 - r : Nat) : Int)
      have : (4294967295 : Int) - (r : Int) = ((4294967295 - r : Nat) : Int) := by omega
      rw [this]
      exact wrp_of (k := .u64) rfl (Nat.lt_of_le_of_lt (Nat.sub_le _ _) (by decide))
    | cons c s ih =>
      intro k r hr
      have hc := c.toNat_lt
      obtain ⟨r', c', h1, h2, h3, h4⟩ := inner 8 0 r c.toNat hr (by omega)
      have w : wrp .u64 (c.toNat : Int) = (c.toNat : Int) := wrp_of (k := .u64) rfl (Nat.lt_trans hc (by decide))
      have hs : r' = stepN r c := by
        have e : (itN 8 (r, c.toNat)).1 = bits4 3988292384 (bits4 3988292384 r c.toNat) (c.toNat / 2 / 2 / 2 / 2) := rfl
        rw [h3] at e
        unfold stepN
        rw [show c.toNat / 16 = c.toNat / 2 / 2 / 2 / 2 by omega]
        exact e
      unfold forE
      rw [w, show ((8 : Int) - 0).toNat = 8 from rfl, h4, hs]
      exact ih (k + 1) (stepN r c) (stepN_lt hr)
  exact key s 0 4294967295 (by decide)
theorem crc_eq (s : Str) : crcP s = rcrcP s := by rw [crc_nat, rcrc_nat]

noncomputable def low (u : Int) (n : Int) : Pg (List UInt8) :=
  .ob (n = n ∧ 0 ≤ n ∧ n * (1 : Int) ≤ 281474976710656 ∧ n ≤ 1099511627776)
    (.as ((repI n.toNat 0).length ≤ 9223372036854775807)
      (.cnt ixP 0 (↑(repI n.toNat 0).length : Int)
        (fun (i1 : Int) (y2 : List Int) =>
          .lt (wrp .i64 (8 * i1)) fun (v3 : Int) =>
            .ob (0 ≤ v3) (.ix i1 y2.length (.ob (i1.toNat < y2.length) (.ret (.inl (y2.set i1.toNat (wrp .u8 (shrI .u64 u v3))))))))
        (fun (i1 : Int) (y2 : List Int) => .ob (allN (fun (i : Nat) => true) y2.length = true) (.ret (txU y2))) (repI n.toNat 0)))
noncomputable def lowP (u : Int) (n : Int) : Str := (low u n).val

theorem low_is (u : Int) (n : Int) (h : n = 4) : Is (low u n) :=
  by
  subst h
  refine is_ob (by omega) (is_as fun _ => is_cntI (fun _ y => y.length = 4) rfl (by decide) (by decide) (fun i1 y2 h1 h2 hI => ?_) (fun i1 y2 _ _ hI => is_ob (allN_true (fun _ => rfl) _) (is_ret)))
  have hI : y2.length = 4 := hI
  have h2 : i1 < 4 := h2
  have w : wrp .i64 (8 * i1) = 8 * i1 := wrp_in (k := .i64) (by simp only [InR]; omega)
  rw [w]
  refine ⟨is_lt fun v3 hv3 => is_ob (by omega) (is_ix (by omega) (by omega) (is_ob (by omega) (is_ret))), fun y' hy' => ?_⟩
  revert hy'
  simp only [val_lt, val_ob, val_ix, val_ret]
  intro e
  injection e with e
  subst e
  show (List.set _ _ _).length = 4
  rw [List.length_set]
  exact hI
noncomputable def e_low : Ent Z := entN Z [] [jS 3 (shp (fun sl => [.slot 11 false [none], .row (pid (sl 5)) 5]) (lCons (cInt .i64) (l1 cd_Lu8)))] (args (aCons (aLf (cInt .u64)) (a1 (aLf (cInt .i64))))) (argsI (n := 25) rfl) (shr [.slot 0 false [none]] (l1 cStr)) [] Tryz.func171 Tryz.ntmps171 (by kernel_rfl) 1 rfl (fun a => low (a.1) (a.2)) (fun a => some ((a.2) = 4)) (fun a e _ => by kernel_rfl) (fun a => lowP (a.1) (a.2)) (fun a h => ⟨low_is (a.1) (a.2) h, rfl⟩)

theorem low4 (u : Int) : lowP u 4 = txU [wrp .u8 (shrI .u64 u 0), wrp .u8 (shrI .u64 u 8), wrp .u8 (shrI .u64 u 16), wrp .u8 (shrI .u64 u 24)] := by
  unfold lowP low
  simp only [val_ob, val_as, val_cnt, val_lt, val_ix, val_ret]
  rfl
theorem low_len (u : Int) : (lowP u 4).length = 4 := by rw [low4, txU_len]; rfl

noncomputable def dseal (s : Str) : Pg (List UInt8) :=
  .ob ((4 : Int) = 4) (.lt (lowP (crcP s) 4) fun (v1 : Str) => .ob (List.length s + List.length v1 ≤ 9223372036854775807) (.ret (s ++ v1)))
noncomputable def dsealP (s : Str) : Str := (dseal s).val

theorem dseal_is (s : Str) (h : s.length ≤ 4294967296) : Is (dseal s) :=
  is_ob rfl (is_lt fun v1 hv1 => is_ob (by rw [hv1, low_len]; omega) is_ret)
noncomputable def e_dseal : Ent Z := entN Z [e_low, e_crc] [] (args (a1 (aLf cStr))) (argsI (n := 8) rfl) (shr [.slot 0 false [none]] (l1 cStr)) [] Tryz.func112 Tryz.ntmps112 (by kernel_rfl) 1 rfl (fun a => dseal a) (fun a => some (a.length ≤ 4294967296)) (fun a e _ => by kernel_rfl) (fun a => dsealP a) (fun a h => ⟨dseal_is a h, rfl⟩)

noncomputable def dopen (s : Str) : Pg (List UInt8 × Int) :=
  .br (decide ((↑(List.length s) : Int) < 4)) (.ret ([], 4))
    (.lt (wrp .i64 ((↑(List.length s) : Int) - 4)) fun (v1 : Int) =>
      .ob ((0 : Int) ≤ 0 ∧ 0 ≤ v1 ∧ v1 ≤ (↑(List.length s) : Int))
        (.ob ((List.take v1.toNat s).length ≤ 4294967296)
          (.br (dsealP (List.take v1.toNat s) != s) (.ret ([], 25)) (.ret (List.take v1.toNat s, 0)))))
noncomputable def dopenP (s : Str) : Str × Int := (dopen s).val

theorem dopen_is (s : Str) (h : s.length ≤ 4294967296) : Is (dopen s) :=
  is_brd (fun _ => is_ret) (fun _ => is_ltw fun v1 hv1 h1 => is_ob (by omega) (is_ob (by simp only [List.length_take]; omega) (is_br (fun _ => is_ret) (fun _ => is_ret))))
noncomputable def e_dopen : Ent Z := entN Z [e_dseal] [] (args (a1 (aLf cStr))) (argsI (n := 18) rfl) (shr [.slot 0 false [none], .slot 1 false [none]] (lCons cStr (l1 (cInt .i64)))) [] Tryz.func66 Tryz.ntmps66 (by kernel_rfl) 2 rfl (fun a => dopen a) (fun a => some (a.length ≤ 4294967296)) (fun a e _ => by kernel_rfl) (fun a => dopenP a) (fun a h => ⟨dopen_is a h, rfl⟩)

noncomputable def four (s : Str) : Pg (List UInt8) :=
  .ob ((0 : Int) ≤ 8)
    (.ob ((0 : Int) ≤ 16)
      (.ob ((0 : Int) ≤ 24)
        (.ob (allN (fun (i : Nat) => true) 4 = true)
          (.lt (rcrcP s) fun (v1 : Int) =>
            .ret
              (txU
                [wrp .u8 v1, wrp .u8 (shrI .u64 v1 8), wrp .u8 (shrI .u64 v1 16),
                  wrp .u8 (shrI .u64 v1 24)])))))
noncomputable def fourP (s : Str) : Str := (four s).val

theorem four_is (s : Str) : Is (four s) :=
  is_ob (by omega) (is_ob (by omega) (is_ob (by omega) (is_ob (allN_true (fun _ => rfl) _) (is_lt fun v1 hv1 => is_ret))))
noncomputable def e_four : Ent Z := entN Z [e_rcrc] [] (args (a1 (aLf cStr))) (argsI (n := 19) rfl) (shr [.slot 0 false [none]] (l1 cStr)) [] Tryz.func71 Tryz.ntmps71 (by kernel_rfl) 1 rfl (fun a => four a) (fun a => none) (fun a e _ => by kernel_rfl) (fun a => fourP a) (fun a h => ⟨four_is a, rfl⟩)

theorem four_eq (s : Str) : lowP (crcP s) 4 = fourP s := by
  rw [low4, crc_eq]
  unfold fourP four
  simp only [val_ob, val_lt, val_ret]
  have : shrI .u64 (rcrcP s) 0 = rcrcP s := by
    rw [rcrc_nat]
    have := shrI_nat (k := .u64) (4294967295 - crcN s) 0 (by decide)
    simpa using this
  rw [this]
theorem dseal_eq (s : Str) : dsealP s = s ++ fourP s := by
  unfold dsealP dseal
  simp only [val_ob, val_lt, val_ret, four_eq]
theorem dopen_eq (s : Str) (n : Nat) (h : s.length = n + 4) (hn : n ≤ 4294967296) : (dopenP s).2 = bif fourP (s.take n) != s.drop n then 25 else 0 := by
  unfold dopenP dopen
  have w : wrp .i64 ((s.length : Int) - 4) = (n : Int) := by rw [wrp_in (k := .i64) (by simp only [InR]; omega)]; omega
  have hd : decide ((s.length : Int) < 4) = false := decide_eq_false (by omega)
  simp only [val_br, val_ob, val_lt, val_ret, w, hd, cond_false, Int.toNat_natCast, dseal_eq]
  have e : (s.take n ++ fourP (s.take n) != s) = (fourP (s.take n) != s.drop n) := by
    rw [Bool.eq_iff_iff]
    simp only [bne_iff_ne, ne_eq]
    conv => lhs; rhs; rhs; rw [← List.take_append_drop n s]
    rw [List.append_cancel_left_eq]
  rw [e]
  cases fourP (s.take n) != s.drop n <;> rfl
end Go.Proofs.YtcdhbdjlamikgaaGreatDoor
