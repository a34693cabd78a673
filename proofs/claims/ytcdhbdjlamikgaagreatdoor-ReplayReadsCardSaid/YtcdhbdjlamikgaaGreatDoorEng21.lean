/-
  Own engine: Vei.
-/
import Derived.Test.YtcdhbdjlamikgaaGreatDoorEng11
namespace Go.Vc
open Go.RowKit
set_option linter.unusedVariables false
set_option linter.unusedSimpArgs false

theorem wrp_nat {k : IntKind} (hu : k.signed = false) (n : Nat) : wrp k (n : Int) = ((n % 2 ^ k.bits : Nat) : Int) := by
  cases k <;> simp [IntKind.signed] at hu <;> simp [wrp, IntKind.wrap, IntKind.signed, IntKind.bits]
theorem wrp_of {k : IntKind} (hu : k.signed = false) {n : Nat} (h : n < 2 ^ k.bits) : wrp k (n : Int) = (n : Int) := by
  rw [wrp_nat hu, Nat.mod_eq_of_lt h]
theorem xorI_nat {k : IntKind} (hu : k.signed = false) {x y : Nat} (hx : x < 2 ^ k.bits) (hy : y < 2 ^ k.bits) : xorI k (x : Int) (y : Int) = ((x ^^^ y : Nat) : Int) := by
  have : (BitVec.ofInt k.bits (x : Int) ^^^ BitVec.ofInt k.bits (y : Int)).toNat = x ^^^ y := by
    rw [BitVec.toNat_xor, BitVec.ofInt_natCast, BitVec.ofInt_natCast, BitVec.toNat_ofNat, BitVec.toNat_ofNat, Nat.mod_eq_of_lt hx, Nat.mod_eq_of_lt hy]
  unfold xorI
  rw [this]
  exact wrp_of hu (Nat.xor_lt_two_pow hx hy)
theorem orI_nat {k : IntKind} (hu : k.signed = false) {x y : Nat} (hx : x < 2 ^ k.bits) (hy : y < 2 ^ k.bits) : orI k (x : Int) (y : Int) = ((x ||| y : Nat) : Int) := by
  have : (BitVec.ofInt k.bits (x : Int) ||| BitVec.ofInt k.bits (y : Int)).toNat = x ||| y := by
    rw [BitVec.toNat_or, BitVec.ofInt_natCast, BitVec.ofInt_natCast, BitVec.toNat_ofNat, BitVec.toNat_ofNat, Nat.mod_eq_of_lt hx, Nat.mod_eq_of_lt hy]
  unfold orI
  rw [this]
  exact wrp_of hu (Nat.or_lt_two_pow hx hy)
theorem andI_nat {k : IntKind} (hu : k.signed = false) {x y : Nat} (hx : x < 2 ^ k.bits) (hy : y < 2 ^ k.bits) : andI k (x : Int) (y : Int) = ((x &&& y : Nat) : Int) := by
  have : (BitVec.ofInt k.bits (x : Int) &&& BitVec.ofInt k.bits (y : Int)).toNat = x &&& y := by
    rw [BitVec.toNat_and, BitVec.ofInt_natCast, BitVec.ofInt_natCast, BitVec.toNat_ofNat, BitVec.toNat_ofNat, Nat.mod_eq_of_lt hx, Nat.mod_eq_of_lt hy]
  unfold andI
  rw [this]
  exact wrp_of hu (Nat.and_lt_two_pow x hy)
theorem shrI_nat {k : IntKind} (x n : Nat) (hn : n ≤ k.bits) : shrI k (x : Int) (n : Int) = ((x / 2 ^ n : Nat) : Int) := by
  unfold shrI
  rw [Int.toNat_natCast, Nat.min_eq_left hn, Int.fdiv_eq_ediv_of_nonneg _ (by exact_mod_cast Nat.zero_le _)]
  norm_cast
theorem shlI_nat {k : IntKind} (hu : k.signed = false) {x n : Nat} (hn : n ≤ k.bits) (h : x * 2 ^ n < 2 ^ k.bits) : shlI k (x : Int) (n : Int) = ((x * 2 ^ n : Nat) : Int) := by
  unfold shlI
  rw [Int.toNat_natCast, Nat.min_eq_left hn]
  have : (x : Int) * 2 ^ n = ((x * 2 ^ n : Nat) : Int) := by norm_cast
  rw [this]
  exact wrp_of hu h
theorem tdiv_nat (x n : Nat) : ((x : Int).tdiv (n : Int)) = ((x / n : Nat) : Int) := rfl
theorem tmod_nat (x n : Nat) : ((x : Int).tmod (n : Int)) = ((x % n : Nat) : Int) := rfl

/-- one bit of a checksum -/
def bitC (p r c : Nat) : Nat := bif r % 2 != c % 2 then (r / 2) ^^^ p else r / 2
theorem bit_xor (p h l c : Nat) : bitC p ((2 * h) ^^^ l) c = h ^^^ bitC p l c := by
  unfold bitC
  have e1 : ((2 * h) ^^^ l) % 2 = l % 2 := by
    have := Nat.xor_mod_two_pow (a := 2 * h) (b := l) (n := 1)
    rw [show (2 : Nat) ^ 1 = 2 from rfl, show 2 * h % 2 = 0 by omega, Nat.zero_xor] at this
    exact this
  have e2 : ((2 * h) ^^^ l) / 2 = h ^^^ (l / 2) := by
    rw [Nat.xor_div_two]
    congr 1
    omega
  rw [e1, e2]
  cases l % 2 != c % 2
  · rfl
  · simp only [cond_true]; rw [Nat.xor_assoc]
def bits4 (p l c : Nat) : Nat := bitC p (bitC p (bitC p (bitC p l c) (c / 2)) (c / 2 / 2)) (c / 2 / 2 / 2)
theorem bits4_xor (p h l c : Nat) : bits4 p ((16 * h) ^^^ l) c = h ^^^ bits4 p l c := by
  unfold bits4
  rw [show 16 * h = 2 * (8 * h) by omega, bit_xor, show 8 * h = 2 * (4 * h) by omega, bit_xor, show 4 * h = 2 * (2 * h) by omega, bit_xor, bit_xor]
def tabCrc : List Nat := [0, 498536548, 997073096, 651767980, 1994146192, 1802195444, 1303535960, 1342533948, 3988292384, 4027552580, 3604390888, 3412177804, 2607071920, 2262029012, 2685067896, 3183342108]
theorem bits4_tab : ∀ l, l < 16 → ∀ c, c < 16 → bits4 3988292384 l c = tabCrc.getD (l ^^^ c) 0 := by decide +kernel
theorem bits4_low (p l c : Nat) : bits4 p l c = bits4 p l (c % 16) := by
  unfold bits4 bitC
  rw [show c % 16 % 2 = c % 2 by omega, show c % 16 / 2 % 2 = c / 2 % 2 by omega, show c % 16 / 2 / 2 % 2 = c / 2 / 2 % 2 by omega, show c % 16 / 2 / 2 / 2 % 2 = c / 2 / 2 / 2 % 2 by omega]
theorem split16 (r : Nat) : (16 * (r / 16)) ^^^ (r % 16) = r := by
  have h : (16 * (r / 16)) ^^^ (r % 16) = 16 * (r / 16) + r % 16 := by
    have := Nat.two_pow_add_eq_or_of_lt (i := 4) (b := r % 16) (by omega) (r / 16)
    rw [show (2 : Nat) ^ 4 = 16 from rfl] at this
    rw [this]
    refine Nat.eq_of_testBit_eq fun i => ?_
    rw [Nat.testBit_xor, Nat.testBit_or]
    by_cases hi : i < 4
    · have : (16 * (r / 16)).testBit i = false := by
        rw [show 16 * (r / 16) = 2 ^ 4 * (r / 16) by rfl, Nat.testBit_two_pow_mul]
        simp; omega
      rw [this]; simp
    · have : (r % 16).testBit i = false := by
        rw [show r % 16 = r % 2 ^ 4 by rfl, Nat.testBit_mod_two_pow]
        simp; omega
      rw [this]; simp
  rw [h]; omega
/-- four bits at once -/
theorem nib (r c : Nat) : bits4 3988292384 r c = (r / 16) ^^^ tabCrc.getD ((r ^^^ c) % 16) 0 := by
  conv => lhs; rw [← split16 r]
  rw [bits4_xor, bits4_low, bits4_tab _ (by omega) _ (by omega)]
  congr 2
  have := Nat.xor_mod_two_pow (a := r) (b := c) (n := 4)
  exact this.symm
end Go.Vc
