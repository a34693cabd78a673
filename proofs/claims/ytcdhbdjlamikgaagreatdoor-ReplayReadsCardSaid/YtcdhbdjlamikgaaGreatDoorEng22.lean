/-
  Own engine: Vek.
-/
import Derived.Test.YtcdhbdjlamikgaaGreatDoorEng21
namespace Go.Vc
open Go.RowKit
set_option linter.unusedVariables false
set_option linter.unusedSimpArgs false

/-- The bytes of a number: seven bits each, the lowest first. -/
def encV : Nat → Nat → List Nat
  | 0, _ => []
  | k + 1, x => if x < 128 then [x] else (x % 128 + 128) :: encV k (x / 128)
def decV : List Nat → Nat
  | [] => 0
  | c :: l => c % 128 + 128 * decV l
/-- All bytes but the last go on. -/
def wfV : List Nat → Prop
  | [] => False
  | [c] => c < 128
  | c :: l => 128 ≤ c ∧ c < 256 ∧ wfV l
theorem wfV_len {l : List Nat} (h : wfV l) : 1 ≤ l.length := by
  cases l with
  | nil => exact h.elim
  | cons c l => simp
/-- The shortest form is told by its length. -/
theorem enc_iff : ∀ (l : List Nat) (k : Nat), wfV l → l.length ≤ k → (encV k (decV l) = l ↔ (encV k (decV l)).length = l.length)
  | [], k, h, _ => h.elim
  | [c], k + 1, h, _ => by
    have h : c < 128 := h
    have e : decV [c] = c := by simp [decV]; omega
    rw [e]
    unfold encV
    rw [if_pos h]
    simp
  | [c], 0, _, hk => by simp at hk
  | c :: d :: l, 0, _, hk => by simp at hk
  | c :: d :: l, k + 1, h, hk => by
    obtain ⟨h1, h2, h3⟩ := h
    have ih := enc_iff (d :: l) k h3 (by simpa using hk)
    have e : decV (c :: d :: l) = c % 128 + 128 * decV (d :: l) := rfl
    rw [e]
    generalize decV (d :: l) = u at *
    unfold encV
    by_cases h0 : u = 0
    · subst h0
      rw [if_pos (by omega)]
      simp
    · rw [if_neg (by omega)]
      have e1 : (c % 128 + 128 * u) / 128 = u := by omega
      have e2 : (c % 128 + 128 * u) % 128 + 128 = c := by omega
      rw [e1, e2]
      rw [List.cons.injEq, List.length_cons, List.length_cons]
      constructor
      · rintro ⟨_, h⟩
        rw [ih.1 h]
      · intro h
        exact ⟨rfl, ih.2 (by simpa using h)⟩
theorem dec_lt : ∀ (l : List Nat), decV l < 128 ^ l.length
  | [] => by simp [decV]
  | c :: l => by
    have := dec_lt l
    simp only [decV, List.length_cons, Nat.pow_succ]
    omega
/-- What is read: the number, how many bytes, the outcome (0: right, 4: too short, 6: too great). -/
def takeV : Nat → List UInt8 → Nat × Nat × Int
  | _, [] => (0, 0, 4)
  | i, c :: r => if i = 9 ∧ 1 < c.toNat then (0, 0, 6) else if c.toNat < 128 then (c.toNat, 1, 0) else (match takeV (i + 1) r with
    | (u, n, e) => if e = 0 then (c.toNat % 128 + 128 * u, n + 1, 0) else (0, 0, e))
theorem takeV_spec : ∀ (s : List UInt8) (i : Nat), i ≤ 9 → (takeV i s).2.2 = 0 → ∃ l : List Nat, wfV l ∧ (s.take (takeV i s).2.1).map UInt8.toNat = l ∧ (takeV i s).2.1 = l.length ∧ (takeV i s).2.1 ≤ s.length ∧ decV l = (takeV i s).1 ∧ l.length + i ≤ 10 ∧ (takeV i s).1 < 2 ^ (64 - 7 * i)
  | [], i, _, h => by simp [takeV] at h
  | c :: r, i, hi, h => by
    unfold takeV at h ⊢
    have hc := c.toNat_lt
    by_cases h9 : i = 9 ∧ 1 < c.toNat
    · rw [if_pos h9] at h; simp at h
    · rw [if_neg h9] at h ⊢
      by_cases h1 : c.toNat < 128
      · rw [if_pos h1] at h ⊢
        refine ⟨[c.toNat], h1, by simp, rfl, by simp, by simp [decV]; omega, by simp; omega, ?_⟩
        rcases (by omega : i = 9 ∨ i ≤ 8) with rfl | h8
        · show c.toNat < 2; omega
        · have : 2 ^ 8 ≤ 2 ^ (64 - 7 * i) := Nat.pow_le_pow_right (by decide) (by omega)
          show c.toNat < 2 ^ (64 - 7 * i)
          omega
      · rw [if_neg h1] at h ⊢
        generalize ht : takeV (i + 1) r = t at h ⊢
        obtain ⟨u, n, e⟩ := t
        dsimp only at h ⊢
        by_cases he : e = 0
        · rw [if_pos he] at h ⊢
          have hi9 : i ≠ 9 := fun e9 => h9 ⟨e9, by omega⟩
          have := takeV_spec r (i + 1) (by omega) (by rw [ht]; exact he)
          rw [ht] at this
          obtain ⟨l, w1, w2, w3, w4, w5, w6, w7⟩ := this
          dsimp only at w2 w3 w4 w5 w7 ⊢
          refine ⟨c.toNat :: l, ?_, ?_, by simp [w3], by simp; omega, by simp only [decV]; rw [w5], by simp; omega, ?_⟩
          · cases l with
            | nil => exact w1.elim
            | cons d l => exact ⟨by omega, by omega, w1⟩
          · rw [List.take_succ_cons, List.map_cons, w2]
          · have e7 : 64 - 7 * i = (64 - 7 * (i + 1)) + 7 := by omega
            rw [e7, Nat.pow_add]
            omega
        · rw [if_neg he] at h
          exact absurd h he
/-- What is behind is not looked at. -/
theorem takeV_pre : ∀ (s : List UInt8) (i : Nat), (takeV i s).2.2 = 0 → takeV i (s.take (takeV i s).2.1) = takeV i s
  | [], i, h => by simp [takeV] at h
  | c :: r, i, h => by
    unfold takeV at h
    by_cases h9 : i = 9 ∧ 1 < c.toNat
    · rw [if_pos h9] at h; simp at h
    · rw [if_neg h9] at h
      by_cases h1 : c.toNat < 128
      · have e : takeV i (c :: r) = (c.toNat, 1, 0) := by unfold takeV; rw [if_neg h9, if_pos h1]
        rw [e]
        show takeV i (c :: List.take 0 r) = _
        unfold takeV
        rw [if_neg h9, if_pos h1]
      · rw [if_neg h1] at h
        generalize ht : takeV (i + 1) r = t at h
        obtain ⟨u, n, e⟩ := t
        dsimp only at h
        by_cases he : e = 0
        · have e1 : takeV i (c :: r) = (c.toNat % 128 + 128 * u, n + 1, 0) := by
            unfold takeV
            rw [if_neg h9, if_neg h1, ht]
            dsimp only
            rw [if_pos he]
          have ih := takeV_pre r (i + 1) (by rw [ht]; exact he)
          rw [ht] at ih
          dsimp only at ih
          rw [e1]
          show takeV i (c :: List.take n r) = _
          unfold takeV
          rw [if_neg h9, if_neg h1, ih]
          dsimp only
          rw [if_pos he]
        · rw [if_neg he] at h
          exact absurd h he
end Go.Vc
