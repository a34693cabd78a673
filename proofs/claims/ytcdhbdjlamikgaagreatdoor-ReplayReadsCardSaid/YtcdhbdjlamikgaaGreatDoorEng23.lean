/-
  Own engine: Vel.
-/
import Derived.Test.YtcdhbdjlamikgaaGreatDoorEng22
import Derived.Lib.Bytealg
namespace Go.Vc
open Go.RowKit
set_option linter.unusedVariables false
set_option linter.unusedSimpArgs false

/-- The parts of a text between the bytes c. -/
def partsB (c : UInt8) : List UInt8 → List (List UInt8)
  | [] => [[]]
  | x :: s => if x == c then [] :: partsB c s else match partsB c s with
    | [] => [[x]]
    | p :: r => (x :: p) :: r
theorem partsB_yes {c x : UInt8} {s : List UInt8} (h : (x == c) = true) : partsB c (x :: s) = [] :: partsB c s := by
  conv => lhs; unfold partsB
  rw [h]
  rfl
theorem partsB_no {c x : UInt8} {s : List UInt8} (h : (x == c) = false) : partsB c (x :: s) = match partsB c s with
    | [] => [[x]]
    | p :: r => (x :: p) :: r := by
  conv => lhs; unfold partsB
  rw [h]
  rfl
theorem partsB_ne (c : UInt8) (s : List UInt8) : partsB c s ≠ [] := by
  cases s with
  | nil => simp [partsB]
  | cons x s =>
    unfold partsB
    split
    · simp
    · split <;> simp
/-- A text put before the first part. -/
def headB (a : List UInt8) : List (List UInt8) → List (List UInt8)
  | [] => [a]
  | p :: r => (a ++ p) :: r
theorem headB_nil {l : List (List UInt8)} (h : l ≠ []) : headB [] l = l := by
  cases l with
  | nil => exact absurd rfl h
  | cons p r => rfl
theorem headB_cons (c : UInt8) (x : UInt8) (s a : List UInt8) (h : (x == c) = false) : headB a (partsB c (x :: s)) = headB (a ++ [x]) (partsB c s) := by
  rw [partsB_no h]
  cases partsB c s with
  | nil => rfl
  | cons p r => simp [headB]
theorem parts_none {c : UInt8} : ∀ {s : List UInt8}, Lib.indexByte s c = -1 → partsB c s = [s] ∧ Lib.countByte s c = 0
  | [], _ => ⟨rfl, rfl⟩
  | x :: s, h => by
    have hge := Lib.indexByte_ge s c
    unfold Lib.indexByte at h
    cases hx : x == c with
    | true => rw [hx] at h; simp at h
    | false =>
      rw [hx] at h
      simp only [Bool.false_eq_true, if_false] at h
      by_cases hs : Lib.indexByte s c = -1
      · obtain ⟨h1, h2⟩ := parts_none hs
        rw [partsB_no hx, h1]
        refine ⟨rfl, ?_⟩
        unfold Lib.countByte at h2 ⊢
        rw [List.count_cons, h2, hx]
        rfl
      · have : (Lib.indexByte s c == -1) = false := by simpa using hs
        rw [this] at h
        simp only [Bool.false_eq_true, if_false] at h
        omega
theorem parts_some {c : UInt8} : ∀ {s : List UInt8} {m : Nat}, Lib.indexByte s c = (m : Int) → m < s.length ∧ partsB c s = s.take m :: partsB c (s.drop (m + 1)) ∧ Lib.countByte s c = Lib.countByte (s.drop (m + 1)) c + 1
  | [], m, h => by unfold Lib.indexByte at h; omega
  | x :: s, m, h => by
    have hge := Lib.indexByte_ge s c
    unfold Lib.indexByte at h
    cases hx : x == c with
    | true =>
      rw [hx] at h
      simp only [if_true] at h
      obtain rfl : m = 0 := by omega
      rw [partsB_yes hx]
      refine ⟨by simp, rfl, ?_⟩
      unfold Lib.countByte
      rw [List.count_cons, hx]
      rfl
    | false =>
      rw [hx] at h
      simp only [Bool.false_eq_true, if_false] at h
      by_cases hs : Lib.indexByte s c = -1
      · rw [hs] at h; exact absurd h (by simp)
      · have : (Lib.indexByte s c == -1) = false := by simpa using hs
        rw [this] at h
        simp only [Bool.false_eq_true, if_false] at h
        obtain ⟨k, rfl⟩ : ∃ k, m = k + 1 := ⟨m - 1, by omega⟩
        obtain ⟨h1, h2, h3⟩ := parts_some (c := c) (s := s) (m := k) (by omega)
        rw [partsB_no hx, h2]
        refine ⟨by simp; omega, rfl, ?_⟩
        unfold Lib.countByte at h3 ⊢
        rw [List.count_cons, hx]
        simpa using h3
theorem parts_len (c : UInt8) : ∀ s : List UInt8, (partsB c s).length = Lib.countByte s c + 1
  | [] => rfl
  | x :: s => by
    have ih := parts_len c s
    unfold Lib.countByte at ih ⊢
    rw [List.count_cons]
    cases hx : x == c with
    | true => rw [partsB_yes hx]; simp [ih]
    | false =>
      rw [partsB_no hx]
      simp only [Bool.false_eq_true, if_false]
      cases hp : partsB c s with
      | nil => exact absurd hp (partsB_ne c s)
      | cons p r => rw [hp] at ih; simpa using ih
theorem count_le (c : UInt8) (s : List UInt8) : Lib.countByte s c ≤ s.length := List.count_le_length
/-- What a text's parts are asked, part by part as it is read. -/
theorem parts_loop (ok : List UInt8 → Bool) (c : UInt8) (b : Nat → UInt8 → List UInt8 → List UInt8 ⊕ Bool) (f : Nat → List UInt8 → Bool)
    (hb1 : ∀ k x a, (x == c) = false → b k x a = .inl (a ++ [x])) (hb2 : ∀ k a, b k c a = if ok a then .inl [] else .inr false) (hf : ∀ k a, f k a = ok a) :
    ∀ (s : List UInt8) (k : Nat) (a : List UInt8), forE b f s k a = (headB a (partsB c s)).all ok
  | [], k, a => by simp [forE, hf, partsB, headB]
  | x :: s, k, a => by
    unfold forE
    cases hx : x == c with
    | false =>
      rw [hb1 k x a hx, headB_cons c x s a hx]
      exact parts_loop ok c b f hb1 hb2 hf s (k + 1) (a ++ [x])
    | true =>
      have hx := eq_of_beq hx
      subst hx
      rw [hb2 k a]
      have e : partsB x (x :: s) = [] :: partsB x s := partsB_yes (by simp)
      rw [e]
      cases ha : ok a with
      | true =>
        simp only [if_true]
        have := parts_loop ok x b f hb1 hb2 hf s (k + 1) []
        rw [headB_nil (partsB_ne x s)] at this
        rw [this]
        simp [headB, ha]
      | false => simp [headB, ha]
end Go.Vc
