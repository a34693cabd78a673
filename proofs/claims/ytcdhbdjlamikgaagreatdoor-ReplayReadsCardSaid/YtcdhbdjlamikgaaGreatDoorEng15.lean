/-
  Own engine: Vea.
-/
import Derived.Test.YtcdhbdjlamikgaaGreatDoorEng14
import Derived.Test.YtcdhbdjlamikgaaGreatDoorEng10
namespace Go.Vc
open Go.RowKit
set_option linter.unusedVariables false
set_option linter.unusedSimpArgs false

mutual
inductive U where
  | mk (sz : Nat) (rows : List (List UC))
inductive UC where
  | bool (b : Bool)
  | int (k : IntKind) (n : Int)
  | str (s : List UInt8)
  | dat (u : U)
  | ifc (v : Option Ifc)
end
def U.size : U → Nat
  | .mk sz _ => sz
def U.rows : U → List (List UC)
  | .mk _ r => r
def UC.lf : UC → Lf U
  | .bool b => .bool b
  | .int k n => .int k n
  | .str s => .str s
  | .dat u => .dat u
  | .ifc v => .ifc v
theorem UC.data (c : UC) : c.lf.isData = true := by cases c <;> rfl
/-- A leaf, as it is laid down; k: the size of a nil slice's elements. -/
def ucOf (k : Nat) : Lf U → Option UC
  | .bool b => some (.bool b)
  | .val (.bool b) => some (.bool b)
  | .int k n => some (.int k n)
  | .str s => some (.str s)
  | .dat u => some (.dat u)
  | .ifc v => some (.ifc v)
  | .val (.slice none 0 0) => some (.dat (.mk k []))
  | _ => none
def ucsOf : List Nat → List (Lf U) → Option (List UC)
  | [], [] => some []
  | k :: ks, x :: xs => (match ucOf k x, ucsOf ks xs with
    | some c, some cs => some (c :: cs)
    | _, _ => none)
  | _, _ => none
def cellU (r : List (List UC)) (i j : Nat) : Lf U :=
  match r[i]? with
  | some cs => (match cs[j]? with
    | some c => c.lf
    | none => .bool false)
  | none => .bool false
/-- Rows out of leaves. -/
def chunk (ks : List Nat) : Nat → List (Lf U) → Option (List (List UC))
  | 0, [] => some []
  | 0, _ :: _ => none
  | n + 1, xs => if Nat.ble ks.length xs.length then (match ucsOf ks (xs.take ks.length), chunk ks n (xs.drop ks.length) with
    | some r, some rs => some (r :: rs)
    | _, _ => none) else none
/-- The sizes of what lies in a row from j on. -/
def sizesAt : List UC → List Nat
  | [] => []
  | .dat u :: r => u.size :: sizesAt r
  | _ :: r => 0 :: sizesAt r
def setU (sz : Nat) (r : List (List UC)) (i j : Nat) (xs : List (Lf U)) : Option U :=
  match r[i]? with
  | none => none
  | some cs => if Nat.ble (j + xs.length) sz && Nat.beq cs.length sz then (match ucsOf (((sizesAt cs).drop j).take xs.length) xs with
    | some ys => some (.mk sz (r.set i (cs.take j ++ (ys ++ cs.drop (j + ys.length)))))
    | none => none) else none
/-- 'ks': for an element type, its leaves: the sizes of their elements (0 where it is no slice). -/
def shU (ks : TypeId → Option (List Nat)) (gl : Nat → Option U) : Sh U where
  size := U.size
  len := fun u => u.rows.length
  cell := fun u i j => cellU u.rows i j
  make := fun e n xs => match ks e with
    | some k => (match chunk k n xs with
      | some r => some (.mk k.length r)
      | none => none)
    | none => none
  zero := fun e n xs => match ks e with
    | some k => (match ucsOf k xs with
      | some r => some (.mk k.length (List.replicate n r))
      | none => none)
    | none => none
  set := fun u i j xs => setU u.size u.rows i j xs
  cat := fun a b => if Nat.beq a.size b.size then some (.mk a.size (a.rows ++ b.rows)) else none
  sub := fun u i j => some (.mk u.size ((u.rows.take j).drop i))
  glob := gl
  text := fun _ s => some (.mk 1 (s.map fun b => [.int .u8 b.toNat]))

section
variable {ks : TypeId → Option (List Nat)} {gl : Nat → Option U}
theorem rows_mk {sz : Nat} {r : List (List UC)} : (U.mk sz r).rows = r := rfl
theorem size_mk {sz : Nat} {r : List (List UC)} : (U.mk sz r).size = sz := rfl
theorem ucOf_le {k : Nat} {x : Lf U} {c : UC} (h : ucOf k x = some c) : x.Le (shU ks gl) c.lf := by
  unfold ucOf at h
  split at h <;> first | (injection h with h; subst h; exact .inl rfl) | skip
  · injection h with h; subst h; exact .inr (.inr ⟨_, rfl, rfl⟩)
  · injection h with h; subst h; exact .inr (.inl ⟨rfl, _, rfl, rfl⟩)
  · cases h
theorem ucsOf_at : ∀ {k : List Nat} {xs : List (Lf U)} {cs : List UC}, ucsOf k xs = some cs → cs.length = k.length ∧ xs.length = k.length ∧ ∀ (j : Nat) (x : Lf U), xs[j]? = some x → ∃ c, cs[j]? = some c ∧ x.Le (shU ks gl) c.lf
  | [], [], cs, h => by simp [ucsOf] at h; subst h; simp
  | k :: kr, x :: xs, cs, h => by
    unfold ucsOf at h
    split at h
    · rename_i c cr h1 h2
      injection h with h
      subst h
      obtain ⟨q1, q2, q3⟩ := ucsOf_at h2
      refine ⟨by simp [q1], by simp [q2], fun j y hy => ?_⟩
      cases j with
      | zero => simp at hy; subst hy; exact ⟨c, rfl, ucOf_le h1⟩
      | succ j => simpa using q3 j y (by simpa using hy)
    · cases h
  | [], _ :: _, cs, h => by simp [ucsOf] at h
  | _ :: _, [], cs, h => by simp [ucsOf] at h
theorem chunk_at {k : List Nat} : ∀ {n : Nat} {xs : List (Lf U)} {r : List (List UC)}, chunk k n xs = some r → r.length = n ∧ xs.length = n * k.length ∧ ∀ i j, i < n → j < k.length → ∃ x, xs[i * k.length + j]? = some x ∧ x.Le (shU ks gl) (cellU r i j)
  | 0, [], r, h => by simp [chunk] at h; subst h; exact ⟨rfl, by simp, fun i j hi => by omega⟩
  | 0, _ :: _, r, h => by simp [chunk] at h
  | n + 1, xs, r, h => by
    unfold chunk at h
    split at h
    · rename_i hl
      have hl := Nat.le_of_ble_eq_true hl
      split at h
      · rename_i c cr h1 h2
        injection h with h
        subst h
        obtain ⟨q1, q2, q3⟩ := chunk_at h2
        obtain ⟨p1, p2, p3⟩ := ucsOf_at (ks := ks) (gl := gl) h1
        have hd : xs.length = k.length + n * k.length := by
          rw [List.length_drop] at q2
          omega
        refine ⟨by simp [q1], by rw [hd, Nat.succ_mul]; omega, fun i j hi hj => ?_⟩
        cases i with
        | zero =>
          rw [Nat.zero_mul, Nat.zero_add]
          have hjx : j < (xs.take k.length).length := by rw [List.length_take]; omega
          obtain ⟨c', h3, h4⟩ := p3 j _ (List.getElem?_eq_getElem hjx)
          refine ⟨(xs.take k.length)[j], by rw [← List.getElem?_take_of_lt hj]; exact List.getElem?_eq_getElem hjx, ?_⟩
          simp only [cellU, List.getElem?_cons_zero, h3]
          exact h4
        | succ i =>
          obtain ⟨x, h3, h4⟩ := q3 i j (by omega) hj
          refine ⟨x, ?_, ?_⟩
          · rw [List.getElem?_drop] at h3
            rw [Nat.succ_mul, show i * k.length + k.length + j = k.length + (i * k.length + j) by omega]
            exact h3
          · simpa [cellU] using h4
      · cases h
    · cases h
theorem shU_ok : ShOk (shU ks gl) where
  make := fun e n cs d h => by
    simp only [shU] at h
    split at h
    · rename_i k hk
      split at h
      · rename_i r hr
        injection h with h
        subst h
        obtain ⟨h1, h2, h3⟩ := chunk_at (ks := ks) (gl := gl) hr
        exact ⟨h1, h2, fun i j hi hj => h3 i j hi hj⟩
      · cases h
    · cases h
  data := fun d i j hi hj => by
    simp only [shU, cellU]
    split
    · split
      · exact UC.data _
      · rfl
    · rfl
  zero := fun e n zs d h => by
    simp only [shU] at h
    split at h
    · rename_i k hk
      split at h
      · rename_i r hr
        injection h with h
        subst h
        obtain ⟨h1, h2, h3⟩ := ucsOf_at (ks := ks) (gl := gl) hr
        refine ⟨by simp [shU, rows_mk], h2, fun i j hi hj => ?_⟩
        have hj : j < k.length := hj
        obtain ⟨c, h4, h5⟩ := h3 j _ (List.getElem?_eq_getElem (show j < zs.length by omega))
        refine ⟨zs[j], List.getElem?_eq_getElem (by omega), ?_⟩
        simp only [shU, cellU, rows_mk]
        rw [List.getElem?_replicate, if_pos hi]
        simp only [h4]
        exact h5
      · cases h
    · cases h
  set := fun d i j xs d' h hi => by
    simp only [shU] at h hi
    unfold setU at h
    split at h
    · cases h
    · rename_i cs hcs
      split at h
      · rename_i hc
        simp only [Bool.and_eq_true] at hc
        have c1 := Nat.le_of_ble_eq_true hc.1
        have c2 := Nat.eq_of_beq_eq_true hc.2
        split at h
        · rename_i ys hys
          injection h with h
          subst h
          obtain ⟨h1, h2, h3⟩ := ucsOf_at (ks := ks) (gl := gl) hys
          have hyx : ys.length = xs.length := by omega
          refine ⟨rfl, by simp [shU, rows_mk], fun i' j' hi' hj' => ⟨fun ⟨e, g1, g2⟩ => ?_, fun hne => ?_⟩⟩
          · subst e
            obtain ⟨c, h4, h5⟩ := h3 (j' - j) _ (List.getElem?_eq_getElem (show j' - j < xs.length by omega))
            refine ⟨xs[j' - j]'(by omega), List.getElem?_eq_getElem (by omega), ?_⟩
            simp only [shU, cellU, rows_mk]
            rw [List.getElem?_set_self (show i' < d.rows.length from hi')]
            have : (cs.take j ++ (ys ++ cs.drop (j + ys.length)))[j']? = some c := by
              rw [List.getElem?_append_right (by rw [List.length_take]; omega), List.length_take, Nat.min_eq_left (by omega), List.getElem?_append_left (by omega)]
              exact h4
            simp only [this]
            exact h5
          · simp only [shU, cellU, rows_mk]
            by_cases e : i' = i
            · subst e
              rw [List.getElem?_set_self (show i' < d.rows.length from hi'), hcs]
              dsimp only
              have : (cs.take j ++ (ys ++ cs.drop (j + ys.length)))[j']? = cs[j']? := by
                by_cases hlt : j' < j
                · rw [List.getElem?_append_left (by rw [List.length_take]; omega), List.getElem?_take_of_lt hlt]
                · have hge : j + xs.length ≤ j' := by
                    rcases Nat.lt_or_ge j' (j + xs.length) with q | q
                    · exact absurd ⟨rfl, by omega, q⟩ hne
                    · exact q
                  rw [List.getElem?_append_right (by rw [List.length_take]; omega), List.length_take, Nat.min_eq_left (by omega), List.getElem?_append_right (by omega), List.getElem?_drop]
                  congr 1
                  omega
              rw [this]
            · rw [List.getElem?_set_ne (by omega)]
        · cases h
      · cases h
  cat := fun d1 d2 d h => by
    simp only [shU] at h
    split at h
    · rename_i hs
      have hs := Nat.eq_of_beq_eq_true hs
      injection h with h
      subst h
      refine ⟨rfl, hs.symm, by simp [shU, rows_mk], fun i j hi => ?_, fun i j hi => ?_⟩
      · simp only [shU, cellU, rows_mk]
        rw [List.getElem?_append_left (show i < d1.rows.length from hi)]
      · simp only [shU, cellU, rows_mk]
        rw [List.getElem?_append_right (by omega)]
        congr 2
        omega
    · cases h
  sub := fun d i j d' h hij hj => by
    simp only [shU] at h hj
    injection h with h
    subst h
    have hj : j ≤ d.rows.length := hj
    refine ⟨rfl, ?_, fun k c hk => ?_⟩
    · show ((d.rows.take j).drop i).length = j - i
      rw [List.length_drop, List.length_take, Nat.min_eq_left hj]
    · simp only [shU, cellU, rows_mk]
      rw [List.getElem?_drop, List.getElem?_take_of_lt (by omega)]
  text := fun e s d h => by
    simp only [shU] at h
    injection h with h
    subst h
    refine ⟨rfl, by simp [shU, rows_mk], fun i hi => ?_⟩
    simp only [shU, cellU, rows_mk]
    rw [List.getElem?_map, List.getElem?_eq_getElem hi]
    simp [UC.lf, List.getD, hi]
end
end Go.Vc
