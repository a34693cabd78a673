/-
  Own engine, part 22: plain lists: the first index, what is deleted; texts compared.
-/
import Derived.Test.YtemjcccdcnhmhaaGreatDoorVdz
namespace Go.Vc
set_option linter.unusedVariables false
set_option linter.unusedSimpArgs false

section
variable {A R Y : Type}

/-- The index of the first that fits, -1 if there is none. -/
def ixFrom (p : A → Bool) : List A → Nat → Int
  | [], _ => -1
  | a :: l, k => bif p a then (↑k : Int) else ixFrom p l (k + 1)
def ixOf (p : A → Bool) (l : List A) : Int := ixFrom p l 0
theorem forE_ix (p : A → Bool) : ∀ (l : List A) (k : Nat), forE (fun k a (_ : Unit) => cond (p a) (.inr (↑k : Int)) (.inl ())) (fun _ _ => (-1 : Int)) l k () = ixFrom p l k
  | [], _ => rfl
  | a :: l, k => by
    unfold forE ixFrom
    cases p a with
    | true => rfl
    | false => exact forE_ix p l (k + 1)
theorem ixFrom_spec (p : A → Bool) : ∀ (l : List A) (k : Nat), (ixFrom p l k = -1 ∧ ∀ a ∈ l, p a = false) ∨ ∃ (u : List A) (a : A) (v : List A), l = u ++ a :: v ∧ p a = true ∧ (∀ x ∈ u, p x = false) ∧ ixFrom p l k = ↑(k + u.length)
  | [], k => .inl ⟨rfl, fun a h => by simp at h⟩
  | a :: l, k => by
    unfold ixFrom
    cases ha : p a with
    | true => exact .inr ⟨[], a, l, rfl, ha, (fun x h => by simp at h), rfl⟩
    | false =>
      rcases ixFrom_spec p l (k + 1) with ⟨h1, h2⟩ | ⟨u, b, v, h1, h2, h3, h4⟩
      · refine .inl ⟨h1, fun b hb => ?_⟩
        rcases List.mem_cons.1 hb with rfl | hb
        · exact ha
        · exact h2 b hb
      · refine .inr ⟨a :: u, b, v, by rw [h1]; rfl, h2, fun x hx => ?_, ?_⟩
        · rcases List.mem_cons.1 hx with rfl | hx
          · exact ha
          · exact h3 x hx
        · simp only [cond_false, h4, List.length_cons]
          congr 1
          omega
theorem ixOf_spec (p : A → Bool) (l : List A) : (ixOf p l = -1 ∧ ∀ a ∈ l, p a = false) ∨ ∃ (u : List A) (a : A) (v : List A), l = u ++ a :: v ∧ p a = true ∧ (∀ x ∈ u, p x = false) ∧ ixOf p l = ↑u.length := by
  have := ixFrom_spec p l 0
  unfold ixOf
  simpa only [Nat.zero_add] using this
theorem ixOf_lt (p : A → Bool) (l : List A) : ixOf p l < l.length ∧ -1 ≤ ixOf p l := by
  rcases ixOf_spec p l with ⟨h, _⟩ | ⟨u, a, v, rfl, _, _, h⟩
  · rw [h]; omega
  · rw [h]; simp; omega
theorem ixOf_at (p : A → Bool) (l : List A) (d : A) (h : 0 ≤ ixOf p l) : p (l.getD (ixOf p l).toNat d) = true := by
  rcases ixOf_spec p l with ⟨h', _⟩ | ⟨u, a, v, rfl, h2, _, h'⟩
  · omega
  · rw [h', Int.toNat_natCast]; simpa [List.getD] using h2

/-- Loops that carry nothing and end early: the first that gives a result. -/
theorem forE_cong {b b' : Nat → A → Y → Y ⊕ R} {f f' : Nat → Y → R} : ∀ (l : List A) (k : Nat) (y : Y), (∀ j a y, k ≤ j → j < k + l.length → b j a y = b' j a y) → (∀ y, f (k + l.length) y = f' (k + l.length) y) → forE b f l k y = forE b' f' l k y
  | [], k, y, _, h => h y
  | a :: l, k, y, hb, hf => by
    unfold forE
    rw [hb k a y (Nat.le_refl _) (by simp)]
    cases b' k a y with
    | inl y' => exact forE_cong l (k + 1) y' (fun j a y h1 h2 => hb j a y (by omega) (by simp only [List.length_cons]; omega)) (fun y => by have := hf y; rwa [show k + (a :: l).length = k + 1 + l.length by simp only [List.length_cons]; omega] at this)
    | inr r => rfl
/-- Is it so of all? -/
theorem forE_all (p : A → Bool) : ∀ (l : List A) (k : Nat), forE (fun _ a (_ : Unit) => cond (p a) (.inl ()) (.inr false)) (fun _ _ => true) l k () = l.all p
  | [], _ => rfl
  | a :: l, k => by
    unfold forE
    rw [List.all_cons]
    cases p a with
    | true => exact forE_all p l (k + 1)
    | false => rfl
/-- A loop that carries on to the end. -/
theorem forE_fold (g : Y → A → Y) (f : Nat → Y → R) : ∀ (l : List A) (k : Nat) (y : Y), forE (fun _ a y => .inl (g y a)) f l k y = f (k + l.length) (l.foldl g y)
  | [], k, y => rfl
  | a :: l, k, y => by
    have := forE_fold g f l (k + 1) (g y a)
    show forE (fun _ a y => .inl (g y a)) f l (k + 1) (g y a) = _
    rw [this]
    simp only [List.length_cons, List.foldl_cons]
    congr 1
    omega

/-- What holds of a loop's result. -/
theorem whN_post {X : Type} {step : X → X ⊕ R} {r0 : R} (I : X → Prop) (mu : X → Nat) (Q : R → Prop) (hs : ∀ x, I x → (∃ x', step x = .inl x' ∧ I x' ∧ mu x' < mu x) ∨ ∃ r, step x = .inr r ∧ Q r) : ∀ (n : Nat) (x : X), I x → mu x < n → Q (whN step r0 n x)
  | 0, x, _, h => by omega
  | n + 1, x, hI, h => by
    unfold whN
    rcases hs x hI with ⟨x', h1, h2, h3⟩ | ⟨r, h1, h2⟩
    · rw [h1]; exact whN_post I mu Q hs n x' h2 (by omega)
    · rw [h1]; exact h2

/-- slices.DeleteFunc. -/
def delPg (p : A → Bool) (d : A) (l : List A) : Pg (List A) :=
  .lt (ixOf p l) fun v1 => .br (v1 == (-1)) (.ret l)
    (.lt (wrp .i64 (v1 + 1)) fun v4 =>
      .wh (l.length + 1) default
        (fun (x3 : Int × Int × List A) =>
          .as (x3.snd.snd.length ≤ 9223372036854775807)
            (.br (decide (x3.fst < (↑x3.snd.snd.length : Int)))
              (.ix x3.fst x3.snd.snd.length
                (.ob (x3.fst.toNat < x3.snd.snd.length)
                  (.lt (wrp .i64 (x3.fst + 1)) fun (v5 : Int) =>
                    .br (!p (x3.snd.snd.getD x3.fst.toNat d))
                      (.ix x3.snd.fst x3.snd.snd.length
                        (.ob (x3.snd.fst.toNat < x3.snd.snd.length)
                          (.ret (.inl (v5, wrp .i64 (x3.snd.fst + 1), x3.snd.snd.set x3.snd.fst.toNat (x3.snd.snd.getD x3.fst.toNat d))))))
                      (.ret (.inl (v5, x3.snd))))))
              (.ob (0 ≤ x3.snd.fst ∧ x3.snd.fst ≤ (↑x3.snd.snd.length : Int) ∧ (↑x3.snd.snd.length : Int) ≤ (↑x3.snd.snd.length : Int))
                (.ob (x3.snd.snd.length = x3.snd.snd.length)
                  (.lt (List.take x3.snd.fst.toNat x3.snd.snd ++ List.replicate (x3.snd.snd.length - x3.snd.fst.toNat) d) fun (v6 : List A) =>
                    .ob ((0 : Int) ≤ 0 ∧ 0 ≤ x3.snd.fst ∧ x3.snd.fst ≤ (↑v6.length : Int)) (.ret (.inr (List.take x3.snd.fst.toNat v6))))))))
        (v4, v1, l))
structure DelI (p : A → Bool) (l : List A) (x : Int × Int × List A) (j i : Nat) : Prop where
  hj : x.1 = ↑j
  hi : x.2.1 = ↑i
  lt : i < j
  le : j ≤ l.length
  len : x.2.2.length = l.length
  tk : x.2.2.take i = (l.take j).filter fun a => !p a
  dr : x.2.2.drop j = l.drop j
theorem del_is (p : A → Bool) (d : A) (l : List A) (hl : l.length ≤ 9223372036854775806) : Is (delPg p d l) ∧ (delPg p d l).val = l.filter fun a => !p a := by
  unfold delPg
  rcases ixOf_spec p l with ⟨h1, h2⟩ | ⟨u, a, v, hu, ha, hb, hx⟩
  · rw [h1]
    refine ⟨is_lt fun v1 hv1 => by subst hv1; exact is_br (fun _ => is_ret) (fun h => by cases h), ?_⟩
    simp only [val_lt, val_br, val_ret]
    refine (List.filter_eq_self.2 fun a ha => ?_).symm
    rw [h2 a ha]; rfl
  · rw [hx]
    have hlen : l.length = u.length + (v.length + 1) := by rw [hu]; simp
    have hne : (((u.length : Int)) == -1) = false := by
      rw [beq_eq_false_iff_ne]; omega
    have hw : wrp .i64 ((u.length : Int) + 1) = ((u.length + 1 : Nat) : Int) := by
      rw [wrp_in (k := .i64) (by simp only [InR]; omega)]; omega
    have h0 : DelI p l (wrp .i64 ((u.length : Int) + 1), (u.length : Int), l) (u.length + 1) u.length := by
      refine ⟨hw, rfl, by omega, by omega, rfl, ?_, rfl⟩
      show l.take u.length = _
      rw [hu]
      have : (u ++ a :: v).take (u.length + 1) = u ++ [a] := by
        rw [show u ++ a :: v = (u ++ [a]) ++ v by simp, show u.length + 1 = (u ++ [a]).length by simp, List.take_left]
      rw [this, List.filter_append, List.take_left]
      have e1 : u.filter (fun a => !p a) = u := List.filter_eq_self.2 fun x hx => by rw [hb x hx]; rfl
      rw [e1]
      simp [ha]
    have at_ : ∀ (x : Int × Int × List A) (j i : Nat), DelI p l x j i → j < l.length → x.2.2.getD j d = l.getD j d ∧ l.take (j + 1) = l.take j ++ [l.getD j d] ∧ x.2.2.drop (j + 1) = l.drop (j + 1) := by
      intro x j i hx hj
      have hj2 : j < x.2.2.length := by rw [hx.len]; exact hj
      have e1 := List.drop_eq_getElem_cons hj
      have e2 := List.drop_eq_getElem_cons hj2
      have := hx.dr
      rw [e1, e2] at this
      injection this with q1 q2
      refine ⟨by rw [getD_some hj, getD_some hj2, q1], ?_, q2⟩
      rw [getD_some hj, List.take_succ_eq_append_getElem hj]
    have step : ∀ (x : Int × Int × List A) (j i : Nat), DelI p l x j i → j < l.length → ∀ q, p (l.getD j d) = q →
        DelI p l (wrp .i64 (x.1 + 1), (cond (!q) (wrp .i64 (x.2.1 + 1), x.2.2.set x.2.1.toNat (x.2.2.getD x.1.toNat d)) x.2)) (j + 1) (cond (!q) (i + 1) i) := by
      intro x j i hx hj q hq
      obtain ⟨k1, k2, k3⟩ := at_ x j i hx hj
      have w1 : wrp .i64 (x.1 + 1) = ((j + 1 : Nat) : Int) := by rw [hx.hj, wrp_in (k := .i64) (by simp only [InR]; omega)]; omega
      have hlt := hx.lt
      cases q with
      | true =>
        refine ⟨w1, hx.hi, ?_, by omega, hx.len, ?_, k3⟩
        · simp; omega
        · show x.2.2.take i = _
          rw [hx.tk, k2, List.filter_append, List.filter_cons, hq]
          simp
      | false =>
        refine ⟨w1, ?_, ?_, by omega, ?_, ?_, ?_⟩
        · show wrp .i64 (x.2.1 + 1) = _
          rw [hx.hi, wrp_in (k := .i64) (by simp only [InR]; omega)]
          simp
        · simp; omega
        · simp [hx.len]
        · show (x.2.2.set x.2.1.toNat (x.2.2.getD x.1.toNat d)).take (i + 1) = _
          rw [hx.hi, hx.hj, Int.toNat_natCast, Int.toNat_natCast, k1]
          have hi2 : i < (x.2.2.set i (l.getD j d)).length := by rw [List.length_set, hx.len]; omega
          rw [List.take_succ_eq_append_getElem hi2, List.getElem_set_self, List.take_set_of_le (Nat.le_refl i), hx.tk, k2, List.filter_append, List.filter_cons, hq]
          simp
        · show (x.2.2.set x.2.1.toNat (x.2.2.getD x.1.toNat d)).drop (j + 1) = _
          rw [hx.hi, Int.toNat_natCast, List.drop_set_of_lt (by omega)]
          exact k3
    refine ⟨is_lt fun v1 hv1 => is_br (fun _ => is_ret) fun _ => is_lt fun v4 hv4 => ?_, ?_⟩
    · subst hv1 hv4
      refine is_wh (fun x => ∃ j i, DelI p l x j i) (fun x => l.length - x.1.toNat) ⟨_, _, h0⟩ (by omega) ?_
      rintro x ⟨j, i, hx⟩
      have q1 := hx.hj
      have q2 := hx.hi
      have q3 := hx.lt
      have q4 := hx.le
      have q5 := hx.len
      refine ⟨is_as fun _ => is_brd (fun h => is_ix (by omega) (by omega) (is_ob (by omega) (is_lt fun v5 hv5 => is_br (fun _ => is_ix (by omega) (by omega) (is_ob (by omega) is_ret)) (fun _ => is_ret)))) (fun h => is_ob (by omega) (is_ob rfl (is_lt fun v6 hv6 => is_ob (by subst hv6; simp only [List.length_append, List.length_take, List.length_replicate]; omega) is_ret))), fun x' hx' => ?_⟩
      revert hx'
      simp only [val_as, val_br, val_ix, val_ob, val_lt, val_ret]
      by_cases h : x.1 < (↑x.2.2.length : Int)
      · simp only [h, decide_true, cond_true]
        intro e
        have hj : j < l.length := by omega
        obtain ⟨k1, _, _⟩ := at_ x j i hx hj
        have hs := step x j i hx hj _ rfl
        have ek : x.2.2.getD x.1.toNat d = l.getD j d := by rw [q1, Int.toNat_natCast]; exact k1
        rw [ek] at e hs
        have w1 : wrp .i64 (x.1 + 1) = ((j + 1 : Nat) : Int) := hs.hj
        cases hq : p (l.getD j d) with
        | true =>
          rw [hq] at e hs
          injection e with e
          subst e
          exact ⟨⟨_, _, hs⟩, by have : (wrp .i64 (x.1 + 1)).toNat = j + 1 := by rw [w1]; rfl
                                show l.length - (wrp .i64 (x.1 + 1)).toNat < _
                                omega⟩
        | false =>
          rw [hq] at e hs
          injection e with e
          subst e
          exact ⟨⟨_, _, hs⟩, by have : (wrp .i64 (x.1 + 1)).toNat = j + 1 := by rw [w1]; rfl
                                show l.length - (wrp .i64 (x.1 + 1)).toNat < _
                                omega⟩
      · simp only [h, decide_false, cond_false]
        intro e; cases e
    · simp only [val_lt, val_br, hne, cond_false, val_wh]
      refine whN_post (fun x => ∃ j i, DelI p l x j i) (fun x => l.length - x.1.toNat) (fun r => r = l.filter fun a => !p a) ?_ _ _ ⟨_, _, h0⟩ (by omega)
      rintro x ⟨j, i, hx⟩
      have q1 := hx.hj
      have q2 := hx.hi
      have q3 := hx.lt
      have q4 := hx.le
      have q5 := hx.len
      simp only [val_as, val_br, val_ix, val_ob, val_lt, val_ret]
      by_cases h : x.1 < (↑x.2.2.length : Int)
      · left
        simp only [h, decide_true, cond_true]
        have hj : j < l.length := by omega
        obtain ⟨k1, _, _⟩ := at_ x j i hx hj
        have hs := step x j i hx hj _ rfl
        have ek : x.2.2.getD x.1.toNat d = l.getD j d := by rw [q1, Int.toNat_natCast]; exact k1
        rw [ek] at hs ⊢
        have w1 : wrp .i64 (x.1 + 1) = ((j + 1 : Nat) : Int) := hs.hj
        have hm : l.length - (wrp .i64 (x.1 + 1)).toNat < l.length - x.1.toNat := by
          have : (wrp .i64 (x.1 + 1)).toNat = j + 1 := by rw [w1]; rfl
          omega
        cases hq : p (l.getD j d) with
        | true => rw [hq] at hs; exact ⟨_, rfl, ⟨_, _, hs⟩, hm⟩
        | false => rw [hq] at hs; exact ⟨_, rfl, ⟨_, _, hs⟩, hm⟩
      · right
        simp only [h, decide_false, cond_false]
        refine ⟨_, rfl, ?_⟩
        have hj : j = l.length := by omega
        rw [q2, Int.toNat_natCast]
        have e := hx.tk
        rw [hj, List.take_length] at e
        rw [← e, List.take_append_of_le_length (by rw [List.length_take]; omega), List.take_take, Nat.min_self]

theorem ixFrom_mid (p : A → Bool) : ∀ (u : List A) (a : A) (v : List A) (k : Nat), (∀ x ∈ u, p x = false) → p a = true → ixFrom p (u ++ a :: v) k = ↑(k + u.length)
  | [], a, v, k, _, h => by simp [ixFrom, h]
  | x :: u, a, v, k, hu, h => by
    simp only [List.cons_append, ixFrom, hu x (by simp), cond_false]
    rw [ixFrom_mid p u a v (k + 1) (fun y hy => hu y (by simp [hy])) h]
    simp only [List.length_cons]
    congr 1
    omega
theorem ixOf_mid (p : A → Bool) (u : List A) (a : A) (v : List A) (hu : ∀ x ∈ u, p x = false) (h : p a = true) : ixOf p (u ++ a :: v) = ↑u.length := by
  have := ixFrom_mid p u a v 0 hu h
  rwa [Nat.zero_add] at this
theorem getD_mid (u : List A) (a d : A) (v : List A) : (u ++ a :: v).getD u.length d = a := by simp [List.getD]
theorem set_mid (u : List A) (a b : A) (v : List A) : (u ++ a :: v).set u.length b = u ++ b :: v := by
  rw [List.set_append_right _ _ (Nat.le_refl _)]
  simp
/-- A loop that writes each place anew. -/
theorem forN_map (g : A → A) (d : A) (f : Int → List A → R) : ∀ (v u : List A), forN (fun i y => .inl (y.set i.toNat (g (y.getD i.toNat d)))) f v.length ↑u.length (u ++ v) = f ↑(u.length + v.length) (u ++ v.map g)
  | [], u => rfl
  | a :: v, u => by
    show forN _ f v.length (↑u.length + 1) ((u ++ a :: v).set (↑u.length : Int).toNat (g ((u ++ a :: v).getD (↑u.length : Int).toNat d))) = _
    rw [Int.toNat_natCast, getD_mid, set_mid]
    have := forN_map g d f v (u ++ [g a])
    simp only [List.append_assoc, List.cons_append, List.nil_append, List.length_append, List.length_singleton] at this
    rw [show ((u.length : Int) + 1) = ((u.length + 1 : Nat) : Int) by omega, this]
    simp only [List.length_cons, List.map_cons]
    congr 2
    omega
theorem forN_map0 (g : A → A) (d : A) (f : Int → List A → R) (l : List A) : forN (fun i y => .inl (y.set i.toNat (g (y.getD i.toNat d)))) f (↑l.length - 0 : Int).toNat 0 l = f ↑l.length (l.map g) := by
  have := forN_map g d f l []
  simpa using this
theorem getD_mem {l : List A} {i : Nat} {d : A} (h : i < l.length) : l.getD i d ∈ l := by
  rw [getD_some h]; exact List.getElem_mem h

theorem forN_succ (b : Int → Y → Y ⊕ R) (f : Int → Y → R) (n : Nat) (i : Int) (y : Y) : forN b f (n + 1) i y = thenS (b i y) (forN b f n (i + 1)) := by
  unfold forN thenS
  cases b i y <;> rfl
theorem forN_unit (b : Int → Unit → Unit ⊕ R) (f : Int → Unit → R) (n : Nat) (i : Int) : forN b f (n + 1) i () = thenS (b i ()) fun _ => forN b f n (i + 1) () :=
  (forN_succ b f n i ()).trans (congrArg (thenS (b i ())) (funext fun u => rfl))
theorem forN_zero (b : Int → Y → Y ⊕ R) (f : Int → Y → R) (i : Int) (y : Y) : forN b f 0 i y = f i y := rfl
theorem thenS_cond {X : Type} (c : Bool) (a b : X ⊕ R) (k : X → R) : thenS (cond c a b) k = cond c (thenS a k) (thenS b k) := by cases c <;> rfl
end
end Go.Vc
