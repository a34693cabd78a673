/-
  Intercept: the reference's Before.
-/
import Derived.Test.YtemjcccdcnhmhaaGreatDoorJ
namespace Go.Proofs.YtemjcccdcnhmhaaGreatDoor
open Go.RowKit Go.Vc
set_option linter.unusedVariables false
set_option linter.unusedSimpArgs false
set_option maxRecDepth 100000

noncomputable def rrecent (t : List Trace) (path : Str) (than : Int) : Pg Int :=
  .each true ixI t d_Trace
    (fun (i1 : Int) (a6 : Trace) (y2 : Unit) =>
      .ix i1 t.length
        (.br (a6.Method == path)
          (.eachG [0 ≤ i1 ∧ i1 < (↑t.length : Int)] true ixP a6.Times 0
            (fun (i3 a5 y4 : Int) =>
              .ix i1 t.length (.ix i3 a6.Times.length (.br (decide (than < a5)) (.ret (.inl (wrp .i64 (y4 + 1)))) (.ret (.inl y4)))))
            (fun (i3 y4 : Int) => .ret (.inr y4)) 0)
          (.ret (.inl ()))))
    (fun (i1 : Int) (y2 : Unit) => .ret 0) ()
noncomputable def rrecentP (t : List Trace) (path : Str) (than : Int) : Int := (rrecent t path than).val

theorem rrecent_is (t : List Trace) (path : Str) (than : Int) : Is (rrecent t path than) :=
  is_each (.inl rfl) (fun i1 y2 _ _ => is_ix (by omega) (by omega) (is_br (fun _ => is_eachG ⟨by omega, trivial⟩ (.inl rfl) (fun i3 y4 _ _ => is_ix (by omega) (by omega) (is_ix (by omega) (by omega) (is_brd (fun _ => is_ret) (fun _ => is_ret)))) (fun y4 _ => is_ret)) (fun _ => is_ret))) (fun y2 _ => is_ret)
noncomputable def e_rrecent : Ent Z := entN Z [] [jS 2 (shp (fun sl => [.slot 7 false [none]]) (l1 (cInt .i64))), jS 7 (shp (fun sl => [.slot 9 false [none], .slot 8 false [none]]) (lCons (cInt .i64) (l1 (cInt .i64))))] (args (aCons (aLf cd_LTrace) (aCons (aLf cStr) (a1 (aLf (cInt .i64)))))) (argsI (n := 46) rfl) (shr [.slot 0 false [none]] (l1 (cInt .i64))) [] Tryz.func34 Tryz.ntmps34 (by kernel_rfl) 1 rfl (fun a => rrecent (a.1) (a.2.1) (a.2.2)) (fun a => none) (fun a e _ => by kernel_rfl) (fun a => rrecentP (a.1) (a.2.1) (a.2.2)) (fun a h => ⟨rrecent_is (a.1) (a.2.1) (a.2.2), rfl⟩)

noncomputable def rpath (s : Str) (m : Str) : Pg (List UInt8) :=
  .ob (List.length s + 1 ≤ 9223372036854775807)
    (.lt (s ++ [47]) fun (v1 : List UInt8) => .ob (v1.length + List.length m ≤ 9223372036854775807) (.ret (v1 ++ m)))
noncomputable def rpathP (s : Str) (m : Str) : Str := (rpath s m).val

theorem rpath_is (s : Str) (m : Str) (h : s.length + m.length ≤ 1000000) : Is (rpath s m) :=
  is_ob (by (try subst_vars); (try simp only [List.length_append, List.length_cons, List.length_nil]); omega) (is_lt fun v1 hv1 => is_ob (by (try subst_vars); (try simp only [List.length_append, List.length_cons, List.length_nil]); omega) (is_ret))
noncomputable def e_rpath : Ent Z := entN Z [] [] (args (aCons (aLf cStr) (a1 (aLf cStr)))) (argsI (n := 9) rfl) (shr [.slot 0 false [none]] (l1 cStr)) [] Tryz.func35 Tryz.ntmps35 (by kernel_rfl) 1 rfl (fun a => rpath (a.1) (a.2)) (fun a => some ((a.1).length + (a.2).length ≤ 1000000)) (fun a e _ => by kernel_rfl) (fun a => rpathP (a.1) (a.2)) (fun a h => ⟨rpath_is (a.1) (a.2) h, rfl⟩)

noncomputable def rbound (n : Int) : Pg Int :=
  .br (decide (n < 0)) (.ret 0) (.br (decide (1099511627776 < n)) (.ret 1099511627776) (.ret n))
noncomputable def rboundP (n : Int) : Int := (rbound n).val

theorem rbound_is (n : Int) : Is (rbound n) :=
  is_brd (fun _ => is_ret) (fun _ => is_brd (fun _ => is_ret) (fun _ => is_ret))
noncomputable def e_rbound : Ent Z := entN Z [] [] (args (a1 (aLf (cInt .i64)))) (argsI (n := 8) rfl) (shr [.slot 0 false [none]] (l1 (cInt .i64))) [] Tryz.func78 Tryz.ntmps78 (by kernel_rfl) 1 rfl (fun a => rbound a) (fun a => none) (fun a e _ => by kernel_rfl) (fun a => rboundP a) (fun a h => ⟨rbound_is a, rfl⟩)

noncomputable def rearlier (a : Int) (b : Int) : Pg Int :=
  .br (decide (a < 1))
    (.br (decide (b < 1)) (.ret 0)
      (.br (decide (a < 1)) (.ret b) (.br (decide (b < 1)) (.ret a) (.br (decide (a < b)) (.ret a) (.ret b)))))
    (.br (decide (a < 1)) (.ret b) (.br (decide (b < 1)) (.ret a) (.br (decide (a < b)) (.ret a) (.ret b))))
noncomputable def rearlierP (a : Int) (b : Int) : Int := (rearlier a b).val

theorem rearlier_is (a : Int) (b : Int) : Is (rearlier a b) :=
  is_brd (fun _ => is_brd (fun _ => is_ret) (fun _ => is_brd (fun _ => is_ret) (fun _ => is_brd (fun _ => is_ret) (fun _ => is_brd (fun _ => is_ret) (fun _ => is_ret))))) (fun _ => is_brd (fun _ => is_ret) (fun _ => is_brd (fun _ => is_ret) (fun _ => is_brd (fun _ => is_ret) (fun _ => is_ret))))
noncomputable def e_rearlier : Ent Z := entN Z [] [] (args (aCons (aLf (cInt .i64)) (a1 (aLf (cInt .i64))))) (argsI (n := 26) rfl) (shr [.slot 0 false [none]] (l1 (cInt .i64))) [] Tryz.func37 Tryz.ntmps37 (by kernel_rfl) 1 rfl (fun a => rearlier (a.1) (a.2)) (fun a => none) (fun a e _ => by kernel_rfl) (fun a => rearlierP (a.1) (a.2)) (fun a h => ⟨rearlier_is (a.1) (a.2), rfl⟩)

noncomputable def rafter (a : Int) (b : Int) : Pg Int :=
  .ret (rboundP (wrp .i64 (rboundP a + rboundP b)))
noncomputable def rafterP (a : Int) (b : Int) : Int := (rafter a b).val

theorem rafter_is (a : Int) (b : Int) : Is (rafter a b) :=
  is_ret
noncomputable def e_rafter : Ent Z := entN Z [e_rbound] [] (args (aCons (aLf (cInt .i64)) (a1 (aLf (cInt .i64))))) (argsI (n := 11) rfl) (shr [.slot 0 false [none]] (l1 (cInt .i64))) [] Tryz.func38 Tryz.ntmps38 (by kernel_rfl) 1 rfl (fun a => rafter (a.1) (a.2)) (fun a => none) (fun a e _ => by kernel_rfl) (fun a => rafterP (a.1) (a.2)) (fun a h => ⟨rafter_is (a.1) (a.2), rfl⟩)

noncomputable def rnoted (t : List Trace) (path : Str) (now : Int) : Pg (List Trace) :=
  .cut
    (fun (y4 : Bool) =>
      .cut (fun (y9 : List Trace × Bool) => .br (!y9.snd) (.ob (roomP (y9.fst.length + 1) 40) (.ret (y9.fst ++ [Trace.mk path [now]]))) (.ret y9.fst))
        (.each true ixP t d_Trace
          (fun (i5 : Int) (a8 : Trace) (y6 : List Trace × Bool) =>
            .ix i5 t.length
              (.cut
                (fun (y7 : Bool × Trace) =>
                  .lt (y6.fst ++ [y7.snd]) fun (v10 : List Trace) =>
                    .br (!y7.fst)
                      (.br (!y4)
                        (.br (!(Op.bytesLess y7.snd.Method path || y7.snd.Method == path))
                          (.ob (roomP (y6.fst.length + 1) 40)
                            (.lt (y6.fst ++ [Trace.mk path [now]]) fun (v11 : List Trace) =>
                              .ob (roomP (v11.length + 1) 40) (.ret (.inl (v11 ++ [y7.snd], true)))))
                          (.ob (roomP (y6.fst.length + 1) 40) (.ret (.inl (v10, y7.fst)))))
                        (.ob (roomP (y6.fst.length + 1) 40) (.ret (.inl (v10, y7.fst)))))
                      (.ob (roomP (y6.fst.length + 1) 40) (.ret (.inl (v10, y7.fst)))))
                (.br (!y6.snd)
                  (.br y4
                    (.br (a8.Method == path)
                      (.ob (roomP a8.Times.length 8)
                        (.ob (roomP (a8.Times.length + 1) 8) (.ret (.inl (true, Trace.mk a8.Method (a8.Times ++ [now]))))))
                      (.ret (.inl (y6.snd, a8))))
                    (.ret (.inl (y6.snd, a8))))
                  (.ret (.inl (y6.snd, a8))))))
          (fun (i5 : Int) (y6 : List Trace × Bool) => .ret (.inl y6)) ([], false)))
    (.each true ixP t d_Trace (fun (i1 : Int) (a3 : Trace) (y2 : Bool) => .ix i1 t.length (.br (a3.Method == path) (.ret (.inl true)) (.ret (.inl y2))))
      (fun (i1 : Int) (y2 : Bool) => .ret (.inl y2)) false)
noncomputable def rnotedP (t : List Trace) (path : Str) (now : Int) : List Trace := (rnoted t path now).val

noncomputable def rkept (t : List Trace) (than : Int) : Pg (List Trace) :=
  .each true ixP t d_Trace
    (fun (i1 : Int) (a7 : Trace) (y2 : List Trace) =>
      .ix i1 t.length
        (.cut
          (fun (y6 : Trace) =>
            .br (decide (0 < (↑y6.Times.length : Int))) (.ob (roomP (y2.length + 1) 40) (.ret (.inl (y2 ++ [y6])))) (.ret (.inl y2)))
          (.eachG [0 ≤ i1 ∧ i1 < (↑t.length : Int)] true ixP a7.Times 0
            (fun (i3 a5 : Int) (y4 : Trace) =>
              .ix i1 t.length
                (.ix i3 a7.Times.length
                  (.br (decide (than < a5))
                    (.ix i1 t.length (.ix i3 a7.Times.length (.ob (roomP (y4.Times.length + 1) 8) (.ret (.inl (Trace.mk y4.Method (y4.Times ++ [a5])))))))
                    (.ret (.inl y4)))))
            (fun (i3 : Int) (y4 : Trace) => .ret (.inl y4)) (Trace.mk a7.Method []))))
    (fun (i1 : Int) (y2 : List Trace) => .ret y2) []
noncomputable def rkeptP (t : List Trace) (than : Int) : List Trace := (rkept t than).val

noncomputable def sameTraces (a : List Trace) (b : List Trace) : Pg Bool :=
  .as (a.length ≤ 9223372036854775807)
    (.as (b.length ≤ 9223372036854775807)
      (.br ((↑a.length : Int) != (↑b.length : Int)) (.ret false)
        (.each true ixI a d_Trace
          (fun (i1 : Int) (a6 : Trace) (y2 : Unit) =>
            .ix i1 a.length
              (.ix i1 b.length
                (.br (a6.Method != (b.getD i1.toNat d_Trace).Method) (.ret (.inr false))
                  (.ix i1 a.length
                    (.ix i1 b.length
                      (.as (a6.Times.length ≤ 9223372036854775807)
                        (.as ((b.getD i1.toNat d_Trace).Times.length ≤ 9223372036854775807)
                          (.br ((↑a6.Times.length : Int) != (↑(b.getD i1.toNat d_Trace).Times.length : Int)) (.ret (.inr false))
                            (.eachG [0 ≤ i1 ∧ i1 < (↑a.length : Int)] true ixI a6.Times 0
                              (fun (i3 a5 : Int) (y4 : Unit) =>
                                .ix i1 a.length
                                  (.ix i3 a6.Times.length
                                    (.ix i1 b.length
                                      (.ix i3 (b.getD i1.toNat d_Trace).Times.length
                                        (.br (a5 != (b.getD i1.toNat d_Trace).Times.getD i3.toNat 0) (.ret (.inr (.inr false))) (.ret (.inl ())))))))
                              (fun (i3 : Int) (y4 : Unit) => .ret (.inl ())) ())))))))))
          (fun (i1 : Int) (y2 : Unit) => .ret true) ())))
noncomputable def sameTracesP (a : List Trace) (b : List Trace) : Bool := (sameTraces a b).val

theorem sameTraces_is (a : List Trace) (b : List Trace) : Is (sameTraces a b) :=
  is_as fun _ => is_as fun _ => is_bne (fun _ => is_ret) (fun _ => is_each (.inl rfl) (fun i1 y2 _ _ => is_ix (by omega) (by omega) (is_ix (by omega) (by omega) (is_br (fun _ => is_ret) (fun _ => is_ix (by omega) (by omega) (is_ix (by omega) (by omega) (is_as fun _ => is_as fun _ => is_bne (fun _ => is_ret) (fun _ => is_eachG ⟨by omega, trivial⟩ (.inl rfl) (fun i3 y4 _ _ => is_ix (by omega) (by omega) (is_ix (by omega) (by omega) (is_ix (by omega) (by omega) (is_ix (by omega) (by omega) (is_bne (fun _ => is_ret) (fun _ => is_ret)))))) (fun y4 _ => is_ret)))))))) (fun y2 _ => is_ret))
noncomputable def e_sameTraces : Ent Z := entN Z [] [jS 4 (shp (fun sl => [.slot 5 false [none]]) (l1 (cInt .i64))), jS 9 (shp (fun sl => [.slot 6 false [none]]) (l1 (cInt .i64)))] (args (aCons (aLf cd_LTrace) (a1 (aLf cd_LTrace)))) (argsI (n := 71) rfl) (shr [.slot 0 false [none]] (l1 cBool)) [] Tryz.func12 Tryz.ntmps12 (by kernel_rfl) 1 rfl (fun a => sameTraces (a.1) (a.2)) (fun a => none) (fun a e _ => by kernel_rfl) (fun a => sameTracesP (a.1) (a.2)) (fun a h => ⟨sameTraces_is (a.1) (a.2), rfl⟩)

noncomputable def traced (t : List Trace) : Pg Bool :=
  .br (decide (30 < (↑t.length : Int))) (.ret false)
    (.each true ixI t d_Trace
      (fun (i1 : Int) (a3 : Trace) (y2 : Unit) =>
        .ix i1 t.length
          (.br (decide (700 < (↑(List.length a3.Method) : Int))) (.ret (.inr false))
            (.ix i1 t.length (.br (decide (200 < (↑a3.Times.length : Int))) (.ret (.inr false)) (.ret (.inl ()))))))
      (fun (i1 : Int) (y2 : Unit) => .ret true) ())
noncomputable def tracedP (t : List Trace) : Bool := (traced t).val

theorem traced_is (t : List Trace) : Is (traced t) :=
  is_brd (fun _ => is_ret) (fun _ => is_each (.inl rfl) (fun i1 y2 _ _ => is_ix (by omega) (by omega) (is_brd (fun _ => is_ret) (fun _ => is_ix (by omega) (by omega) (is_brd (fun _ => is_ret) (fun _ => is_ret))))) (fun y2 _ => is_ret))
noncomputable def e_traced : Ent Z := entN Z [] [jS 4 (shp (fun sl => [.slot 3 false [none]]) (l1 (cInt .i64)))] (args (a1 (aLf cd_LTrace))) (argsI (n := 29) rfl) (shr [.slot 0 false [none]] (l1 cBool)) [] Tryz.func23 Tryz.ntmps23 (by kernel_rfl) 1 rfl (fun a => traced a) (fun a => none) (fun a e _ => by kernel_rfl) (fun a => tracedP a) (fun a h => ⟨traced_is a, rfl⟩)

noncomputable def right (l : List Icept) (t : List Trace) (now : Int) (hd : Head) : Pg Bool :=
  .br (fewP l)
    (.br (rcheckP l == 0)
      (.br (tracedP t) (.br (shortP hd) (.br (decide (0 ≤ now)) (.ret (decide (now ≤ 1099511627776))) (.ret false)) (.ret false)) (.ret false))
      (.ret false))
    (.ret false)
noncomputable def rightP (l : List Icept) (t : List Trace) (now : Int) (hd : Head) : Bool := (right l t now hd).val

theorem right_is (l : List Icept) (t : List Trace) (now : Int) (hd : Head) : Is (right l t now hd) :=
  is_br (fun _ => is_beq (fun _ => is_br (fun _ => is_br (fun _ => is_brd (fun _ => is_ret) (fun _ => is_ret)) (fun _ => is_ret)) (fun _ => is_ret)) (fun _ => is_ret)) (fun _ => is_ret)
noncomputable def e_right : Ent Z := entN Z [e_few, e_rcheck, e_traced, e_short] [] (args (aCons (aLf cd_LIcept) (aCons (aLf cd_LTrace) (aCons (aLf (cInt .i64)) (a1 (aAgg cd_Head)))))) (argsI (n := 32) rfl) (shr [.slot 0 false [none]] (l1 cBool)) [] Tryz.func7 Tryz.ntmps7 (by kernel_rfl) 1 rfl (fun a => right (a.1) (a.2.1) (a.2.2.1) (a.2.2.2)) (fun a => none) (fun a e _ => by kernel_rfl) (fun a => rightP (a.1) (a.2.1) (a.2.2.1) (a.2.2.2)) (fun a h => ⟨right_is (a.1) (a.2.1) (a.2.2.1) (a.2.2.2), rfl⟩)

def findD {A R : Type} (p : A → Bool) (g : A → R) (z : R) : List A → R
  | [] => z
  | a :: l => bif p a then g a else findD p g z l
theorem forE_find {A R : Type} (p : A → Bool) (g : A → R) (z : R) : ∀ (l : List A) (k : Nat), forE (fun (_ : Nat) (a : A) (_ : Unit) => bif p a then (Sum.inr (g a) : Unit ⊕ R) else .inl ()) (fun _ _ => z) l k () = findD p g z l
  | [], _ => rfl
  | a :: l, k => by
    unfold forE findD
    cases p a with
    | true => rfl
    | false => exact forE_find p g z l (k + 1)
theorem findD_mid {A R : Type} (p : A → Bool) (g : A → R) (z : R) (a : A) (v : List A) (h : p a = true) : ∀ u : List A, (∀ x ∈ u, p x = false) → findD p g z (u ++ a :: v) = g a
  | [], _ => by simp [findD, h]
  | x :: u, hu => by
    simp only [List.cons_append, findD, hu x (by simp), cond_false]
    exact findD_mid p g z a v h u (fun y hy => hu y (by simp [hy]))
theorem findD_no {A R : Type} (p : A → Bool) (g : A → R) (z : R) : ∀ u : List A, (∀ x ∈ u, p x = false) → findD p g z u = z
  | [], _ => rfl
  | x :: u, hu => by
    simp only [findD, hu x (by simp), cond_false]
    exact findD_no p g z u (fun y hy => hu y (by simp [hy]))
theorem findD_ix {A R : Type} (p : A → Bool) (g : A → R) (z : R) (d : A) (l : List A) : findD p g z l = bif decide (0 ≤ ixOf p l) then g (l.getD (ixOf p l).toNat d) else z := by
  rcases ixOf_spec p l with ⟨h0, h⟩ | ⟨u, a, v, h1, h2, h3, h4⟩
  · rw [findD_no p g z l h, h0]; rfl
  · have hd : decide ((0 : Int) ≤ u.length) = true := decide_eq_true (by omega)
    rw [h4, hd, cond_true, Int.toNat_natCast, h1, getD_mid, findD_mid p g z a v h2 u h3]
theorem rrecent_eq (t : List Trace) (path : Str) (than : Int) : rrecentP t path than = recentP t path than := by
  unfold rrecentP rrecent recentP recent
  simp only [val_each, val_ix, val_br, val_eachG, val_ret, val_lt, val_as]
  have e : ∀ (l : List Int) (k : Nat) (y : Int), forE (fun (_ : Nat) (a : Int) (y : Int) => bif decide (than < a) then (Sum.inl (wrp .i64 (y + 1)) : Int ⊕ (Unit ⊕ Int)) else .inl y) (fun _ y => .inr y) l k y = .inr (forE (fun (_ : Nat) (a : Int) (y : Int) => bif decide (than < a) then (Sum.inl (wrp .i64 (y + 1)) : Int ⊕ Int) else .inl y) (fun _ y => y) l k y) := by
    intro l
    induction l with
    | nil => intro k y; rfl
    | cons a l ih =>
      intro k y
      unfold forE
      cases decide (than < a) <;> exact ih (k + 1) _
  simp only [e]
  rw [forE_find (fun (x : Trace) => x.Method == path) (fun x => forE (fun (_ : Nat) (a : Int) (y : Int) => bif decide (than < a) then (Sum.inl (wrp .i64 (y + 1)) : Int ⊕ Int) else .inl y) (fun _ y => y) x.Times 0 0) 0 t 0, findD_ix _ _ _ d_Trace]
theorem rpath_eq (s m : Str) : rpathP s m = pathP s m := rfl
theorem rearlier_eq (a b : Int) : rearlierP a b = earlierP a b := by
  unfold rearlierP rearlier earlierP earlier
  simp only [val_br, val_ret, val_cut, val_lt, Bool.cond_eq_ite, decide_eq_true_eq]
  (repeat' split) <;> first | rfl | omega
theorem rafter_eq (a b : Int) : rafterP a b = afterP a b := by
  have w : ∀ x y : Int, 0 ≤ x → x ≤ 1099511627776 → 0 ≤ y → y ≤ 1099511627776 → wrp .i64 (x + y) = x + y := fun x y _ _ _ _ => wrp_in (k := .i64) (by simp only [InR]; omega)
  unfold rafterP rafter afterP after rboundP rbound
  simp only [val_br, val_ret, val_cut, val_lt, Bool.cond_eq_ite, decide_eq_true_eq]
  rw [w (min (max a 0) 1099511627776) (min (max b 0) 1099511627776) (by omega) (by omega) (by omega) (by omega)]
  (repeat' split) <;> first | omega | (rw [w _ _ (by omega) (by omega) (by omega) (by omega)] at *; omega)
def okT2 (t : List Trace) : Prop := t.length ≤ 1001 ∧ ∀ x ∈ t, x.Times.length ≤ 1001
theorem okT_2 {t : List Trace} (h : okT t) : okT2 t := ⟨Nat.le_succ_of_le h.1, fun x hx => Nat.le_succ_of_le (h.2 x hx)⟩
theorem nextT_ok (t : List Trace) (path : Str) (now : Int) (h : okT t) : okT2 (nextT t path now) := by
  obtain ⟨k1, k2⟩ := midT_ok t path h
  obtain ⟨u, a, v, e1, _, _, e4⟩ := midT_spec t path now
  rw [e4]
  rw [e1] at k1 k2
  refine ⟨by simpa using k1, fun x hx => ?_⟩
  rcases List.mem_append.1 hx with hx | hx
  · have := k2 x (by simp [hx]); omega
  · rcases List.mem_cons.1 hx with rfl | hx
    · have := k2 a (by simp); simp; omega
    · have := k2 x (by simp [hx]); omega
theorem rkept_in {R : Type} (than : Int) : ∀ (ts : List Int) (k : Nat) (m : Str) (u : List Int), forE (fun (_ : Nat) (a5 : Int) (y4 : Trace) => bif decide (than < a5) then (Sum.inl (Trace.mk y4.Method (y4.Times ++ [a5])) : Trace ⊕ (Trace ⊕ R)) else Sum.inl y4) (fun _ y4 => Sum.inl y4) ts k ⟨m, u⟩ = .inl ⟨m, u ++ ts.filter fun y => !decide (y ≤ than)⟩
  | [], _, m, u => by simp [forE]
  | a :: ts, k, m, u => by
    unfold forE
    rw [List.filter_cons]
    by_cases h : than < a
    · have h2 : ¬ a ≤ than := by omega
      simp only [decide_eq_true h, decide_eq_false h2, cond_true, Bool.not_false, if_true]
      have := rkept_in (R := R) than ts (k + 1) m (u ++ [a])
      simp only [List.append_assoc, List.singleton_append] at this
      exact this
    · have h2 : a ≤ than := by omega
      simp only [decide_eq_false h, decide_eq_true h2, cond_false, Bool.not_true, if_false, Bool.false_eq_true]
      exact rkept_in than ts (k + 1) m u
theorem keepT_fold (than : Int) : ∀ (t u : List Trace), t.foldl (fun y a => bif decide ((0 : Int) < (fltT than a).Times.length) then y ++ [fltT than a] else y) u = u ++ keepT than t
  | [], u => by simp [keepT]
  | a :: t, u => by
    have ih := keepT_fold than t
    unfold keepT at ih ⊢
    rw [List.foldl_cons, List.map_cons, List.filter_cons, ih]
    cases hh : (fltT than a).Times with
    | nil => simp
    | cons x l => simp
theorem rkept_eq (t : List Trace) (than : Int) : (rkept t than).val = keepT than t := by
  unfold rkept
  simp only [val_each, val_ix, val_br, val_eachG, val_ret, val_cut, val_ob]
  simp only [rkept_in, List.nil_append, thenS_inl]
  rw [forE_cong (b' := fun _ a y => .inl (bif decide ((0 : Int) < (fltT than a).Times.length) then y ++ [fltT than a] else y)) (f' := fun _ y => y) t 0 [] (fun j a y _ _ => by show cond (decide ((0 : Int) < (fltT than a).Times.length)) _ _ = _; cases decide ((0 : Int) < (fltT than a).Times.length) <;> rfl) (fun _ => rfl), forE_fold, keepT_fold]
  rfl
def ntR (has : Bool) (path : Str) (now : Int) (y : List Trace × Bool) (a : Trace) : List Trace × Bool :=
  bif !y.2 && has && eqM path a then (y.1 ++ [⟨a.Method, a.Times ++ [now]⟩], true) else bif !y.2 && !has && gtM path a then (y.1 ++ [⟨path, [now]⟩] ++ [a], true) else (y.1 ++ [a], y.2)
theorem ntR_done (has : Bool) (path : Str) (now : Int) : ∀ (l u : List Trace), l.foldl (ntR has path now) (u, true) = (u ++ l, true)
  | [], u => by simp
  | a :: l, u => by
    simp only [List.foldl_cons]
    have : ntR has path now (u, true) a = (u ++ [a], true) := by unfold ntR; rfl
    rw [this, ntR_done has path now l]
    simp
theorem ntR_has (path : Str) (now : Int) : ∀ (l u : List Trace), l.foldl (ntR true path now) (u, false) = (u ++ addT path now l, l.any (eqM path))
  | [], u => by simp [addT]
  | a :: l, u => by
    simp only [List.foldl_cons, List.any_cons, addT]
    cases h : eqM path a with
    | true =>
      have : ntR true path now (u, false) a = (u ++ [⟨a.Method, a.Times ++ [now]⟩], true) := by unfold ntR; rw [h]; rfl
      rw [this, ntR_done]
      simp
    | false =>
      have : ntR true path now (u, false) a = (u ++ [a], false) := by unfold ntR; rw [h]; rfl
      rw [this, ntR_has path now l]
      simp
theorem ntR_no (path : Str) (now : Int) : ∀ (l u : List Trace), (bif !(l.foldl (ntR false path now) (u, false)).2 then (l.foldl (ntR false path now) (u, false)).1 ++ [Trace.mk path [now]] else (l.foldl (ntR false path now) (u, false)).1) = u ++ insT' path [now] l
  | [], u => by simp [insT']
  | a :: l, u => by
    simp only [List.foldl_cons, insT']
    cases h : gtM path a with
    | true =>
      have : ntR false path now (u, false) a = (u ++ [⟨path, [now]⟩] ++ [a], true) := by unfold ntR; rw [h]; rfl
      rw [this, ntR_done]
      simp
    | false =>
      have : ntR false path now (u, false) a = (u ++ [a], false) := by unfold ntR; rw [h]; rfl
      rw [this, ntR_no path now l]
      simp
theorem ntR_len (has : Bool) (path : Str) (now : Int) (y : List Trace × Bool) (a : Trace) : (ntR has path now y a).1.length ≤ y.1.length + 2 := by
  unfold ntR
  cases !y.2 && has && eqM path a <;> cases !y.2 && !has && gtM path a <;> simp
theorem any_fold {R : Type} (path : Str) : ∀ (l : List Trace) (k : Nat) (b : Bool), forE (fun (_ : Nat) (a3 : Trace) (y2 : Bool) => bif a3.Method == path then (Sum.inl true : Bool ⊕ (Bool ⊕ R)) else .inl y2) (fun _ y2 => .inl y2) l k b = .inl (b || l.any (eqM path))
  | [], _, b => by simp [forE]
  | a :: l, k, b => by
    unfold forE
    rw [List.any_cons]
    have h0 : eqM path a = (a.Method == path) := rfl
    rw [h0]
    cases a.Method == path with
    | true => simp only [cond_true]; rw [any_fold path l (k + 1) true]; simp
    | false => simp only [cond_false]; rw [any_fold path l (k + 1) b]; simp
theorem rnoted_round (has : Bool) (path : Str) (now : Int) (y : List Trace × Bool) (a : Trace) : thenS (bif !y.2 then bif has then bif a.Method == path then (Sum.inl (true, Trace.mk a.Method (a.Times ++ [now])) : (Bool × Trace) ⊕ ((List Trace × Bool) ⊕ ((List Trace × Bool) ⊕ List Trace))) else .inl (y.2, a) else .inl (y.2, a) else .inl (y.2, a))
    (fun y7 => bif !y7.1 then bif !has then bif !(Op.bytesLess y7.2.Method path || y7.2.Method == path) then (Sum.inl (y.1 ++ [Trace.mk path [now]] ++ [y7.2], true) : (List Trace × Bool) ⊕ ((List Trace × Bool) ⊕ List Trace)) else .inl (y.1 ++ [y7.2], y7.1) else .inl (y.1 ++ [y7.2], y7.1) else .inl (y.1 ++ [y7.2], y7.1)) = .inl (ntR has path now y a) := by
  obtain ⟨u, d⟩ := y
  unfold ntR eqM gtM gtS
  cases d <;> cases has <;> cases hK : a.Method == path <;> simp only [thenS_inl, cond_true, cond_false, Bool.not_true, Bool.not_false, hK] <;> cases Op.bytesLess a.Method path <;> rfl
theorem rnoted_eq (t : List Trace) (path : Str) (now : Int) : (rnoted t path now).val = nextT t path now := by
  unfold rnoted
  simp only [val_each, val_ix, val_br, val_ret, val_cut, val_ob, val_lt]
  rw [any_fold]
  simp only [thenS_inl, Bool.false_or, rnoted_round]
  rw [forE_fold (fun y a => ntR (t.any (eqM path)) path now y a) (fun _ y => Sum.inl y)]
  simp only [thenS_inl]
  unfold nextT
  cases hh : t.any (eqM path) with
  | true =>
    have := ntR_has path now t []
    rw [hh] at this
    rw [this]
    rfl
  | false => exact ntR_no path now t []

theorem rkept_is (t : List Trace) (than : Int) (h : okT2 t) : Is (rkept t than) :=
  by
  obtain ⟨h1, h2⟩ := h
  refine is_eachI (fun k y => y.length ≤ k) (Nat.le_refl _) (.inl rfl) (fun i1 y2 hlt _ hI => ?_) (fun y2 _ _ => is_ret)
  have hI : y2.length ≤ i1 := hI
  have hm := h2 _ (getD_mem (d := d_Trace) hlt)
  refine ⟨is_ix (by omega) (by omega) (is_cut (is_eachGI (fun k y => y.Times.length ≤ k) (Nat.le_refl _) ⟨by omega, trivial⟩ (.inl rfl) (fun i3 y4 hlt3 _ hI3 => ?_) (fun y4 _ _ => is_ret)) (fun y6 hy6 => is_brd (fun _ => is_ob (room_of (by omega) (by omega)) is_ret) (fun _ => is_ret))), fun y' hy' => ?_⟩
  · have hI3 : y4.Times.length ≤ i3 := hI3
    refine ⟨is_ix (by omega) (by omega) (is_ix (by omega) (by omega) (is_brd (fun _ => is_ix (by omega) (by omega) (is_ix (by omega) (by omega) (is_ob (room_of (by omega) (by omega)) is_ret))) (fun _ => is_ret))), fun y' hy' => ?_⟩
    show y'.Times.length ≤ i3 + 1
    revert hy'
    simp only [val_ix, val_br, val_ob, val_ret]
    cases decide (than < _) <;> intro e <;> cases e <;> (try simp only [List.length_append, List.length_singleton]) <;> omega
  · show y'.length ≤ i1 + 1
    revert hy'
    simp only [val_each, val_ix, val_br, val_eachG, val_ret, val_cut, val_ob, rkept_in, List.nil_append, thenS_inl]
    generalize decide ((0 : Int) < _) = q
    cases q <;> intro e <;> cases e <;> (try simp only [List.length_append, List.length_singleton]) <;> omega
noncomputable def e_rkept : Ent Z := entN Z [] [jS 3 (shp (fun sl => [.slot 6 false [none], .slot 5 false [some 82]]) (lCons (cInt .i64) (l1 cd_LTrace))), jS 7 (shp (fun sl => [.slot 8 false [none], .cells (pid (sl 7)) [none, some 3]]) (lCons (cInt .i64) (l1 cd_Trace))), jS 100011 (shp (fun sl => [.cells (pid (sl 7)) [none, none]]) (l1 cd_Trace))] (args (aCons (aLf cd_LTrace) (a1 (aLf (cInt .i64))))) (argsI (n := 63) rfl) (shr [.slot 0 false [none]] (l1 cd_LTrace)) [] Tryz.func40 Tryz.ntmps40 (by kernel_rfl) 1 rfl (fun a => rkept (a.1) (a.2)) (fun a => some (okT2 (a.1))) (fun a e _ => by kernel_rfl) (fun a => keepT (a.2) (a.1)) (fun a h => ⟨rkept_is (a.1) (a.2) h, (fun t than _ => rkept_eq t than) (a.1) (a.2) h⟩)

theorem rnoted_is (t : List Trace) (path : Str) (now : Int) (h : okT t) : Is (rnoted t path now) :=
  by
  obtain ⟨h1, h2⟩ := h
  refine is_cut (is_each (.inl rfl) (fun i1 y2 _ _ => is_ix (by omega) (by omega) (is_br (fun _ => is_ret) (fun _ => is_ret))) (fun y2 _ => is_ret)) (fun y4 hy4 => is_cut (is_eachI (fun k y => y.1.length ≤ 2 * k) (Nat.le_refl _) (.inl rfl) (fun i5 y6 hlt _ hI => ?_) (fun y6 _ _ => is_ret)) (fun y9 hy9 => ?_))
  · have hI : y6.1.length ≤ 2 * i5 := hI
    have hm := h2 _ (getD_mem (d := d_Trace) hlt)
    refine ⟨is_ix (by omega) (by omega) (is_cut (is_br (fun _ => is_br (fun _ => is_br (fun _ => is_ob (room_of (by omega) (by omega)) (is_ob (room_of (by omega) (by omega)) is_ret)) (fun _ => is_ret)) (fun _ => is_ret)) (fun _ => is_ret)) (fun y7 hy7 => is_lt fun v10 hv10 => is_br (fun _ => is_br (fun _ => is_br (fun _ => is_ob (room_of (by omega) (by omega)) (is_lt fun v11 hv11 => is_ob (by subst hv11; exact room_of (by simp; omega) (by simp; omega)) is_ret)) (fun _ => is_ob (room_of (by omega) (by omega)) is_ret)) (fun _ => is_ob (room_of (by omega) (by omega)) is_ret)) (fun _ => is_ob (room_of (by omega) (by omega)) is_ret))), fun y' hy' => ?_⟩
    simp only [val_ob, val_lt, val_br, val_cut, val_ix, val_ret, rnoted_round] at hy'
    injection hy' with hy'
    subst hy'
    have := ntR_len y4 path now y6 (t.getD i5 d_Trace)
    show _ ≤ 2 * (i5 + 1)
    omega
  · have hl : y9.1.length ≤ 2 * t.length := by
      simp only [val_ob, val_lt, val_br, val_cut, val_ix, val_ret, val_each, rnoted_round] at hy9
      rw [forE_fold (fun y a => ntR y4 path now y a) (fun _ y => Sum.inl y)] at hy9
      injection hy9 with hy9
      subst hy9
      have : ∀ (l : List Trace) (y : List Trace × Bool), (l.foldl (ntR y4 path now) y).1.length ≤ y.1.length + 2 * l.length := by
        intro l
        induction l with
        | nil => intro y; simp
        | cons a l ih =>
          intro y
          have k1 := ih (ntR y4 path now y a)
          have k2 := ntR_len y4 path now y a
          simp only [List.foldl_cons, List.length_cons]
          omega
      have := this t ([], false)
      simpa using this
    exact is_br (fun _ => is_ob (room_of (by omega) (by omega)) is_ret) (fun _ => is_ret)
noncomputable def e_rnoted : Ent Z := entN Z [] [jS 3 (shp (fun sl => [.slot 8 false [none], .slot 7 false [none]]) (lCons (cInt .i64) (l1 cBool))), jS 10 (shp (fun sl => [.slot 11 false [none], .slot 9 false [some 82], .slot 10 false [none]]) (lCons (cInt .i64) (lCons cd_LTrace (l1 cBool)))), jS 100007 (shp (fun sl => [.slot 7 false [none]]) (l1 cBool)), jS 100018 (shp (fun sl => [.slot 10 false [none], .cells (pid (sl 12)) [none, none]]) (lCons cBool (l1 cd_Trace))), jS 100022 (shp (fun sl => [.slot 9 false [some 82], .slot 10 false [none]]) (lCons cd_LTrace (l1 cBool)))] (args (aCons (aLf cd_LTrace) (aCons (aLf cStr) (a1 (aLf (cInt .i64)))))) (argsI (n := 90) rfl) (shr [.slot 0 false [none]] (l1 cd_LTrace)) [] Tryz.func41 Tryz.ntmps41 (by kernel_rfl) 1 rfl (fun a => rnoted (a.1) (a.2.1) (a.2.2)) (fun a => some (okT (a.1))) (fun a e _ => by kernel_rfl) (fun a => nextT (a.1) (a.2.1) (a.2.2)) (fun a h => ⟨rnoted_is (a.1) (a.2.1) (a.2.2) h, (fun t path now _ => rnoted_eq t path now) (a.1) (a.2.1) (a.2.2) h⟩)

noncomputable def rbefore (l : List Icept) (t : List Trace) (now : Int) (hd : Head) : Pg (Head × List Trace × Status) :=
  .cut
    (fun (y4 : Int × Head) =>
      .cut
        (fun (y5 : Unit) =>
          .br (decide (0 < y4.fst))
            (.ob (List.length y4.snd.Service + List.length y4.snd.Method ≤ 1000000)
              (.ob (okT t)
                (.lt (nextT t (rpathP y4.snd.Service y4.snd.Method) now) fun (v6 : List Trace) =>
                  .ob (okT2 v6) (.ret (y4.snd, keepT (wrp .i64 (now - y4.fst)) v6, Status.mk 0 [])))))
            (.ret (y4.snd, t, Status.mk 0 [])))
        (.br (decide (1 ≤ y4.snd.Deadline)) (.br (decide (y4.snd.Deadline ≤ now)) (.ret (.inr (hd, t, rstOfP 23))) (.ret (.inl ())))
          (.ret (.inl ()))))
    (.each true ixP l d_Icept
      (fun (i1 : Int) (a3 : Icept) (y2 : Int × Head) =>
        .ix i1 l.length
          (.br (a3.Kind == 1)
            (.ix i1 l.length
              (.lt (rmetaP y2.snd a3.Key) fun (v7 : Str × Bool) =>
                .lt (rstOfP 21) fun (v8 : Status) =>
                  .br (!v7.snd) (.ret (.inr (.inr (hd, t, v8))))
                    (.ix i1 l.length (.br (v7.fst != a3.Val) (.ret (.inr (.inr (hd, t, v8)))) (.ret (.inl y2))))))
            (.br (a3.Kind == 3)
              (.ob (List.length y2.snd.Service + List.length y2.snd.Method ≤ 1000000)
                (.ix i1 l.length
                  (.ix i1 l.length
                    (.lt (rrecentP t (rpathP y2.snd.Service y2.snd.Method) (wrp .i64 (now - a3.Span))) fun (v9 : Int) =>
                      .br (decide (a3.Num ≤ v9)) (.ix i1 l.length (.ret (.inr (.inr (hd, t, rstOfP 22)))))
                        (.ix i1 l.length (.ret (.inl (max y2.fst a3.Span, y2.snd))))))))
              (.br (a3.Kind == 4)
                (.ix i1 l.length
                  (.ix i1 l.length
                    (.ob (y2.snd.Metas.length ≤ 1000)
                      (.lt (stampV y2.snd a3.Key a3.Val) fun (v10 : Head × Int) =>
                        .br (v10.snd != 0) (.ret (.inr (.inr (hd, t, rstOfP v10.snd)))) (.ret (.inl (y2.fst, v10.fst)))))))
                (.br (a3.Kind == 5)
                  (.ix i1 l.length (.ret (.inl (y2.fst, Head.mk y2.snd.Service y2.snd.Method (rearlierP y2.snd.Deadline (rafterP now a3.Num)) y2.snd.Metas))))
                  (.ret (.inl y2)))))))
      (fun (i1 : Int) (y2 : Int × Head) => .ret (.inl y2)) (0, hd))
noncomputable def rbeforeP (l : List Icept) (t : List Trace) (now : Int) (hd : Head) : Head × (List Trace) × Status := (rbefore l t now hd).val
end Go.Proofs.YtemjcccdcnhmhaaGreatDoor
