/-
  Intercept: keys, entries, checks.
-/
import Derived.Test.YtemjcccdcnhmhaaGreatDoorV
namespace Go.Proofs.YtemjcccdcnhmhaaGreatDoor
open Go.RowKit Go.Vc
set_option linter.unusedVariables false
set_option linter.unusedSimpArgs false
set_option maxRecDepth 100000

theorem keyB_toNat (c : UInt8) : keyB c = ((decide (97 ≤ c.toNat) && decide (c.toNat ≤ 122)) || (decide (48 ≤ c.toNat) && decide (c.toNat ≤ 57)) || decide (c.toNat = 45)) := by
  unfold keyB
  have e : (c == 45) = decide (c.toNat = 45) := by
    rw [Bool.eq_iff_iff, beq_iff_eq, decide_eq_true_eq]
    exact ⟨fun h => by rw [h]; rfl, fun h => UInt8.toNat_inj.1 h⟩
  rw [e]
  rfl
theorem rkey_val (s : Str) : rkeyP s = (decide (1 ≤ s.length) && (decide (s.length ≤ 40) && s.all keyB)) := by
  unfold rkeyP rkey
  simp only [val_br, val_each, val_ix, val_ret]
  have hf : ∀ (l : Str) (k : Nat), forE (fun (_ : Nat) (a : UInt8) (_ : Unit) => bif decide ((a.toNat : Int) < 97) then bif decide ((a.toNat : Int) < 48) then bif (a.toNat : Int) != 45 then (Sum.inr false : Unit ⊕ Bool) else .inl ()
          else bif decide (57 < (a.toNat : Int)) then bif (a.toNat : Int) != 45 then .inr false else .inl () else .inl ()
        else bif decide (122 < (a.toNat : Int)) then bif decide ((a.toNat : Int) < 48) then bif (a.toNat : Int) != 45 then .inr false else .inl ()
          else bif decide (57 < (a.toNat : Int)) then bif (a.toNat : Int) != 45 then .inr false else .inl () else .inl () else .inl ()) (fun _ _ => true) l k () = l.all keyB := by
    intro l k
    rw [← forE_all keyB l k]
    congr 1
    funext _ a _
    rw [keyB_toNat]
    have h45 : ((a.toNat : Int) != 45) = !decide (a.toNat = 45) := by
      rw [Bool.eq_iff_iff]; simp only [bne_iff_ne, Bool.not_eq_true', decide_eq_false_iff_not]; omega
    have h97 : decide ((a.toNat : Int) < 97) = !decide (97 ≤ a.toNat) := by rw [Bool.eq_iff_iff]; simp only [decide_eq_true_eq, Bool.not_eq_true', decide_eq_false_iff_not]; omega
    have h48 : decide ((a.toNat : Int) < 48) = !decide (48 ≤ a.toNat) := by rw [Bool.eq_iff_iff]; simp only [decide_eq_true_eq, Bool.not_eq_true', decide_eq_false_iff_not]; omega
    have h57 : decide (57 < (a.toNat : Int)) = !decide (a.toNat ≤ 57) := by rw [Bool.eq_iff_iff]; simp only [decide_eq_true_eq, Bool.not_eq_true', decide_eq_false_iff_not]; omega
    have h122 : decide (122 < (a.toNat : Int)) = !decide (a.toNat ≤ 122) := by rw [Bool.eq_iff_iff]; simp only [decide_eq_true_eq, Bool.not_eq_true', decide_eq_false_iff_not]; omega
    rw [h45, h97, h48, h57, h122]
    have k1 : decide (97 ≤ a.toNat) = true → decide (48 ≤ a.toNat) = true := by simp only [decide_eq_true_eq]; omega
    have k2 : decide (97 ≤ a.toNat) = true → decide (a.toNat ≤ 57) = false := by simp only [decide_eq_true_eq, decide_eq_false_iff_not]; omega
    cases h1 : decide (97 ≤ a.toNat) with
    | true =>
      rw [k1 h1, k2 h1]
      cases decide (a.toNat ≤ 122) <;> cases decide (a.toNat = 45) <;> rfl
    | false => cases decide (48 ≤ a.toNat) <;> cases decide (a.toNat ≤ 57) <;> cases decide (a.toNat = 45) <;> cases decide (a.toNat ≤ 122) <;> rfl
  rw [hf]
  have e1 : decide ((s.length : Int) < 1) = !decide (1 ≤ s.length) := by rw [Bool.eq_iff_iff]; simp only [decide_eq_true_eq, Bool.not_eq_true', decide_eq_false_iff_not]; omega
  have e2 : decide (40 < (s.length : Int)) = !decide (s.length ≤ 40) := by rw [Bool.eq_iff_iff]; simp only [decide_eq_true_eq, Bool.not_eq_true', decide_eq_false_iff_not]; omega
  rw [e1, e2]
  cases decide (1 ≤ s.length) <;> cases decide (s.length ≤ 40) <;> rfl

noncomputable def isKey (s : Str) : Pg Bool :=
  .br (s != [])
    (.br (decide ((↑(List.length s) : Int) ≤ 40))
      (.ob
        ([97, 98, 99, 100, 101, 102, 103, 104, 105, 106, 107,
              108, 109, 110, 111, 112, 113, 114, 115, 116, 117, 118,
              119, 120, 121, 122, 48, 49, 50, 51, 52, 53, 54,
              55, 56, 57, 45] =
            csK ∧
          List.length s ≤ 9223372036854775807)
        (.ret (List.dropWhile keyB (List.dropWhile keyB (List.reverse s)).reverse == [])))
      (.ret false))
    (.ret false)
noncomputable def isKeyP (s : Str) : Bool := (isKey s).val

theorem isKey_eq (s : Str) (h : s.length ≤ 9223372036854775807) : (isKey s).val = rkeyP s := by
  unfold isKey
  rw [rkey_val]
  simp only [val_br, val_ob, val_as, val_ret]
  cases s with
  | nil => rfl
  | cons c s =>
    have h0 : ((c :: s) != []) = true := rfl
    have h1 : decide (1 ≤ (c :: s).length) = true := by simp
    have e2 : decide (((c :: s).length : Int) ≤ 40) = decide ((c :: s).length ≤ 40) := by rw [Bool.eq_iff_iff]; simp only [decide_eq_true_eq]; omega
    have e3 : ((List.dropWhile keyB (List.dropWhile keyB (List.reverse (c :: s))).reverse) == []) = (c :: s).all keyB := by
      rw [Bool.eq_iff_iff, beq_iff_eq]
      exact strim_nil (c :: s)
    simp only [h0, h1, e2, e3, cond_true, Bool.true_and]
    cases decide ((c :: s).length ≤ 40) <;> rfl

theorem isKey_is (s : Str) (h : s.length ≤ 9223372036854775700) : Is (isKey s) :=
  is_br (fun _ => is_brd (fun _ => is_ob ((⟨rfl, by omega⟩)) (is_ret)) (fun _ => is_ret)) (fun _ => is_ret)
noncomputable def e_isKey : Ent Z := entN Z [e_strim] [] (args (a1 (aLf cStr))) (argsI (n := 15) rfl) (shr [.slot 0 false [none]] (l1 cBool)) [] Tryz.func95 Tryz.ntmps95 (by kernel_rfl) 1 rfl (fun a => isKey a) (fun a => some (a.length ≤ 9223372036854775700)) (fun a e _ => by kernel_rfl) (fun a => rkeyP a) (fun a h => ⟨isKey_is a h, (fun (s : Str) (h : s.length ≤ 9223372036854775700) => isKey_eq s (by omega)) a h⟩)

noncomputable def rentry (key : Str) (val : Str) : Pg Int :=
  .br (!rkeyP key) (.ret 8)
    (.br (decide (200 < (↑(List.length val) : Int))) (.ret 3)
      (.ob (List.length val ≤ 9223372036854775700) (.br (!rvalidP val) (.ret 7) (.ret 0))))
noncomputable def rentryP (key : Str) (val : Str) : Int := (rentry key val).val

theorem rentry_is (key : Str) (val : Str) : Is (rentry key val) :=
  is_br (fun _ => is_ret) (fun _ => is_brd (fun _ => is_ret) (fun _ => is_ob (by (try subst_vars); (try simp only [List.length_append, List.length_cons, List.length_nil]); omega) (is_br (fun _ => is_ret) (fun _ => is_ret))))
noncomputable def e_rentry : Ent Z := entN Z [e_rkey, e_rvalid] [] (args (aCons (aLf cStr) (a1 (aLf cStr)))) (argsI (n := 17) rfl) (shr [.slot 0 false [none]] (l1 (cInt .i64))) [] Tryz.func55 Tryz.ntmps55 (by kernel_rfl) 1 rfl (fun a => rentry (a.1) (a.2)) (fun a => none) (fun a e _ => by kernel_rfl) (fun a => rentryP (a.1) (a.2)) (fun a h => ⟨rentry_is (a.1) (a.2), rfl⟩)

noncomputable def entry (key : Str) (val : Str) : Pg Int :=
  .ob (List.length key ≤ 9223372036854775700)
    (.br (!rkeyP key) (.ret 8)
      (.br (decide (200 < (↑(List.length val) : Int))) (.ret 3)
        (.ob (List.length val ≤ 9223372036854775700) (.br (!uvalidP val) (.ret 7) (.ret 0)))))
noncomputable def entryP (key : Str) (val : Str) : Int := (entry key val).val

theorem entry_is (key : Str) (val : Str) (h : key.length ≤ 9223372036854775700) : Is (entry key val) :=
  is_ob (by (try subst_vars); (try simp only [List.length_append, List.length_cons, List.length_nil]); omega) (is_br (fun _ => is_ret) (fun _ => is_brd (fun _ => is_ret) (fun _ => is_ob (by (try subst_vars); (try simp only [List.length_append, List.length_cons, List.length_nil]); omega) (is_br (fun _ => is_ret) (fun _ => is_ret)))))
noncomputable def e_entry : Ent Z := entN Z [e_isKey, e_uvalid] [] (args (aCons (aLf cStr) (a1 (aLf cStr)))) (argsI (n := 17) rfl) (shr [.slot 0 false [none]] (l1 (cInt .i64))) [] Tryz.func56 Tryz.ntmps56 (by kernel_rfl) 1 rfl (fun a => entry (a.1) (a.2)) (fun a => some ((a.1).length ≤ 9223372036854775700)) (fun a e _ => by kernel_rfl) (fun a => rentryP (a.1) (a.2)) (fun a h => ⟨entry_is (a.1) (a.2) h, rfl⟩)

theorem formed_eq (x : Icept) : formedP x = rfieldsP x := by
  unfold formedP formed rfieldsP rfields bareP bare withinP within actionP action
  simp only [val_lt, val_br, val_ob, val_ret, val_cut]
  have d : ∀ i j : Int, i ≠ j → x.Kind = i → (x.Kind == j) = false := fun i j h e => by rw [beq_eq_false_iff_ne, e]; exact h
  have s : ∀ i : Int, x.Kind = i → (x.Kind == i) = true := fun i e => by rw [e]; exact beq_self_eq_true i
  by_cases k1 : x.Kind = 1
  · simp only [s 1 k1, cond_true]
    cases x.Key == [] <;> rfl
  by_cases k2 : x.Kind = 2
  · simp only [d 2 1 (by decide) k2, d 2 3 (by decide) k2, d 2 4 (by decide) k2, d 2 5 (by decide) k2, d 2 6 (by decide) k2, s 2 k2, cond_true, cond_false]
    cases x.Key == [] <;> cases x.Val == [] <;> cases x.Span == 0 <;> cases decide (0 ≤ x.Num) <;> cases decide (x.Num ≤ 65536) <;> rfl
  by_cases k3 : x.Kind = 3
  · simp only [d 3 1 (by decide) k3, d 3 2 (by decide) k3, d 3 4 (by decide) k3, d 3 5 (by decide) k3, d 3 6 (by decide) k3, s 3 k3, cond_true, cond_false]
    cases x.Key == [] <;> cases x.Val == [] <;> cases decide (1 ≤ x.Span) <;> cases decide (x.Span ≤ 1099511627776) <;> cases decide (1 ≤ x.Num) <;> cases decide (x.Num ≤ 1000) <;> rfl
  by_cases k4 : x.Kind = 4
  · simp only [d 4 1 (by decide) k4, d 4 2 (by decide) k4, d 4 3 (by decide) k4, d 4 5 (by decide) k4, d 4 6 (by decide) k4, s 4 k4, cond_true, cond_false]
    cases x.Key == [] <;> rfl
  by_cases k5 : x.Kind = 5
  · simp only [d 5 1 (by decide) k5, d 5 2 (by decide) k5, d 5 3 (by decide) k5, d 5 4 (by decide) k5, d 5 6 (by decide) k5, s 5 k5, cond_true, cond_false]
    cases x.Key == [] <;> cases x.Val == [] <;> cases x.Span == 0 <;> cases decide (1 ≤ x.Num) <;> cases decide (x.Num ≤ 1099511627776) <;> rfl
  by_cases k6 : x.Kind = 6
  · simp only [d 6 1 (by decide) k6, d 6 2 (by decide) k6, d 6 3 (by decide) k6, d 6 4 (by decide) k6, d 6 5 (by decide) k6, s 6 k6, cond_true, cond_false]
    cases x.Key == [] <;> cases x.Val == [] <;> cases x.Span == 0 <;> cases x.Num == 0 <;> rfl
  have n : ∀ i : Int, x.Kind ≠ i → (x.Kind == i) = false := fun i h => by rw [beq_eq_false_iff_ne]; exact h
  simp only [n 1 k1, n 2 k2, n 3 k3, n 4 k4, n 5 k5, n 6 k6, cond_false]
  cases x.Key == [] <;> rfl

noncomputable def check (l : List Icept) : Pg Int :=
  .br (decide (8 < (↑l.length : Int))) (.ret 3)
    (.as (l.length ≤ 9223372036854775807)
      (.each false ixI l d_Icept
        (fun (i1 : Int) (a3 : Icept) (y2 : Unit) =>
          .ix i1 l.length
            (.br (!formedP a3) (.ret (.inr 1))
              (.lt (rentryP a3.Key a3.Val) fun (v4 : Int) =>
                .br (a3.Kind == 1) (.ob (List.length a3.Key ≤ 9223372036854775700) (.br (v4 != 0) (.ret (.inr v4)) (.ret (.inl ()))))
                  (.br (a3.Kind == 4) (.ob (List.length a3.Key ≤ 9223372036854775700) (.br (v4 != 0) (.ret (.inr v4)) (.ret (.inl ()))))
                    (.ret (.inl ()))))))
        (fun (i1 : Int) (y2 : Unit) => .ret 0) ()))
noncomputable def checkP (l : List Icept) : Int := (check l).val

noncomputable def rcheck (l : List Icept) : Pg Int :=
  .br (decide (8 < (↑l.length : Int))) (.ret 3)
    (.each true ixI l d_Icept
      (fun (i1 : Int) (a3 : Icept) (y2 : Unit) =>
        .ix i1 l.length
          (.br (!rfieldsP a3) (.ret (.inr 1))
            (.ix i1 l.length
              (.lt (rentryP a3.Key a3.Val) fun (v4 : Int) =>
                .br (a3.Kind == 1) (.ix i1 l.length (.ix i1 l.length (.br (v4 != 0) (.ret (.inr v4)) (.ret (.inl ())))))
                  (.ix i1 l.length
                    (.br (a3.Kind == 4) (.ix i1 l.length (.ix i1 l.length (.br (v4 != 0) (.ret (.inr v4)) (.ret (.inl ())))))
                      (.ret (.inl ()))))))))
      (fun (i1 : Int) (y2 : Unit) => .ret 0) ())
noncomputable def rcheckP (l : List Icept) : Int := (rcheck l).val

theorem rcheck_is (l : List Icept) : Is (rcheck l) :=
  is_brd (fun _ => is_ret) (fun _ => is_each (.inl rfl) (fun i1 y2 _ _ => is_ix (by omega) (by omega) (is_br (fun _ => is_ret) (fun _ => is_ix (by omega) (by omega) (is_lt fun v4 hv4 => is_beq (fun _ => is_ix (by omega) (by omega) (is_ix (by omega) (by omega) (is_bne (fun _ => is_ret) (fun _ => is_ret)))) (fun _ => is_ix (by omega) (by omega) (is_beq (fun _ => is_ix (by omega) (by omega) (is_ix (by omega) (by omega) (is_bne (fun _ => is_ret) (fun _ => is_ret)))) (fun _ => is_ret))))))) (fun y2 _ => is_ret))
noncomputable def e_rcheck : Ent Z := entN Z [e_rfields, e_rentry] [jS 4 (shp (fun sl => [.slot 3 false [none]]) (l1 (cInt .i64)))] (args (a1 (aLf cd_LIcept))) (argsI (n := 48) rfl) (shr [.slot 0 false [none]] (l1 (cInt .i64))) [] Tryz.func22 Tryz.ntmps22 (by kernel_rfl) 1 rfl (fun a => rcheck a) (fun a => none) (fun a e _ => by kernel_rfl) (fun a => rcheckP a) (fun a h => ⟨rcheck_is a, rfl⟩)

def okIs (l : List Icept) : Prop := ∀ x ∈ l, x.Key.length ≤ 1000
theorem check_eq (l : List Icept) : (check l).val = rcheckP l := by
  unfold check rcheckP rcheck
  simp only [val_br, val_as, val_each, val_ix, val_lt, val_ob, val_ret, formed_eq]

theorem check_is (l : List Icept) (h : okIs l) : Is (check l) :=
  is_brd (fun _ => is_ret) (fun _ => is_as fun _ => is_each (.inr (by omega)) (fun i1 y2 _ _ => is_ix (by omega) (by omega) (is_br (fun _ => is_ret) (fun _ => is_lt fun v4 hv4 => is_beq (fun _ => is_ob (by have := h _ (getD_mem (d := d_Icept) (show i1 < l.length by omega)); omega) (is_bne (fun _ => is_ret) (fun _ => is_ret))) (fun _ => is_beq (fun _ => is_ob (by have := h _ (getD_mem (d := d_Icept) (show i1 < l.length by omega)); omega) (is_bne (fun _ => is_ret) (fun _ => is_ret))) (fun _ => is_ret))))) (fun y2 _ => is_ret))
noncomputable def e_check : Ent Z := entN Z [e_entry, e_formed] [jS 4 (shp (fun sl => [.slot 11 false [none]]) (l1 (cInt .i64)))] (args (a1 (aLf cd_LIcept))) (argsI (n := 35) rfl) (shr [.slot 0 false [none]] (l1 (cInt .i64))) [] Tryz.func28 Tryz.ntmps28 (by kernel_rfl) 1 rfl (fun a => check a) (fun a => some (okIs a)) (fun a e _ => by kernel_rfl) (fun a => rcheckP a) (fun a h => ⟨check_is a h, (fun l _ => check_eq l) a h⟩)

noncomputable def stamp (hd : Head) (key : Str) (val : Str) : Pg (Head × Int) :=
  .ob (List.length key ≤ 9223372036854775700)
    (.lt (rentryP key val) fun (v2 : Int) =>
      .br (v2 != 0) (.ret (hd, v2))
        (.ob (hd.Metas.length ≤ 1000000)
          (.cut
            (fun (y1 : List AMeta) => .br (decide (16 < (↑y1.length : Int))) (.ret (hd, 3)) (.ret (Head.mk hd.Service hd.Method hd.Deadline y1, 0)))
            (.lt (ixOf (fun (m : AMeta) => m.Key == key) hd.Metas) fun (v3 : Int) =>
              .br (decide (0 ≤ v3))
                (.ix v3 hd.Metas.length (.ob (v3.toNat < hd.Metas.length) (.ret (.inl (hd.Metas.set v3.toNat (AMeta.mk (hd.Metas.getD v3.toNat d_Meta).Key val))))))
                (.lt (ixOf (fun (m : AMeta) => gtS m.Key key) hd.Metas) fun (v4 : Int) =>
                  .br (decide (v4 < 0))
                    (.as (hd.Metas.length ≤ 9223372036854775807)
                      (.ob
                        (0 ≤ (↑hd.Metas.length : Int) ∧
                          (↑hd.Metas.length : Int) ≤ (↑hd.Metas.length : Int) ∧ 0 < 1 ∧ roomP (hd.Metas.length + 1) 32)
                        (.ret (.inl (List.take hd.Metas.length hd.Metas ++ ([AMeta.mk key val] ++ List.drop hd.Metas.length (List.take hd.Metas.length hd.Metas)))))))
                    (.ob (0 ≤ v4 ∧ v4 ≤ (↑hd.Metas.length : Int) ∧ 0 < 1 ∧ roomP (hd.Metas.length + 1) 32)
                      (.ret (.inl (List.take v4.toNat hd.Metas ++ ([AMeta.mk key val] ++ List.drop v4.toNat (List.take hd.Metas.length hd.Metas)))))))))))
noncomputable def stampP (hd : Head) (key : Str) (val : Str) : Head × Int := (stamp hd key val).val

noncomputable def rstamp (hd : Head) (key : Str) (val : Str) : Pg (Head × Int) :=
  .lt (rentryP key val) fun (v7 : Int) =>
    .br (v7 != 0) (.ret (hd, v7))
      (.cut
        (fun (y5 : List AMeta × Bool) =>
          .cut (fun (y6 : List AMeta) => .br (decide (16 < (↑y6.length : Int))) (.ret (hd, 3)) (.ret (Head.mk hd.Service hd.Method hd.Deadline y6, 0)))
            (.br (!y5.snd) (.ob (roomP (y5.fst.length + 1) 32) (.ret (.inl (y5.fst ++ [AMeta.mk key val])))) (.ret (.inl y5.fst))))
        (.each true ixP hd.Metas d_Meta
          (fun (i1 : Int) (a4 : AMeta) (y2 : List AMeta × Bool) =>
            .ix i1 hd.Metas.length
              (.lt (rmetaP hd key) fun (v8 : Str × Bool) =>
                .cut
                  (fun (y3 : Bool × AMeta) =>
                    .lt (y2.fst ++ [y3.snd]) fun (v9 : List AMeta) =>
                      .br (!y3.fst)
                        (.br (!v8.snd)
                          (.br (!(Op.bytesLess y3.snd.Key key || y3.snd.Key == key))
                            (.ob (roomP (y2.fst.length + 1) 32)
                              (.lt (y2.fst ++ [AMeta.mk key val]) fun (v10 : List AMeta) =>
                                .ob (roomP (v10.length + 1) 32) (.ret (.inl (v10 ++ [y3.snd], true)))))
                            (.ob (roomP (y2.fst.length + 1) 32) (.ret (.inl (v9, y3.fst)))))
                          (.ob (roomP (y2.fst.length + 1) 32) (.ret (.inl (v9, y3.fst)))))
                        (.ob (roomP (y2.fst.length + 1) 32) (.ret (.inl (v9, y3.fst)))))
                  (.br (!y2.snd)
                    (.br v8.snd (.br (a4.Key == key) (.ret (.inl (true, AMeta.mk a4.Key val))) (.ret (.inl (y2.snd, a4)))) (.ret (.inl (y2.snd, a4))))
                    (.ret (.inl (y2.snd, a4))))))
          (fun (i1 : Int) (y2 : List AMeta × Bool) => .ret (.inl y2)) ([], false)))
noncomputable def rstampP (hd : Head) (key : Str) (val : Str) : Head × Int := (rstamp hd key val).val

def eqK (key : Str) (m : AMeta) : Bool := m.Key == key
def gtK (key : Str) (m : AMeta) : Bool := gtS m.Key key
def addM (key val : Str) : List AMeta → List AMeta
  | [] => []
  | x :: t => bif eqK key x then ⟨x.Key, val⟩ :: t else x :: addM key val t
def insM' (key val : Str) : List AMeta → List AMeta
  | [] => [⟨key, val⟩]
  | x :: t => bif gtK key x then ⟨key, val⟩ :: x :: t else x :: insM' key val t
def nextM (l : List AMeta) (key val : Str) : List AMeta := bif l.any (eqK key) then addM key val l else insM' key val l
noncomputable def stampV (h : Head) (key val : Str) : Head × Int :=
  bif rentryP key val != 0 then (h, rentryP key val) else bif decide (16 < ((nextM h.Metas key val).length : Int)) then (h, 3) else (⟨h.Service, h.Method, h.Deadline, nextM h.Metas key val⟩, 0)
theorem insM_mid (key val : Str) : ∀ (u : List AMeta) (a : AMeta) (v : List AMeta), (∀ x ∈ u, gtK key x = false) → gtK key a = true → insM' key val (u ++ a :: v) = u ++ ⟨key, val⟩ :: a :: v
  | [], a, v, _, h => by simp [insM', h]
  | x :: u, a, v, hu, h => by
    simp only [List.cons_append, insM', hu x (by simp), cond_false]
    rw [insM_mid key val u a v (fun y hy => hu y (by simp [hy])) h]
theorem insM_end (key val : Str) : ∀ (u : List AMeta), (∀ x ∈ u, gtK key x = false) → insM' key val u = u ++ [⟨key, val⟩]
  | [], _ => rfl
  | x :: u, hu => by
    simp only [List.cons_append, insM', hu x (by simp), cond_false]
    rw [insM_end key val u (fun y hy => hu y (by simp [hy]))]
theorem addM_mid (key val : Str) : ∀ (u : List AMeta) (a : AMeta) (v : List AMeta), (∀ x ∈ u, eqK key x = false) → eqK key a = true → addM key val (u ++ a :: v) = u ++ ⟨a.Key, val⟩ :: v
  | [], a, v, _, h => by simp [addM, h]
  | x :: u, a, v, hu, h => by
    simp only [List.cons_append, addM, hu x (by simp), cond_false]
    rw [addM_mid key val u a v (fun y hy => hu y (by simp [hy])) h]
theorem any_none {A : Type} {p : A → Bool} {l : List A} (h : ∀ a ∈ l, p a = false) : l.any p = false := by
  rw [List.any_eq_false]
  exact fun x hx => by rw [h x hx]; simp
theorem any_some {A : Type} {p : A → Bool} {u v : List A} {a : A} (h : p a = true) : (u ++ a :: v).any p = true := by
  rw [List.any_eq_true]
  exact ⟨a, by simp, h⟩
theorem nextM_mid (l : List AMeta) (key val : Str) : (bif decide (0 ≤ ixOf (eqK key) l) then l.set (ixOf (eqK key) l).toNat (AMeta.mk (l.getD (ixOf (eqK key) l).toNat d_Meta).Key val)
    else bif decide (ixOf (gtK key) l < 0) then List.take l.length l ++ ([AMeta.mk key val] ++ List.drop l.length (List.take l.length l))
      else List.take (ixOf (gtK key) l).toNat l ++ ([AMeta.mk key val] ++ List.drop (ixOf (gtK key) l).toNat (List.take l.length l))) = nextM l key val := by
  unfold nextM
  rcases ixOf_spec (eqK key) l with ⟨h0, h⟩ | ⟨u, a, v, h1, h2, h3, h4⟩
  · rw [any_none h, h0]
    simp only [show decide ((0 : Int) ≤ -1) = false from rfl, cond_false]
    rcases ixOf_spec (gtK key) l with ⟨g0, g⟩ | ⟨u, a, v, g1, g2, g3, g4⟩
    · rw [g0, insM_end key val l g]
      simp
    · have hd : decide ((u.length : Int) < 0) = false := decide_eq_false (by omega)
      rw [g4, hd, cond_false, Int.toNat_natCast, List.take_length, g1, insM_mid key val u a v g3 g2, List.take_left, List.drop_left]
      rfl
  · have hd : decide ((0 : Int) ≤ u.length) = true := decide_eq_true (by omega)
    rw [h4, hd, cond_true, Int.toNat_natCast, h1, any_some h2, cond_true, addM_mid key val u a v h3 h2, getD_mid, set_mid]
theorem stamp_eq (h : Head) (key val : Str) : (stamp h key val).val = stampV h key val := by
  unfold stamp stampV
  simp only [val_ob, val_lt, val_br, val_cut, val_ix, val_as, val_ret]
  have hm := nextM_mid h.Metas key val
  unfold eqK gtK at hm
  have hs : ∀ (c1 c2 : Bool) (a b c : List AMeta), (bif c1 then (Sum.inl a : List AMeta ⊕ (Head × Int)) else bif c2 then .inl b else .inl c) = .inl (bif c1 then a else bif c2 then b else c) := by
    intro c1 c2 a b c
    cases c1 <;> cases c2 <;> rfl
  rw [hs, hm, thenS_inl]
theorem rmeta_has (h : Head) (key : Str) : (rmetaP h key).2 = h.Metas.any (eqK key) := by
  unfold rmetaP rmeta
  simp only [val_each, val_ix, val_br, val_ret]
  have : ∀ (l : List AMeta) (k : Nat), (forE (fun (_ : Nat) (a : AMeta) (_ : Unit) => bif a.Key == key then (Sum.inr (a.Val, true) : Unit ⊕ (Str × Bool)) else .inl ()) (fun _ _ => ([], false)) l k ()).2 = l.any (eqK key) := by
    intro l
    induction l with
    | nil => intro k; rfl
    | cons a l ih =>
      intro k
      unfold forE
      rw [List.any_cons]
      have : eqK key a = (a.Key == key) := rfl
      rw [this]
      cases a.Key == key with
      | true => rfl
      | false => exact ih (k + 1)
  exact this h.Metas 0
end Go.Proofs.YtemjcccdcnhmhaaGreatDoor
