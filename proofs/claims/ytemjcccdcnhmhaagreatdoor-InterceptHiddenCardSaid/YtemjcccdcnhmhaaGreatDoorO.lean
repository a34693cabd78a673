/-
  Intercept: the reference's Hide; the laws' functions.
-/
import Derived.Test.YtemjcccdcnhmhaaGreatDoorY
import Derived.Test.YtemjcccdcnhmhaaGreatDoorT
import Derived.Test.YtemjcccdcnhmhaaGreatDoorL
namespace Go.Proofs.YtemjcccdcnhmhaaGreatDoor
open Go.RowKit Go.Vc
set_option linter.unusedVariables false
set_option linter.unusedSimpArgs false
set_option maxRecDepth 100000

noncomputable def relem (relemR : Schema → AType → AVal → AVal) (relemQ : Schema → AType → AVal → Prop) (rhideR : Schema → Str → AVal → AVal) (rhideQ : Schema → Str → AVal → Prop) (s : Schema) (t : AType) (v : AVal) : Pg AVal :=
  .br (t.Kind != 10) (.ret v.re) (.ob (rhideQ s t.Name v.re) (.ret (rhideR s t.Name v.re).re))
noncomputable def rhide (relemR : Schema → AType → AVal → AVal) (relemQ : Schema → AType → AVal → Prop) (rhideR : Schema → Str → AVal → AVal) (rhideQ : Schema → Str → AVal → Prop) (s : Schema) (name : Str) (v : AVal) : Pg AVal :=
  .each true ixP v.Slots d_Slot
    (fun (i1 : Int) (a11 : Slot) (y2 : List Slot) =>
      .ix i1 v.Slots.length
        (.lt (r14fldP (r14msgP s name).fst a11.Num) fun (v12 : AField × Bool) =>
          .cut
            (fun (y3 : Unit) =>
              .ix i1 v.Slots.length
                (.cut (fun (y10 : AVal) => .ix i1 v.Slots.length (.ob (roomP (y2.length + 1) 136) (.ret (.inl (y2 ++ [Slot.mk a11.Num y10.re])))))
                  (.br (v12.fst.Card == 4)
                    (.each true ixP a11.Val.List d_AVal
                      (fun (i4 : Int) (a6 : AVal) (y5 : List AVal) =>
                        .ix i4 a11.Val.List.length
                          (.ob (relemQ s v12.fst.Type_ a6.re) (.ob (roomP (y5.length + 1) 128) (.ret (.inl (y5 ++ [(relemR s v12.fst.Type_ a6.re).re]))))))
                      (fun (i4 : Int) (y5 : List AVal) => .ret (.inl (AVal.mk a11.Val.Kind a11.Val.Bits a11.Val.Text y5 a11.Val.Pairs a11.Val.Slots a11.Val.Raws))) [])
                    (.br (v12.fst.Card == 5)
                      (.each true ixP a11.Val.Pairs d_Pair
                        (fun (i7 : Int) (a9 : Pair) (y8 : List Pair) =>
                          .ix i7 a11.Val.Pairs.length
                            (.ix i7 a11.Val.Pairs.length
                              (.ob (relemQ s v12.fst.Type_ a9.Val.re)
                                (.ob (roomP (y8.length + 1) 256) (.ret (.inl (y8 ++ [Pair.mk a9.Key.re (relemR s v12.fst.Type_ a9.Val.re).re])))))))
                        (fun (i7 : Int) (y8 : List Pair) => .ret (.inl (AVal.mk a11.Val.Kind a11.Val.Bits a11.Val.Text a11.Val.List y8 a11.Val.Slots a11.Val.Raws))) [])
                      (.ob (relemQ s v12.fst.Type_ a11.Val.re) (.ret (.inl (relemR s v12.fst.Type_ a11.Val.re).re)))))))
            (.br (r8flagP v12.fst.Notes [115, 101, 99, 114, 101, 116])
              (.br (v12.fst.Card != 1) (.ret (.inr (.inl y2))) (.ret (.inl ()))) (.ret (.inl ())))))
    (fun (i1 : Int) (y2 : List Slot) => .ret (AVal.mk v.Kind v.Bits v.Text v.List v.Pairs y2 v.Raws)) []

def relemQ (fu : Nat) (s : Schema) (t : AType) (v : AVal) : Prop := 2 * nV v + 1 < fu ∧ nV v ≤ 1000000
def rhideQ (fu : Nat) (s : Schema) (name : Str) (v : AVal) : Prop := 2 * nV v < fu ∧ nV v ≤ 1000000
noncomputable def rhidesV : Nat → (Schema → AType → AVal → AVal) × (Schema → Str → AVal → AVal)
  | 0 => (fun _ _ _ => default, fun _ _ _ => default)
  | fu + 1 => (fun s t v => (relem ((rhidesV fu).1) (relemQ fu) ((rhidesV fu).2) (rhideQ fu) s t v).val, fun s name v => (rhide ((rhidesV fu).1) (relemQ fu) ((rhidesV fu).2) (rhideQ fu) s name v).val)
noncomputable def relemP (s : Schema) (t : AType) (v : AVal) : AVal := (rhidesV (2 * nV v + 2)).1 s t v
noncomputable def rhideP (s : Schema) (name : Str) (v : AVal) : AVal := (rhidesV (2 * nV v + 1)).2 s name v
theorem relem_is (fu : Nat) (s : Schema) (t : AType) (v : AVal) (h : relemQ (fu + 1) s t v) : Is (relem ((rhidesV fu).1) (relemQ fu) ((rhidesV fu).2) (rhideQ fu) s t v) :=
  by
  obtain ⟨h, h2⟩ := h
  exact is_bne (fun _ => is_ret) (fun _ => is_ob ((⟨by rw [AVal.re_eq]; omega, by rw [AVal.re_eq]; exact h2⟩)) (is_ret))
theorem rhide_is (fu : Nat) (s : Schema) (name : Str) (v : AVal) (h : rhideQ (fu + 1) s name v) : Is (rhide ((rhidesV fu).1) (relemQ fu) ((rhidesV fu).2) (rhideQ fu) s name v) :=
  by
  obtain ⟨h, h2⟩ := h
  have hv := nV_eq v
  have hl := nSs_len v.Slots
  refine IsP.is (Q := fun _ => True) (isP_each (fun k y => y.length ≤ k) (Nat.le_refl _) (by omega) (fun i1 y2 hlt hI => ?_) (fun y2 _ => isP_ret trivial))
  have hI : y2.length ≤ i1 := hI
  have hm := nSs_mem (getD_mem (d := d_Slot) hlt)
  have hs := nS_eq (v.Slots.getD i1 d_Slot)
  have hx := nV_eq (v.Slots.getD i1 d_Slot).Val
  have h3 := nVs_len (v.Slots.getD i1 d_Slot).Val.List
  have h4 := nPs_len (v.Slots.getD i1 d_Slot).Val.Pairs
  refine isP_ix (by omega) (by omega) (isP_lt fun v12 hv12 => isP_cut (fun _ => True) (isP_br (fun _ => isP_bne (fun _ => isP_ret (show y2.length ≤ i1 + 1 by omega)) (fun _ => isP_ret trivial)) (fun _ => isP_ret trivial)) (fun y3 _ => isP_ix (by omega) (by omega) (isP_cut (fun _ => True) ?_ (fun y10 _ => isP_ix (by omega) (by omega) (isP_ob (room_of (by omega) (by omega)) (isP_ret (by show (y2 ++ [_]).length ≤ i1 + 1; rw [List.length_append, List.length_singleton]; omega)))))))
  refine isP_beq (fun _ => isP_each (fun k y => y.length ≤ k) (Nat.le_refl _) (by omega) (fun i4 y5 hlt4 hI4 => ?_) (fun y5 _ => isP_ret trivial)) (fun _ => isP_beq (fun _ => isP_each (fun k y => y.length ≤ k) (Nat.le_refl _) (by omega) (fun i7 y8 hlt7 hI7 => ?_) (fun y8 _ => isP_ret trivial)) (fun _ => isP_ob ⟨by rw [AVal.re_eq]; omega, by rw [AVal.re_eq]; omega⟩ (isP_ret trivial)))
  · have hI4 : y5.length ≤ i4 := hI4
    have h5 := nVs_mem (getD_mem (d := d_AVal) hlt4)
    exact isP_ix (by omega) (by omega) (isP_ob ⟨by rw [AVal.re_eq]; omega, by rw [AVal.re_eq]; omega⟩ (isP_ob (room_of (by omega) (by omega)) (isP_ret (by show (y5 ++ [_]).length ≤ i4 + 1; rw [List.length_append, List.length_singleton]; omega))))
  · have hI7 : y8.length ≤ i7 := hI7
    have h5 := nPs_mem (getD_mem (d := d_Pair) hlt7)
    have h6 := nP_eq ((v.Slots.getD i1 d_Slot).Val.Pairs.getD i7 d_Pair)
    exact isP_ix (by omega) (by omega) (isP_ix (by omega) (by omega) (isP_ob ⟨by rw [AVal.re_eq]; omega, by rw [AVal.re_eq]; omega⟩ (isP_ob (room_of (by omega) (by omega)) (isP_ret (by show (y8 ++ [_]).length ≤ i7 + 1; rw [List.length_append, List.length_singleton]; omega)))))

theorem rhides_ok : ∀ fu, CtOk Z.P Z.S 52 (ctN (args (aCons (aAgg cd_Schema) (aCons (aAgg cd_AType) (a1 (aAgg cd_AVal))))) (shr [.slot 0 true [none, none, none, none, none, none, none]] (l1 cd_AVal)) 1 [] (fun a => some (relemQ fu (a.1) (a.2.1) (a.2.2))) (fun a => (rhidesV fu).1 (a.1) (a.2.1) (a.2.2))) ∧ CtOk Z.P Z.S 17 (ctN (args (aCons (aAgg cd_Schema) (aCons (aLf cStr) (a1 (aAgg cd_AVal))))) (shr [.slot 0 true [none, none, none, none, none, none, none]] (l1 cd_AVal)) 1 [] (fun a => some (rhideQ fu (a.1) (a.2.1) (a.2.2))) (fun a => (rhidesV fu).2 (a.1) (a.2.1) (a.2.2)))
  | 0 => ⟨ct_zero Tryz.func52 (by kernel_rfl) (fun a h => absurd h.1 (Nat.not_lt_zero _)),
    ct_zero Tryz.func17 (by kernel_rfl) (fun a h => absurd h.1 (Nat.not_lt_zero _))⟩
  | fu + 1 => by
    obtain ⟨h0, h1⟩ := rhides_ok fu
    exact ⟨ct_ofN (fun _ _ => envL_ok (l := [⟨52, _, h0⟩, ⟨17, _, h1⟩])) (J := []) (argsI (n := 16) rfl) inferInstance Tryz.func52 Tryz.ntmps52 (by kernel_rfl) 1 rfl (fun a => relem ((rhidesV fu).1) (relemQ fu) ((rhidesV fu).2) (rhideQ fu) (a.1) (a.2.1) (a.2.2)) _ (fun a e _ => by kernel_rfl) _ (fun a h => ⟨relem_is fu (a.1) (a.2.1) (a.2.2) h, rfl⟩),
      ct_ofN (fun _ _ => envL_ok (l := [e_r14msg, e_r14fld, e_r8flag, ⟨52, _, h0⟩, ⟨17, _, h1⟩])) (J := [jS 4 (shp (fun sl => [.slot 10 false [none], .slot 9 false [some 78]]) (lCons (cInt .i64) (l1 cd_LSlot))), jS 14 (shp (fun sl => [.slot 15 false [none], .slot 14 false [some 46]]) (lCons (cInt .i64) (l1 cd_LAVal))), jS 21 (shp (fun sl => [.slot 17 false [none], .slot 16 false [some 96]]) (lCons (cInt .i64) (l1 cd_LPair))), jS 100008 (shp (fun sl => []) l0), jS 100025 (shp (fun sl => [.cells (pid (sl 13)) [none, none, none, none, none, none, none]]) (l1 cd_AVal))]) (argsI (n := 131) rfl) inferInstance Tryz.func17 Tryz.ntmps17 (by kernel_rfl) 1 rfl (fun a => rhide ((rhidesV fu).1) (relemQ fu) ((rhidesV fu).2) (rhideQ fu) (a.1) (a.2.1) (a.2.2)) _ (fun a e _ => by kernel_rfl) _ (fun a h => ⟨rhide_is fu (a.1) (a.2.1) (a.2.2) h, rfl⟩)⟩
noncomputable def e_relem : Ent Z := ⟨52, ctN (args (aCons (aAgg cd_Schema) (aCons (aAgg cd_AType) (a1 (aAgg cd_AVal))))) (shr [.slot 0 true [none, none, none, none, none, none, none]] (l1 cd_AVal)) 1 [] (fun a => some (nV (a.2.2) ≤ 1000000)) (fun a => relemP (a.1) (a.2.1) (a.2.2)), ctFam_ok (fun n => ((rhides_ok n).1)) _ _ (fun a h => ⟨2 * nV (a.2.2) + 2, ⟨Nat.lt_succ_self _, h⟩, rfl⟩)⟩
noncomputable def e_rhide : Ent Z := ⟨17, ctN (args (aCons (aAgg cd_Schema) (aCons (aLf cStr) (a1 (aAgg cd_AVal))))) (shr [.slot 0 true [none, none, none, none, none, none, none]] (l1 cd_AVal)) 1 [] (fun a => some (nV (a.2.2) ≤ 1000000)) (fun a => rhideP (a.1) (a.2.1) (a.2.2)), ctFam_ok (fun n => ((rhides_ok n).2)) _ _ (fun a h => ⟨2 * nV (a.2.2) + 1, ⟨Nat.lt_succ_self _, h⟩, rfl⟩)⟩


noncomputable def rafterI (l : List Icept) (s : Schema) (name : Str) (v : AVal) : Pg AVal :=
  .each true ixI l d_Icept
    (fun (i1 : Int) (a3 : Icept) (y2 : Unit) =>
      .ix i1 l.length (.br (a3.Kind == 6) (.ob (nV v.re ≤ 1000000) (.ret (.inr (rhideP s name v.re).re))) (.ret (.inl ()))))
    (fun (i1 : Int) (y2 : Unit) => .ret v.re) ()
noncomputable def rafterIP (l : List Icept) (s : Schema) (name : Str) (v : AVal) : AVal := (rafterI l s name v).val

theorem rafterI_is (l : List Icept) (s : Schema) (name : Str) (v : AVal) (h : nV v ≤ 1000000) : Is (rafterI l s name v) :=
  is_each (.inl rfl) (fun i1 y2 _ _ => is_ix (by omega) (by omega) (is_beq (fun _ => is_ob (by rw [AVal.re_eq]; exact h) (is_ret)) (fun _ => is_ret))) (fun y2 _ => is_ret)
noncomputable def e_rafterI : Ent Z := entN Z [e_rhide] [jS 2 (shp (fun sl => [.slot 9 false [none]]) (l1 (cInt .i64)))] (args (aCons (aLf cd_LIcept) (aCons (aAgg cd_Schema) (aCons (aLf cStr) (a1 (aAgg cd_AVal)))))) (argsI (n := 27) rfl) (shr [.slot 0 true [none, none, none, none, none, none, none]] (l1 cd_AVal)) [] Tryz.func19 Tryz.ntmps19 (by kernel_rfl) 1 rfl (fun a => rafterI (a.1) (a.2.1) (a.2.2.1) (a.2.2.2)) (fun a => some (nV (a.2.2.2) ≤ 1000000)) (fun a e _ => by kernel_rfl) (fun a => rafterIP (a.1) (a.2.1) (a.2.2.1) (a.2.2.2)) (fun a h => ⟨rafterI_is (a.1) (a.2.1) (a.2.2.1) (a.2.2.2) h, rfl⟩)

noncomputable def lopen (lopenR : Schema → Str → AVal → Bool) (lopenQ : Schema → Str → AVal → Prop) (s : Schema) (name : Str) (v : AVal) : Pg Bool :=
  .each true ixI v.Slots d_Slot
    (fun (i1 : Int) (a12 : Slot) (y2 : Unit) =>
      .ix i1 v.Slots.length
        (.lt (r14fldP (r14msgP s name).fst a12.Num) fun (v13 : AField × Bool) =>
          .cut
            (fun (y3 : Unit) =>
              .br (v13.fst.Type_.Kind != 10) (.ret (.inl ()))
                (.ix i1 v.Slots.length
                  (.cut
                    (fun (y4 : Unit) =>
                      .cut
                        (fun (y8 : Unit) =>
                          .each true ixI a12.Val.Pairs d_Pair
                            (fun (i9 : Int) (a11 : Pair) (y10 : Unit) =>
                              .ix i9 a12.Val.Pairs.length
                                (.ob (lopenQ s v13.fst.Type_.Name a11.Val.re)
                                  (.br (lopenR s v13.fst.Type_.Name a11.Val.re) (.ret (.inr (.inr true))) (.ret (.inl ())))))
                            (fun (i9 : Int) (y10 : Unit) => .ret (.inl ())) ())
                        (.each true ixI a12.Val.List d_AVal
                          (fun (i5 : Int) (a7 : AVal) (y6 : Unit) =>
                            .ix i5 a12.Val.List.length
                              (.ob (lopenQ s v13.fst.Type_.Name a7.re)
                                (.br (lopenR s v13.fst.Type_.Name a7.re) (.ret (.inr (.inr (.inr true)))) (.ret (.inl ())))))
                          (fun (i5 : Int) (y6 : Unit) => .ret (.inl ())) ()))
                    (.br (a12.Val.Kind == 10)
                      (.ob (lopenQ s v13.fst.Type_.Name a12.Val.re) (.br (lopenR s v13.fst.Type_.Name a12.Val.re) (.ret (.inr (.inr true))) (.ret (.inl ()))))
                      (.ret (.inl ()))))))
            (.br (r8flagP v13.fst.Notes [115, 101, 99, 114, 101, 116])
              (.br (v13.fst.Card != 1) (.ret (.inr (.inr true))) (.ret (.inl ()))) (.ret (.inl ())))))
    (fun (i1 : Int) (y2 : Unit) => .ret false) ()

def lopenQ (fu : Nat) (s : Schema) (name : Str) (v : AVal) : Prop := nV v < fu
noncomputable def lopensV : Nat → (Schema → Str → AVal → Bool)
  | 0 => (fun _ _ _ => default)
  | fu + 1 => (fun s name v => (lopen ((lopensV fu)) (lopenQ fu) s name v).val)
noncomputable def lopenP (s : Schema) (name : Str) (v : AVal) : Bool := (lopensV (nV v + 1)) s name v
theorem lopen_is (fu : Nat) (s : Schema) (name : Str) (v : AVal) (h : lopenQ (fu + 1) s name v) : Is (lopen ((lopensV fu)) (lopenQ fu) s name v) :=
  by
  have h : nV v < fu + 1 := h; have hv := nV_eq v
  exact is_each (.inl rfl) (fun i1 y2 _ _ => is_ix (by omega) (by omega) (is_lt fun v13 hv13 => is_cut (is_br (fun _ => is_bne (fun _ => is_ret) (fun _ => is_ret)) (fun _ => is_ret)) (fun y3 hy3 => is_bne (fun _ => is_ret) (fun _ => is_ix (by omega) (by omega) (is_cut (is_beq (fun _ => is_ob (by have h1 := nSs_mem (getD_mem (d := d_Slot) (show i1 < v.Slots.length by omega)); have h2 := nS_eq (v.Slots.getD i1 d_Slot); have h3 := nV_eq (v.Slots.getD i1 d_Slot).Val; simp only [lopenQ, AVal.re_eq]; omega) (is_br (fun _ => is_ret) (fun _ => is_ret))) (fun _ => is_ret)) (fun y4 hy4 => is_cut (is_each (.inl rfl) (fun i5 y6 _ _ => is_ix (by omega) (by omega) (is_ob (by have h1 := nSs_mem (getD_mem (d := d_Slot) (show i1 < v.Slots.length by omega)); have h2 := nS_eq (v.Slots.getD i1 d_Slot); have h3 := nV_eq (v.Slots.getD i1 d_Slot).Val; have h4 := nVs_mem (getD_mem (d := d_AVal) (show i5 < (v.Slots.getD i1 d_Slot).Val.List.length by omega)); simp only [lopenQ, AVal.re_eq]; omega) (is_br (fun _ => is_ret) (fun _ => is_ret)))) (fun y6 _ => is_ret)) (fun y8 hy8 => is_each (.inl rfl) (fun i9 y10 _ _ => is_ix (by omega) (by omega) (is_ob (by have h1 := nSs_mem (getD_mem (d := d_Slot) (show i1 < v.Slots.length by omega)); have h2 := nS_eq (v.Slots.getD i1 d_Slot); have h3 := nV_eq (v.Slots.getD i1 d_Slot).Val; have h4 := nPs_mem (getD_mem (d := d_Pair) (show i9 < (v.Slots.getD i1 d_Slot).Val.Pairs.length by omega)); have h5 := nP_eq ((v.Slots.getD i1 d_Slot).Val.Pairs.getD i9 d_Pair); simp only [lopenQ, AVal.re_eq]; omega) (is_br (fun _ => is_ret) (fun _ => is_ret)))) (fun y10 _ => is_ret)))))))) (fun y2 _ => is_ret)

theorem lopens_ok : ∀ fu, CtOk Z.P Z.S 20 (ctN (args (aCons (aAgg cd_Schema) (aCons (aLf cStr) (a1 (aAgg cd_AVal))))) (shr [.slot 0 false [none]] (l1 cBool)) 1 [] (fun a => some (lopenQ fu (a.1) (a.2.1) (a.2.2))) (fun a => (lopensV fu) (a.1) (a.2.1) (a.2.2)))
  | 0 => ct_zero Tryz.func20 (by kernel_rfl) (fun a h => absurd h (Nat.not_lt_zero _))
  | fu + 1 => by
    have h0 := lopens_ok fu
    exact ct_ofN (fun _ _ => envL_ok (l := [e_r14msg, e_r14fld, e_r8flag, ⟨20, _, h0⟩])) (J := [jS 3 (shp (fun sl => [.slot 9 false [none]]) (l1 (cInt .i64))), jS 13 (shp (fun sl => [.slot 13 false [none]]) (l1 (cInt .i64))), jS 18 (shp (fun sl => [.slot 14 false [none]]) (l1 (cInt .i64))), jS 100008 (shp (fun sl => []) l0), jS 100012 (shp (fun sl => []) l0), jS 100017 (shp (fun sl => []) l0)]) (argsI (n := 103) rfl) inferInstance Tryz.func20 Tryz.ntmps20 (by kernel_rfl) 1 rfl (fun a => lopen ((lopensV fu)) (lopenQ fu) (a.1) (a.2.1) (a.2.2)) _ (fun a e _ => by kernel_rfl) _ (fun a h => ⟨lopen_is fu (a.1) (a.2.1) (a.2.2) h, rfl⟩)
noncomputable def e_lopen : Ent Z := ⟨20, ctN (args (aCons (aAgg cd_Schema) (aCons (aLf cStr) (a1 (aAgg cd_AVal))))) (shr [.slot 0 false [none]] (l1 cBool)) 1 [] (fun a => none) (fun a => lopenP (a.1) (a.2.1) (a.2.2)), ctFam_ok (fun n => ((lopens_ok n))) _ _ (fun a h => ⟨nV (a.2.2) + 1, Nat.lt_succ_self _, rfl⟩)⟩


noncomputable def valued (s : Schema) (name : Str) (v : AVal) : Pg Bool :=
  .br (decide ((↑(List.length name) : Int) ≤ 300))
    (.br (c12smallP s) (.ob (okS s) (.br (c12validP s) (.br (c18fewP v.re 500) (.ret (c17checkP s name v.re == 0)) (.ret false)) (.ret false)))
      (.ret false))
    (.ret false)
noncomputable def valuedP (s : Schema) (name : Str) (v : AVal) : Bool := (valued s name v).val

theorem valued_is (s : Schema) (name : Str) (v : AVal) (h : bigS s) : Is (valued s name v) :=
  is_brd (fun _ => is_br (fun _ => is_ob ((small_ok s h ‹_›)) (is_br (fun _ => is_br (fun _ => is_ret) (fun _ => is_ret)) (fun _ => is_ret))) (fun _ => is_ret)) (fun _ => is_ret)
noncomputable def e_valued : Ent Z := entN Z [e_c17check, e_c12small, e_c12valid, e_c18few] [] (args (aCons (aAgg cd_Schema) (aCons (aLf cStr) (a1 (aAgg cd_AVal))))) (argsI (n := 29) rfl) (shr [.slot 0 false [none]] (l1 cBool)) [] Tryz.func14 Tryz.ntmps14 (by kernel_rfl) 1 rfl (fun a => valued (a.1) (a.2.1) (a.2.2)) (fun a => some (bigS (a.1))) (fun a e _ => by kernel_rfl) (fun a => valuedP (a.1) (a.2.1) (a.2.2)) (fun a h => ⟨valued_is (a.1) (a.2.1) (a.2.2) h, rfl⟩)

noncomputable def law2 (l : List Icept) (s : Schema) (name : Str) (v : AVal) : Pg Bool :=
  .br (!fewP l) (.ret true)
    (.ob (bigS s)
      (.br (!valuedP s name v.re) (.ret true)
        (.lt (nV v.re) fun (v1 : Nat) =>
          .ob (v1 ≤ 1000000)
            (.ob (v1 ≤ 1000000)
              (.br (c17sameP (hideP s name v.re).re (rhideP s name v.re).re)
                (.ob (v1 ≤ 1000000) (.ob (v1 ≤ 1000000) (.br (c17sameP (afterIP l s name v.re).re (rafterIP l s name v.re).re) (.ret true) (.ret false))))
                (.ret false))))))
noncomputable def law2P (l : List Icept) (s : Schema) (name : Str) (v : AVal) : Bool := (law2 l s name v).val

noncomputable def law7 (s : Schema) (name : Str) (v : AVal) : Pg Bool :=
  .ob (bigS s)
    (.br (!valuedP s name v.re) (.ret true)
      (.ob (nV v.re ≤ 1000000)
        (.lt (hideP s name v.re) fun (v2 : AVal) =>
          .cut
            (fun (y1 : Unit) =>
              .br (c17checkP s name v2.re == 0)
                (.br (!lopenP s name v2.re) (.ob (nV v2.re ≤ 1000000) (.br (c17sameP (hideP s name v2.re).re v2.re) (.ret true) (.ret false))) (.ret false))
                (.ret false))
            (.br (!lopenP s name v.re) (.br (!c17sameP v.re v2.re) (.ret (.inr false)) (.ret (.inl ()))) (.ret (.inl ()))))))
noncomputable def law7P (s : Schema) (name : Str) (v : AVal) : Bool := (law7 s name v).val
end Go.Proofs.YtemjcccdcnhmhaaGreatDoor
