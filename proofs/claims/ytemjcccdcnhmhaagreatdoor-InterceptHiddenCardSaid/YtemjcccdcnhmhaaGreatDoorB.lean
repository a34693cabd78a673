/-
  Intercept: small functions.
-/
import Derived.Test.YtemjcccdcnhmhaaGreatDoorA
namespace Go.Proofs.YtemjcccdcnhmhaaGreatDoor
open Go.RowKit Go.Vc
set_option linter.unusedVariables false
set_option linter.unusedSimpArgs false
set_option maxRecDepth 100000

noncomputable def action (x : Icept) : Pg (Option Ifc) :=
  .br (x.Kind == 1) (.ret (some (Ifc.mk 118 true [Pv.str x.Key, Pv.str x.Val])))
    (.br (x.Kind == 2) (.ret (some (Ifc.mk 114 true [Pv.int .i64 x.Num])))
      (.br (x.Kind == 3) (.ret (some (Ifc.mk 120 true [Pv.int .i64 x.Num, Pv.int .i64 x.Span])))
        (.br (x.Kind == 4) (.ret (some (Ifc.mk 121 true [Pv.str x.Key, Pv.str x.Val])))
          (.br (x.Kind == 5) (.ret (some (Ifc.mk 123 true [Pv.int .i64 x.Num])))
            (.br (x.Kind == 6) (.ret (some (Ifc.mk 166 true []))) (.ret none))))))
noncomputable def actionP (x : Icept) : Option Ifc := (action x).val

theorem action_is (x : Icept) : Is (action x) :=
  is_beq (fun _ => is_ret) (fun _ => is_beq (fun _ => is_ret) (fun _ => is_beq (fun _ => is_ret) (fun _ => is_beq (fun _ => is_ret) (fun _ => is_beq (fun _ => is_ret) (fun _ => is_beq (fun _ => is_ret) (fun _ => is_ret))))))
noncomputable def e_action : Ent Z := entN Z [] [] (args (a1 (aAgg cd_Icept))) (argsI (n := 45) rfl) (shr [.slot 0 false [none]] (l1 cIfc)) [] Tryz.func62 Tryz.ntmps62 (by kernel_rfl) 1 rfl (fun a => action a) (fun a => none) (fun a e _ => by kernel_rfl) (fun a => actionP a) (fun a h => ⟨action_is a, rfl⟩)

noncomputable def within (n : Int) (lo : Int) (hi : Int) : Pg Bool :=
  .br (decide (lo ≤ n)) (.ret (decide (n ≤ hi))) (.ret false)
noncomputable def withinP (n : Int) (lo : Int) (hi : Int) : Bool := (within n lo hi).val

theorem within_is (n : Int) (lo : Int) (hi : Int) : Is (within n lo hi) :=
  is_brd (fun _ => is_ret) (fun _ => is_ret)
noncomputable def e_within : Ent Z := entN Z [] [] (args (aCons (aLf (cInt .i64)) (aCons (aLf (cInt .i64)) (a1 (aLf (cInt .i64)))))) (argsI (n := 15) rfl) (shr [.slot 0 false [none]] (l1 cBool)) [] Tryz.func100 Tryz.ntmps100 (by kernel_rfl) 1 rfl (fun a => within (a.1) (a.2.1) (a.2.2)) (fun a => none) (fun a e _ => by kernel_rfl) (fun a => withinP (a.1) (a.2.1) (a.2.2)) (fun a h => ⟨within_is (a.1) (a.2.1) (a.2.2), rfl⟩)

noncomputable def bare (x : Icept) (key : Bool) (num : Bool) (span : Bool) : Pg Bool :=
  .br key
    (.br num (.br span (.ret true) (.ret (x.Span == 0))) (.br (x.Num == 0) (.br span (.ret true) (.ret (x.Span == 0))) (.ret false)))
    (.br (x.Key == [])
      (.br (x.Val == [])
        (.br num (.br span (.ret true) (.ret (x.Span == 0))) (.br (x.Num == 0) (.br span (.ret true) (.ret (x.Span == 0))) (.ret false)))
        (.ret false))
      (.ret false))
noncomputable def bareP (x : Icept) (key : Bool) (num : Bool) (span : Bool) : Bool := (bare x key num span).val

theorem bare_is (x : Icept) (key : Bool) (num : Bool) (span : Bool) : Is (bare x key num span) :=
  is_br (fun _ => is_br (fun _ => is_br (fun _ => is_ret) (fun _ => is_ret)) (fun _ => is_beq (fun _ => is_br (fun _ => is_ret) (fun _ => is_ret)) (fun _ => is_ret))) (fun _ => is_br (fun _ => is_br (fun _ => is_br (fun _ => is_br (fun _ => is_ret) (fun _ => is_ret)) (fun _ => is_beq (fun _ => is_br (fun _ => is_ret) (fun _ => is_ret)) (fun _ => is_ret))) (fun _ => is_ret)) (fun _ => is_ret))
noncomputable def e_bare : Ent Z := entN Z [] [] (args (aCons (aAgg cd_Icept) (aCons (aLf cBool) (aCons (aLf cBool) (a1 (aLf cBool)))))) (argsI (n := 36) rfl) (shr [.slot 0 false [none]] (l1 cBool)) [] Tryz.func99 Tryz.ntmps99 (by kernel_rfl) 1 rfl (fun a => bare (a.1) (a.2.1) (a.2.2.1) (a.2.2.2)) (fun a => none) (fun a e _ => by kernel_rfl) (fun a => bareP (a.1) (a.2.1) (a.2.2.1) (a.2.2.2)) (fun a h => ⟨bare_is (a.1) (a.2.1) (a.2.2.1) (a.2.2.2), rfl⟩)

theorem act_ok (x : Icept) : Ifc.ok (actionP x) 118 true [Value.string (ByteArray.mk #[]), Value.string (ByteArray.mk #[])] = true ∧ Ifc.ok (actionP x) 121 true [Value.string (ByteArray.mk #[]), Value.string (ByteArray.mk #[])] = true ∧ Ifc.ok (actionP x) 114 true [Value.int IntKind.i64 0] = true ∧
    Ifc.ok (actionP x) 120 true [Value.int IntKind.i64 0, Value.int IntKind.i64 0] = true ∧ Ifc.ok (actionP x) 123 true [Value.int IntKind.i64 0] = true ∧ Ifc.ok (actionP x) 166 true [] = true := by
  unfold actionP action
  simp only [val_br, val_ret]
  cases x.Kind == 1 <;> cases x.Kind == 2 <;> cases x.Kind == 3 <;> cases x.Kind == 4 <;> cases x.Kind == 5 <;> cases x.Kind == 6 <;> exact ⟨rfl, rfl, rfl, rfl, rfl, rfl⟩

noncomputable def formed (x : Icept) : Pg Bool :=
  .lt (actionP x) fun (v1 : Option Ifc) =>
    .ob (Ifc.ok v1 118 true [Value.string (ByteArray.mk (Array.mk [])), Value.string (ByteArray.mk (Array.mk []))] = true)
      (.ob (Ifc.ok v1 121 true [Value.string (ByteArray.mk (Array.mk [])), Value.string (ByteArray.mk (Array.mk []))] = true)
        (.br (bif Ifc.is v1 118 then true else Ifc.is v1 121) (.ret (bareP x true false false))
          (.ob (Ifc.ok v1 114 true [Value.int .i64 0] = true)
            (.lt (bareP x false true false) fun (v2 : Bool) =>
              .br (Ifc.is v1 114) (.br v2 (.ret (withinP x.Num 0 65536)) (.ret false))
                (.ob (Ifc.ok v1 120 true [Value.int .i64 0, Value.int .i64 0] = true)
                  (.br (Ifc.is v1 120)
                    (.br (bareP x false true true) (.br (withinP x.Num 1 1000) (.ret (withinP x.Span 1 1099511627776)) (.ret false))
                      (.ret false))
                    (.ob (Ifc.ok v1 123 true [Value.int .i64 0] = true)
                      (.br (Ifc.is v1 123) (.br v2 (.ret (withinP x.Num 1 1099511627776)) (.ret false))
                        (.ob (Ifc.ok v1 166 true [] = true) (.br (Ifc.is v1 166) (.ret (bareP x false false false)) (.ret false)))))))))))
noncomputable def formedP (x : Icept) : Bool := (formed x).val

theorem formed_is (x : Icept) : Is (formed x) :=
  is_lt fun v1 hv1 => is_ob ((hv1 ▸ act_ok x).1) (is_ob ((hv1 ▸ act_ok x).2.1) (is_br (fun _ => is_ret) (fun _ => is_ob ((hv1 ▸ act_ok x).2.2.1) (is_lt fun v2 hv2 => is_br (fun _ => is_br (fun _ => is_ret) (fun _ => is_ret)) (fun _ => is_ob ((hv1 ▸ act_ok x).2.2.2.1) (is_br (fun _ => is_br (fun _ => is_br (fun _ => is_ret) (fun _ => is_ret)) (fun _ => is_ret)) (fun _ => is_ob ((hv1 ▸ act_ok x).2.2.2.2.1) (is_br (fun _ => is_br (fun _ => is_ret) (fun _ => is_ret)) (fun _ => is_ob ((hv1 ▸ act_ok x).2.2.2.2.2) (is_br (fun _ => is_ret) (fun _ => is_ret)))))))))))
noncomputable def e_formed : Ent Z := entN Z [e_action, e_bare, e_within] [] (args (a1 (aAgg cd_Icept))) (argsI (n := 54) rfl) (shr [.slot 0 false [none]] (l1 cBool)) [] Tryz.func63 Tryz.ntmps63 (by kernel_rfl) 1 rfl (fun a => formed a) (fun a => none) (fun a e _ => by kernel_rfl) (fun a => formedP a) (fun a h => ⟨formed_is a, rfl⟩)

noncomputable def rfields (x : Icept) : Pg Bool :=
  .br (x.Key == [])
    (.cut
      (fun (y1 : Bool) =>
        .br y1 (.br (x.Num == 0) (.ret (x.Span == 0)) (.ret false))
          (.br (x.Kind == 2)
            (.br (x.Val == []) (.br (decide (0 ≤ x.Num)) (.br (decide (x.Num ≤ 65536)) (.ret (x.Span == 0)) (.ret false)) (.ret false))
              (.ret false))
            (.br (x.Kind == 3)
              (.br (x.Val == [])
                (.br (decide (1 ≤ x.Num))
                  (.br (decide (x.Num ≤ 1000)) (.br (decide (1 ≤ x.Span)) (.ret (decide (x.Span ≤ 1099511627776))) (.ret false)) (.ret false))
                  (.ret false))
                (.ret false))
              (.br (x.Kind == 5)
                (.br (x.Val == [])
                  (.br (decide (1 ≤ x.Num)) (.br (decide (x.Num ≤ 1099511627776)) (.ret (x.Span == 0)) (.ret false)) (.ret false)) (.ret false))
                (.br (x.Kind == 6) (.br (x.Val == []) (.br (x.Num == 0) (.ret (x.Span == 0)) (.ret false)) (.ret false)) (.ret false))))))
      (.br (x.Kind == 1) (.ret (.inl (x.Kind == 1))) (.ret (.inl (x.Kind == 4)))))
    (.cut
      (fun (y2 : Bool) =>
        .br y2 (.br (x.Num == 0) (.ret (x.Span == 0)) (.ret false))
          (.br (x.Kind == 2) (.ret false)
            (.br (x.Kind == 3) (.ret false) (.br (x.Kind == 5) (.ret false) (.br (x.Kind == 6) (.ret false) (.ret false))))))
      (.br (x.Kind == 1) (.ret (.inl (x.Kind == 1))) (.ret (.inl (x.Kind == 4)))))
noncomputable def rfieldsP (x : Icept) : Bool := (rfields x).val

theorem rfields_is (x : Icept) : Is (rfields x) :=
  is_br (fun _ => is_cut (is_beq (fun _ => is_ret) (fun _ => is_ret)) (fun y1 hy1 => is_br (fun _ => is_beq (fun _ => is_ret) (fun _ => is_ret)) (fun _ => is_beq (fun _ => is_br (fun _ => is_brd (fun _ => is_brd (fun _ => is_ret) (fun _ => is_ret)) (fun _ => is_ret)) (fun _ => is_ret)) (fun _ => is_beq (fun _ => is_br (fun _ => is_brd (fun _ => is_brd (fun _ => is_brd (fun _ => is_ret) (fun _ => is_ret)) (fun _ => is_ret)) (fun _ => is_ret)) (fun _ => is_ret)) (fun _ => is_beq (fun _ => is_br (fun _ => is_brd (fun _ => is_brd (fun _ => is_ret) (fun _ => is_ret)) (fun _ => is_ret)) (fun _ => is_ret)) (fun _ => is_beq (fun _ => is_br (fun _ => is_beq (fun _ => is_ret) (fun _ => is_ret)) (fun _ => is_ret)) (fun _ => is_ret))))))) (fun _ => is_cut (is_beq (fun _ => is_ret) (fun _ => is_ret)) (fun y2 hy2 => is_br (fun _ => is_beq (fun _ => is_ret) (fun _ => is_ret)) (fun _ => is_beq (fun _ => is_ret) (fun _ => is_beq (fun _ => is_ret) (fun _ => is_beq (fun _ => is_ret) (fun _ => is_beq (fun _ => is_ret) (fun _ => is_ret)))))))
noncomputable def e_rfields : Ent Z := entN Z [] [jS 100005 (shp (fun sl => [.slot 14 false [none]]) (l1 cBool))] (args (a1 (aAgg cd_Icept))) (argsI (n := 97) rfl) (shr [.slot 0 false [none]] (l1 cBool)) [] Tryz.func54 Tryz.ntmps54 (by kernel_rfl) 1 rfl (fun a => rfields a) (fun a => none) (fun a e _ => by kernel_rfl) (fun a => rfieldsP a) (fun a h => ⟨rfields_is a, rfl⟩)

noncomputable def few (l : List Icept) : Pg Bool :=
  .br (decide (12 < (↑l.length : Int))) (.ret false)
    (.each true ixI l d_Icept
      (fun (i1 : Int) (a3 : Icept) (y2 : Unit) =>
        .ix i1 l.length
          (.br (decide (300 < (↑(List.length a3.Key) : Int))) (.ret (.inr false))
            (.ix i1 l.length (.br (decide (300 < (↑(List.length a3.Val) : Int))) (.ret (.inr false)) (.ret (.inl ()))))))
      (fun (i1 : Int) (y2 : Unit) => .ret true) ())
noncomputable def fewP (l : List Icept) : Bool := (few l).val

theorem few_is (l : List Icept) : Is (few l) :=
  is_brd (fun _ => is_ret) (fun _ => is_each (.inl rfl) (fun i1 y2 _ _ => is_ix (by omega) (by omega) (is_brd (fun _ => is_ret) (fun _ => is_ix (by omega) (by omega) (is_brd (fun _ => is_ret) (fun _ => is_ret))))) (fun y2 _ => is_ret))
noncomputable def e_few : Ent Z := entN Z [] [jS 4 (shp (fun sl => [.slot 3 false [none]]) (l1 (cInt .i64)))] (args (a1 (aLf cd_LIcept))) (argsI (n := 29) rfl) (shr [.slot 0 false [none]] (l1 cBool)) [] Tryz.func13 Tryz.ntmps13 (by kernel_rfl) 1 rfl (fun a => few a) (fun a => none) (fun a e _ => by kernel_rfl) (fun a => fewP a) (fun a h => ⟨few_is a, rfl⟩)

noncomputable def short (h : Head) : Pg Bool :=
  .br (decide (300 < (↑(List.length h.Service) : Int))) (.ret false)
    (.br (decide (300 < (↑(List.length h.Method) : Int))) (.ret false)
      (.br (decide (30 < (↑h.Metas.length : Int))) (.ret false)
        (.each true ixI h.Metas d_Meta
          (fun (i1 : Int) (a3 : AMeta) (y2 : Unit) =>
            .ix i1 h.Metas.length
              (.br (decide (300 < (↑(List.length a3.Key) : Int))) (.ret (.inr false))
                (.ix i1 h.Metas.length (.br (decide (300 < (↑(List.length a3.Val) : Int))) (.ret (.inr false)) (.ret (.inl ()))))))
          (fun (i1 : Int) (y2 : Unit) => .ret true) ())))
noncomputable def shortP (h : Head) : Bool := (short h).val

theorem short_is (h : Head) : Is (short h) :=
  is_brd (fun _ => is_ret) (fun _ => is_brd (fun _ => is_ret) (fun _ => is_brd (fun _ => is_ret) (fun _ => is_each (.inl rfl) (fun i1 y2 _ _ => is_ix (by omega) (by omega) (is_brd (fun _ => is_ret) (fun _ => is_ix (by omega) (by omega) (is_brd (fun _ => is_ret) (fun _ => is_ret))))) (fun y2 _ => is_ret))))
noncomputable def e_short : Ent Z := entN Z [] [jS 4 (shp (fun sl => [.slot 3 false [none]]) (l1 (cInt .i64)))] (args (a1 (aAgg cd_Head))) (argsI (n := 45) rfl) (shr [.slot 0 false [none]] (l1 cBool)) [] Tryz.func24 Tryz.ntmps24 (by kernel_rfl) 1 rfl (fun a => short a) (fun a => none) (fun a e _ => by kernel_rfl) (fun a => shortP a) (fun a h => ⟨short_is a, rfl⟩)

noncomputable def errText (e : Int) : Pg (List UInt8) :=
  .ob (26 = 26)
    (.br (decide (e < 0)) (.ret [117, 110, 107, 110, 111, 119, 110])
      (.br (decide (26 ≤ e)) (.ret [117, 110, 107, 110, 111, 119, 110])
        (.ob (0 ≤ e ∧ e < 26)
          (.ob (e.toNat < 26)
            (.ret
              ([[111, 107], [97, 114, 103, 117, 109, 101, 110, 116],
                    [115, 121, 110, 116, 97, 120],
                    [108, 105, 109, 105, 116], [115, 104, 111, 114, 116],
                    [102, 111, 114, 109], [114, 97, 110, 103, 101],
                    [117, 116, 102], [110, 97, 109, 101],
                    [116, 119, 105, 99, 101], [110, 111, 110, 101],
                    [111, 114, 100, 101, 114], [116, 121, 112, 101],
                    [119, 105, 114, 101],
                    [109, 105, 115, 115, 105, 110, 103],
                    [117, 110, 105, 111, 110], [101, 110, 117, 109],
                    [100, 101, 112, 116, 104], [101, 120, 116, 114, 97],
                    [99, 121, 99, 108, 101], [115, 116, 97, 116, 101],
                    [100, 101, 110, 105, 101, 100], [102, 117, 108, 108],
                    [108, 97, 116, 101],
                    [99, 111, 110, 102, 108, 105, 99, 116],
                    [115, 117, 109]].getD
                e.toNat []))))))
noncomputable def errTextP (e : Int) : Str := (errText e).val

theorem errText_is (e : Int) : Is (errText e) :=
  is_ob (by omega) (is_brd (fun _ => is_ret) (fun _ => is_brd (fun _ => is_ret) (fun _ => is_ob (by omega) (is_ob (by omega) (is_ret)))))
noncomputable def e_errText : Ent Z := entN Z [] [] (args (a1 (aLf (cInt .i64)))) (argsI (n := 14) rfl) (shr [.slot 0 false [none]] (l1 cStr)) [] Tryz.func67 Tryz.ntmps67 (by kernel_rfl) 1 rfl (fun a => errText a) (fun a => none) (fun a e _ => by kernel_rfl) (fun a => errTextP a) (fun a h => ⟨errText_is a, rfl⟩)

noncomputable def stOf (e : Int) : Pg Status :=
  .cut
    (fun (y1 : Int) =>
      .cut (fun (y4 : Int) => .br (e == 0) (.ret (Status.mk 0 [])) (.ret (Status.mk y4 (errTextP e))))
        (.ob (13 = 13)
          (.cnt ixP 0 13
            (fun (i2 y3 : Int) =>
              .ob (0 ≤ i2 ∧ i2 < 13)
                (.br
                  ([([anon124.mk 0 0, anon124.mk 23 3, anon124.mk 21 6, anon124.mk 22 7,
                                  anon124.mk 3 7, anon124.mk 17 7, anon124.mk 10 4, anon124.mk 9 5,
                                  anon124.mk 20 8, anon124.mk 24 9, anon124.mk 25 13, anon124.mk 11 11,
                                  anon124.mk 19 11].getD
                              0 d_anon124).e,
                          ([anon124.mk 0 0, anon124.mk 23 3, anon124.mk 21 6, anon124.mk 22 7,
                                  anon124.mk 3 7, anon124.mk 17 7, anon124.mk 10 4, anon124.mk 9 5,
                                  anon124.mk 20 8, anon124.mk 24 9, anon124.mk 25 13, anon124.mk 11 11,
                                  anon124.mk 19 11].getD
                              1 d_anon124).e,
                          ([anon124.mk 0 0, anon124.mk 23 3, anon124.mk 21 6, anon124.mk 22 7,
                                  anon124.mk 3 7, anon124.mk 17 7, anon124.mk 10 4, anon124.mk 9 5,
                                  anon124.mk 20 8, anon124.mk 24 9, anon124.mk 25 13, anon124.mk 11 11,
                                  anon124.mk 19 11].getD
                              2 d_anon124).e,
                          ([anon124.mk 0 0, anon124.mk 23 3, anon124.mk 21 6, anon124.mk 22 7,
                                  anon124.mk 3 7, anon124.mk 17 7, anon124.mk 10 4, anon124.mk 9 5,
                                  anon124.mk 20 8, anon124.mk 24 9, anon124.mk 25 13, anon124.mk 11 11,
                                  anon124.mk 19 11].getD
                              3 d_anon124).e,
                          ([anon124.mk 0 0, anon124.mk 23 3, anon124.mk 21 6, anon124.mk 22 7,
                                  anon124.mk 3 7, anon124.mk 17 7, anon124.mk 10 4, anon124.mk 9 5,
                                  anon124.mk 20 8, anon124.mk 24 9, anon124.mk 25 13, anon124.mk 11 11,
                                  anon124.mk 19 11].getD
                              4 d_anon124).e,
                          ([anon124.mk 0 0, anon124.mk 23 3, anon124.mk 21 6, anon124.mk 22 7,
                                  anon124.mk 3 7, anon124.mk 17 7, anon124.mk 10 4, anon124.mk 9 5,
                                  anon124.mk 20 8, anon124.mk 24 9, anon124.mk 25 13, anon124.mk 11 11,
                                  anon124.mk 19 11].getD
                              5 d_anon124).e,
                          ([anon124.mk 0 0, anon124.mk 23 3, anon124.mk 21 6, anon124.mk 22 7,
                                  anon124.mk 3 7, anon124.mk 17 7, anon124.mk 10 4, anon124.mk 9 5,
                                  anon124.mk 20 8, anon124.mk 24 9, anon124.mk 25 13, anon124.mk 11 11,
                                  anon124.mk 19 11].getD
                              6 d_anon124).e,
                          ([anon124.mk 0 0, anon124.mk 23 3, anon124.mk 21 6, anon124.mk 22 7,
                                  anon124.mk 3 7, anon124.mk 17 7, anon124.mk 10 4, anon124.mk 9 5,
                                  anon124.mk 20 8, anon124.mk 24 9, anon124.mk 25 13, anon124.mk 11 11,
                                  anon124.mk 19 11].getD
                              7 d_anon124).e,
                          ([anon124.mk 0 0, anon124.mk 23 3, anon124.mk 21 6, anon124.mk 22 7,
                                  anon124.mk 3 7, anon124.mk 17 7, anon124.mk 10 4, anon124.mk 9 5,
                                  anon124.mk 20 8, anon124.mk 24 9, anon124.mk 25 13, anon124.mk 11 11,
                                  anon124.mk 19 11].getD
                              8 d_anon124).e,
                          ([anon124.mk 0 0, anon124.mk 23 3, anon124.mk 21 6, anon124.mk 22 7,
                                  anon124.mk 3 7, anon124.mk 17 7, anon124.mk 10 4, anon124.mk 9 5,
                                  anon124.mk 20 8, anon124.mk 24 9, anon124.mk 25 13, anon124.mk 11 11,
                                  anon124.mk 19 11].getD
                              9 d_anon124).e,
                          ([anon124.mk 0 0, anon124.mk 23 3, anon124.mk 21 6, anon124.mk 22 7,
                                  anon124.mk 3 7, anon124.mk 17 7, anon124.mk 10 4, anon124.mk 9 5,
                                  anon124.mk 20 8, anon124.mk 24 9, anon124.mk 25 13, anon124.mk 11 11,
                                  anon124.mk 19 11].getD
                              10 d_anon124).e,
                          ([anon124.mk 0 0, anon124.mk 23 3, anon124.mk 21 6, anon124.mk 22 7,
                                  anon124.mk 3 7, anon124.mk 17 7, anon124.mk 10 4, anon124.mk 9 5,
                                  anon124.mk 20 8, anon124.mk 24 9, anon124.mk 25 13, anon124.mk 11 11,
                                  anon124.mk 19 11].getD
                              11 d_anon124).e,
                          ([anon124.mk 0 0, anon124.mk 23 3, anon124.mk 21 6, anon124.mk 22 7,
                                  anon124.mk 3 7, anon124.mk 17 7, anon124.mk 10 4, anon124.mk 9 5,
                                  anon124.mk 20 8, anon124.mk 24 9, anon124.mk 25 13, anon124.mk 11 11,
                                  anon124.mk 19 11].getD
                              12 d_anon124).e].getD
                      i2.toNat 0 ==
                    e)
                  (.ret
                    (.inl
                      ([([anon124.mk 0 0, anon124.mk 23 3, anon124.mk 21 6, anon124.mk 22 7,
                                    anon124.mk 3 7, anon124.mk 17 7, anon124.mk 10 4, anon124.mk 9 5,
                                    anon124.mk 20 8, anon124.mk 24 9, anon124.mk 25 13, anon124.mk 11 11,
                                    anon124.mk 19 11].getD
                                0 d_anon124).code,
                            ([anon124.mk 0 0, anon124.mk 23 3, anon124.mk 21 6, anon124.mk 22 7,
                                    anon124.mk 3 7, anon124.mk 17 7, anon124.mk 10 4, anon124.mk 9 5,
                                    anon124.mk 20 8, anon124.mk 24 9, anon124.mk 25 13, anon124.mk 11 11,
                                    anon124.mk 19 11].getD
                                1 d_anon124).code,
                            ([anon124.mk 0 0, anon124.mk 23 3, anon124.mk 21 6, anon124.mk 22 7,
                                    anon124.mk 3 7, anon124.mk 17 7, anon124.mk 10 4, anon124.mk 9 5,
                                    anon124.mk 20 8, anon124.mk 24 9, anon124.mk 25 13, anon124.mk 11 11,
                                    anon124.mk 19 11].getD
                                2 d_anon124).code,
                            ([anon124.mk 0 0, anon124.mk 23 3, anon124.mk 21 6, anon124.mk 22 7,
                                    anon124.mk 3 7, anon124.mk 17 7, anon124.mk 10 4, anon124.mk 9 5,
                                    anon124.mk 20 8, anon124.mk 24 9, anon124.mk 25 13, anon124.mk 11 11,
                                    anon124.mk 19 11].getD
                                3 d_anon124).code,
                            ([anon124.mk 0 0, anon124.mk 23 3, anon124.mk 21 6, anon124.mk 22 7,
                                    anon124.mk 3 7, anon124.mk 17 7, anon124.mk 10 4, anon124.mk 9 5,
                                    anon124.mk 20 8, anon124.mk 24 9, anon124.mk 25 13, anon124.mk 11 11,
                                    anon124.mk 19 11].getD
                                4 d_anon124).code,
                            ([anon124.mk 0 0, anon124.mk 23 3, anon124.mk 21 6, anon124.mk 22 7,
                                    anon124.mk 3 7, anon124.mk 17 7, anon124.mk 10 4, anon124.mk 9 5,
                                    anon124.mk 20 8, anon124.mk 24 9, anon124.mk 25 13, anon124.mk 11 11,
                                    anon124.mk 19 11].getD
                                5 d_anon124).code,
                            ([anon124.mk 0 0, anon124.mk 23 3, anon124.mk 21 6, anon124.mk 22 7,
                                    anon124.mk 3 7, anon124.mk 17 7, anon124.mk 10 4, anon124.mk 9 5,
                                    anon124.mk 20 8, anon124.mk 24 9, anon124.mk 25 13, anon124.mk 11 11,
                                    anon124.mk 19 11].getD
                                6 d_anon124).code,
                            ([anon124.mk 0 0, anon124.mk 23 3, anon124.mk 21 6, anon124.mk 22 7,
                                    anon124.mk 3 7, anon124.mk 17 7, anon124.mk 10 4, anon124.mk 9 5,
                                    anon124.mk 20 8, anon124.mk 24 9, anon124.mk 25 13, anon124.mk 11 11,
                                    anon124.mk 19 11].getD
                                7 d_anon124).code,
                            ([anon124.mk 0 0, anon124.mk 23 3, anon124.mk 21 6, anon124.mk 22 7,
                                    anon124.mk 3 7, anon124.mk 17 7, anon124.mk 10 4, anon124.mk 9 5,
                                    anon124.mk 20 8, anon124.mk 24 9, anon124.mk 25 13, anon124.mk 11 11,
                                    anon124.mk 19 11].getD
                                8 d_anon124).code,
                            ([anon124.mk 0 0, anon124.mk 23 3, anon124.mk 21 6, anon124.mk 22 7,
                                    anon124.mk 3 7, anon124.mk 17 7, anon124.mk 10 4, anon124.mk 9 5,
                                    anon124.mk 20 8, anon124.mk 24 9, anon124.mk 25 13, anon124.mk 11 11,
                                    anon124.mk 19 11].getD
                                9 d_anon124).code,
                            ([anon124.mk 0 0, anon124.mk 23 3, anon124.mk 21 6, anon124.mk 22 7,
                                    anon124.mk 3 7, anon124.mk 17 7, anon124.mk 10 4, anon124.mk 9 5,
                                    anon124.mk 20 8, anon124.mk 24 9, anon124.mk 25 13, anon124.mk 11 11,
                                    anon124.mk 19 11].getD
                                10 d_anon124).code,
                            ([anon124.mk 0 0, anon124.mk 23 3, anon124.mk 21 6, anon124.mk 22 7,
                                    anon124.mk 3 7, anon124.mk 17 7, anon124.mk 10 4, anon124.mk 9 5,
                                    anon124.mk 20 8, anon124.mk 24 9, anon124.mk 25 13, anon124.mk 11 11,
                                    anon124.mk 19 11].getD
                                11 d_anon124).code,
                            ([anon124.mk 0 0, anon124.mk 23 3, anon124.mk 21 6, anon124.mk 22 7,
                                    anon124.mk 3 7, anon124.mk 17 7, anon124.mk 10 4, anon124.mk 9 5,
                                    anon124.mk 20 8, anon124.mk 24 9, anon124.mk 25 13, anon124.mk 11 11,
                                    anon124.mk 19 11].getD
                                12 d_anon124).code].getD
                        i2.toNat 0)))
                  (.ret (.inl y3))))
            (fun (i2 y3 : Int) => .ret (.inl y3)) y1)))
    (.br (decide (0 < e)) (.br (decide (e ≤ 25)) (.ret (.inl 2)) (.ret (.inl 11))) (.ret (.inl 11)))
noncomputable def stOfP (e : Int) : Status := (stOf e).val

theorem stOf_is (e : Int) : Is (stOf e) :=
  is_cut (is_brd (fun _ => is_brd (fun _ => is_ret) (fun _ => is_ret)) (fun _ => is_ret)) (fun y1 hy1 => is_cut (is_ob (by omega) (is_cnt (by omega) (by omega) (fun i2 y3 _ _ => is_ob (by omega) (is_beq (fun _ => is_ret) (fun _ => is_ret))) (fun i2 y3 _ _ => is_ret))) (fun y4 hy4 => is_beq (fun _ => is_ret) (fun _ => is_ret)))
noncomputable def e_stOf : Ent Z := entN Z [e_errText] [jS 5 (shp (fun sl => [.slot 13 false [none], .slot 3 false [none]]) (lCons (cInt .i64) (l1 (cInt .i64)))), jS 100004 (shp (fun sl => [.slot 3 false [none]]) (l1 (cInt .i64))), jS 100010 (shp (fun sl => [.slot 3 false [none]]) (l1 (cInt .i64)))] (args (a1 (aLf (cInt .i64)))) (argsI (n := 30) rfl) (shr [.slot 0 true [none, none]] (l1 cd_Status)) [] Tryz.func30 Tryz.ntmps30 (by kernel_rfl) 1 rfl (fun a => stOf a) (fun a => none) (fun a e _ => by kernel_rfl) (fun a => stOfP a) (fun a h => ⟨stOf_is a, rfl⟩)

noncomputable def rstOf (e : Int) : Pg Status :=
  .br (e == 0) (.ret (Status.mk 0 []))
    (.lt (errTextP e) fun (v2 : Str) =>
      .br (e == 23) (.ret (Status.mk 3 v2))
        (.br (e == 21) (.ret (Status.mk 6 v2))
          (.cut
            (fun (y1 : Bool) =>
              .br y1 (.ret (Status.mk 7 v2))
                (.br (e == 10) (.ret (Status.mk 4 v2))
                  (.br (e == 9) (.ret (Status.mk 5 v2))
                    (.br (e == 20) (.ret (Status.mk 8 v2))
                      (.br (e == 24) (.ret (Status.mk 9 v2))
                        (.br (e == 1)
                          (.br (e == 1) (.ret (Status.mk 2 v2)) (.br (e == 25) (.ret (Status.mk 13 v2)) (.ret (Status.mk 11 v2))))
                          (.br (e == 2)
                            (.br (e == 2) (.ret (Status.mk 2 v2)) (.br (e == 25) (.ret (Status.mk 13 v2)) (.ret (Status.mk 11 v2))))
                            (.br (e == 4)
                              (.br (e == 4) (.ret (Status.mk 2 v2))
                                (.br (e == 25) (.ret (Status.mk 13 v2)) (.ret (Status.mk 11 v2))))
                              (.br (e == 5)
                                (.br (e == 5) (.ret (Status.mk 2 v2))
                                  (.br (e == 25) (.ret (Status.mk 13 v2)) (.ret (Status.mk 11 v2))))
                                (.br (e == 6)
                                  (.br (e == 6) (.ret (Status.mk 2 v2))
                                    (.br (e == 25) (.ret (Status.mk 13 v2)) (.ret (Status.mk 11 v2))))
                                  (.br (e == 7)
                                    (.br (e == 7) (.ret (Status.mk 2 v2))
                                      (.br (e == 25) (.ret (Status.mk 13 v2)) (.ret (Status.mk 11 v2))))
                                    (.br (e == 8)
                                      (.br (e == 8) (.ret (Status.mk 2 v2))
                                        (.br (e == 25) (.ret (Status.mk 13 v2)) (.ret (Status.mk 11 v2))))
                                      (.br (e == 12)
                                        (.br (e == 12) (.ret (Status.mk 2 v2))
                                          (.br (e == 25) (.ret (Status.mk 13 v2)) (.ret (Status.mk 11 v2))))
                                        (.br (e == 13)
                                          (.br (e == 13) (.ret (Status.mk 2 v2))
                                            (.br (e == 25) (.ret (Status.mk 13 v2)) (.ret (Status.mk 11 v2))))
                                          (.br (e == 14)
                                            (.br (e == 14) (.ret (Status.mk 2 v2))
                                              (.br (e == 25) (.ret (Status.mk 13 v2)) (.ret (Status.mk 11 v2))))
                                            (.br (e == 15)
                                              (.br (e == 15) (.ret (Status.mk 2 v2))
                                                (.br (e == 25) (.ret (Status.mk 13 v2)) (.ret (Status.mk 11 v2))))
                                              (.br (e == 16)
                                                (.br (e == 16) (.ret (Status.mk 2 v2))
                                                  (.br (e == 25) (.ret (Status.mk 13 v2)) (.ret (Status.mk 11 v2))))
                                                (.br (e == 18) (.ret (Status.mk 2 v2))
                                                  (.br (e == 25) (.ret (Status.mk 13 v2)) (.ret (Status.mk 11 v2)))))))))))))))))))))
            (.br (e == 22) (.ret (.inl (e == 22))) (.br (e == 3) (.ret (.inl (e == 3))) (.ret (.inl (e == 17))))))))
noncomputable def rstOfP (e : Int) : Status := (rstOf e).val

theorem rstOf_is (e : Int) : Is (rstOf e) :=
  is_beq (fun _ => is_ret) (fun _ => is_lt fun v2 hv2 => is_beq (fun _ => is_ret) (fun _ => is_beq (fun _ => is_ret) (fun _ => is_cut (is_beq (fun _ => is_ret) (fun _ => is_beq (fun _ => is_ret) (fun _ => is_ret))) (fun y1 hy1 => is_br (fun _ => is_ret) (fun _ => is_beq (fun _ => is_ret) (fun _ => is_beq (fun _ => is_ret) (fun _ => is_beq (fun _ => is_ret) (fun _ => is_beq (fun _ => is_ret) (fun _ => is_beq (fun _ => is_beq (fun _ => is_ret) (fun _ => is_beq (fun _ => is_ret) (fun _ => is_ret))) (fun _ => is_beq (fun _ => is_beq (fun _ => is_ret) (fun _ => is_beq (fun _ => is_ret) (fun _ => is_ret))) (fun _ => is_beq (fun _ => is_beq (fun _ => is_ret) (fun _ => is_beq (fun _ => is_ret) (fun _ => is_ret))) (fun _ => is_beq (fun _ => is_beq (fun _ => is_ret) (fun _ => is_beq (fun _ => is_ret) (fun _ => is_ret))) (fun _ => is_beq (fun _ => is_beq (fun _ => is_ret) (fun _ => is_beq (fun _ => is_ret) (fun _ => is_ret))) (fun _ => is_beq (fun _ => is_beq (fun _ => is_ret) (fun _ => is_beq (fun _ => is_ret) (fun _ => is_ret))) (fun _ => is_beq (fun _ => is_beq (fun _ => is_ret) (fun _ => is_beq (fun _ => is_ret) (fun _ => is_ret))) (fun _ => is_beq (fun _ => is_beq (fun _ => is_ret) (fun _ => is_beq (fun _ => is_ret) (fun _ => is_ret))) (fun _ => is_beq (fun _ => is_beq (fun _ => is_ret) (fun _ => is_beq (fun _ => is_ret) (fun _ => is_ret))) (fun _ => is_beq (fun _ => is_beq (fun _ => is_ret) (fun _ => is_beq (fun _ => is_ret) (fun _ => is_ret))) (fun _ => is_beq (fun _ => is_beq (fun _ => is_ret) (fun _ => is_beq (fun _ => is_ret) (fun _ => is_ret))) (fun _ => is_beq (fun _ => is_beq (fun _ => is_ret) (fun _ => is_beq (fun _ => is_ret) (fun _ => is_ret))) (fun _ => is_beq (fun _ => is_ret) (fun _ => is_beq (fun _ => is_ret) (fun _ => is_ret)))))))))))))))))))))))
noncomputable def e_rstOf : Ent Z := entN Z [e_errText] [jS 100012 (shp (fun sl => [.slot 17 false [none]]) (l1 cBool))] (args (a1 (aLf (cInt .i64)))) (argsI (n := 53) rfl) (shr [.slot 0 true [none, none]] (l1 cd_Status)) [] Tryz.func39 Tryz.ntmps39 (by kernel_rfl) 1 rfl (fun a => rstOf a) (fun a => none) (fun a e _ => by kernel_rfl) (fun a => rstOfP a) (fun a h => ⟨rstOf_is a, rfl⟩)

noncomputable def message (l : List Icept) (n : Int) : Pg Status :=
  .as (l.length ≤ 9223372036854775807)
    (.each false ixI l d_Icept
      (fun (i1 : Int) (a3 : Icept) (y2 : Unit) =>
        .ix i1 l.length
          (.lt (actionP a3) fun (v4 : Option Ifc) =>
            .ob (Ifc.ok v4 114 true [Value.int .i64 0] = true)
              (.br (Ifc.is v4 114)
                (.lt (Pv.gI (Ifc.get v4 114 0)) fun (v5 : Int) => .br (decide (v5 < n)) (.ret (.inr (stOfP 3))) (.ret (.inl ())))
                (.ret (.inl ())))))
      (fun (i1 : Int) (y2 : Unit) => .ret (Status.mk 0 [])) ())
noncomputable def messageP (l : List Icept) (n : Int) : Status := (message l n).val

theorem message_is (l : List Icept) (n : Int) : Is (message l n) :=
  is_as fun _ => is_each (.inr (by omega)) (fun i1 y2 _ _ => is_ix (by omega) (by omega) (is_lt fun v4 hv4 => is_ob ((hv4 ▸ (act_ok _).2.2.1)) (is_br (fun _ => is_lt fun v5 hv5 => is_brd (fun _ => is_ret) (fun _ => is_ret)) (fun _ => is_ret)))) (fun y2 _ => is_ret)
noncomputable def e_message : Ent Z := entN Z [e_stOf, e_action] [jS 2 (shp (fun sl => [.slot 11 false [none]]) (l1 (cInt .i64)))] (args (aCons (aLf cd_LIcept) (a1 (aLf (cInt .i64))))) (argsI (n := 31) rfl) (shr [.slot 0 true [none, none]] (l1 cd_Status)) [] Tryz.func27 Tryz.ntmps27 (by kernel_rfl) 1 rfl (fun a => message (a.1) (a.2)) (fun a => none) (fun a e _ => by kernel_rfl) (fun a => messageP (a.1) (a.2)) (fun a h => ⟨message_is (a.1) (a.2), rfl⟩)

noncomputable def meta_ (h : Head) (key : Str) : Pg (List UInt8 × Bool) :=
  .as (h.Metas.length ≤ 9223372036854775807)
    (.each false ixI h.Metas d_Meta
      (fun (i1 : Int) (a3 : AMeta) (y2 : Unit) => .ix i1 h.Metas.length (.br (a3.Key == key) (.ret (.inr (a3.Val, true))) (.ret (.inl ()))))
      (fun (i1 : Int) (y2 : Unit) => .ret ([], false)) ())
noncomputable def meta_P (h : Head) (key : Str) : Str × Bool := (meta_ h key).val

theorem meta__is (h : Head) (key : Str) : Is (meta_ h key) :=
  is_as fun _ => is_each (.inr (by omega)) (fun i1 y2 _ _ => is_ix (by omega) (by omega) (is_br (fun _ => is_ret) (fun _ => is_ret))) (fun y2 _ => is_ret)
noncomputable def e_meta_ : Ent Z := entN Z [] [jS 2 (shp (fun sl => [.slot 11 false [none]]) (l1 (cInt .i64)))] (args (aCons (aAgg cd_Head) (a1 (aLf cStr)))) (argsI (n := 22) rfl) (shr [.slot 0 false [none], .slot 1 false [none]] (lCons cStr (l1 cBool))) [] Tryz.func26 Tryz.ntmps26 (by kernel_rfl) 2 rfl (fun a => meta_ (a.1) (a.2)) (fun a => none) (fun a e _ => by kernel_rfl) (fun a => meta_P (a.1) (a.2)) (fun a h => ⟨meta__is (a.1) (a.2), rfl⟩)

noncomputable def rmeta (h : Head) (key : Str) : Pg (List UInt8 × Bool) :=
  .each true ixI h.Metas d_Meta
    (fun (i1 : Int) (a3 : AMeta) (y2 : Unit) => .ix i1 h.Metas.length (.br (a3.Key == key) (.ix i1 h.Metas.length (.ret (.inr (a3.Val, true)))) (.ret (.inl ()))))
    (fun (i1 : Int) (y2 : Unit) => .ret ([], false)) ()
noncomputable def rmetaP (h : Head) (key : Str) : Str × Bool := (rmeta h key).val

theorem rmeta_is (h : Head) (key : Str) : Is (rmeta h key) :=
  is_each (.inl rfl) (fun i1 y2 _ _ => is_ix (by omega) (by omega) (is_br (fun _ => is_ix (by omega) (by omega) (is_ret)) (fun _ => is_ret))) (fun y2 _ => is_ret)
noncomputable def e_rmeta : Ent Z := entN Z [] [jS 2 (shp (fun sl => [.slot 6 false [none]]) (l1 (cInt .i64)))] (args (aCons (aAgg cd_Head) (a1 (aLf cStr)))) (argsI (n := 28) rfl) (shr [.slot 0 false [none], .slot 1 false [none]] (lCons cStr (l1 cBool))) [] Tryz.func33 Tryz.ntmps33 (by kernel_rfl) 2 rfl (fun a => rmeta (a.1) (a.2)) (fun a => none) (fun a e _ => by kernel_rfl) (fun a => rmetaP (a.1) (a.2)) (fun a h => ⟨rmeta_is (a.1) (a.2), rfl⟩)

noncomputable def rkey (s : Str) : Pg Bool :=
  .br (decide ((↑(List.length s) : Int) < 1)) (.ret false)
    (.br (decide (40 < (↑(List.length s) : Int))) (.ret false)
      (.each true ixI s 0
        (fun (i1 : Int) (a3 : UInt8) (y2 : Unit) =>
          .ix i1 (List.length s)
            (.br (decide ((↑a3.toNat : Int) < 97))
              (.ix i1 (List.length s)
                (.br (decide ((↑a3.toNat : Int) < 48)) (.ix i1 (List.length s) (.br ((↑a3.toNat : Int) != 45) (.ret (.inr false)) (.ret (.inl ()))))
                  (.ix i1 (List.length s)
                    (.br (decide (57 < (↑a3.toNat : Int)))
                      (.ix i1 (List.length s) (.br ((↑a3.toNat : Int) != 45) (.ret (.inr false)) (.ret (.inl ())))) (.ret (.inl ()))))))
              (.ix i1 (List.length s)
                (.br (decide (122 < (↑a3.toNat : Int)))
                  (.ix i1 (List.length s)
                    (.br (decide ((↑a3.toNat : Int) < 48))
                      (.ix i1 (List.length s) (.br ((↑a3.toNat : Int) != 45) (.ret (.inr false)) (.ret (.inl ()))))
                      (.ix i1 (List.length s)
                        (.br (decide (57 < (↑a3.toNat : Int)))
                          (.ix i1 (List.length s) (.br ((↑a3.toNat : Int) != 45) (.ret (.inr false)) (.ret (.inl ())))) (.ret (.inl ()))))))
                  (.ret (.inl ()))))))
        (fun (i1 : Int) (y2 : Unit) => .ret true) ()))
noncomputable def rkeyP (s : Str) : Bool := (rkey s).val

theorem rkey_is (s : Str) : Is (rkey s) :=
  is_brd (fun _ => is_ret) (fun _ => is_brd (fun _ => is_ret) (fun _ => is_each (.inl rfl) (fun i1 y2 _ _ => is_ix (by omega) (by omega) (is_brd (fun _ => is_ix (by omega) (by omega) (is_brd (fun _ => is_ix (by omega) (by omega) (is_bne (fun _ => is_ret) (fun _ => is_ret))) (fun _ => is_ix (by omega) (by omega) (is_brd (fun _ => is_ix (by omega) (by omega) (is_bne (fun _ => is_ret) (fun _ => is_ret))) (fun _ => is_ret))))) (fun _ => is_ix (by omega) (by omega) (is_brd (fun _ => is_ix (by omega) (by omega) (is_brd (fun _ => is_ix (by omega) (by omega) (is_bne (fun _ => is_ret) (fun _ => is_ret))) (fun _ => is_ix (by omega) (by omega) (is_brd (fun _ => is_ix (by omega) (by omega) (is_bne (fun _ => is_ret) (fun _ => is_ret))) (fun _ => is_ret))))) (fun _ => is_ret))))) (fun y2 _ => is_ret)))
noncomputable def e_rkey : Ent Z := entN Z [] [jS 4 (shp (fun sl => [.slot 3 false [none]]) (l1 (cInt .i64)))] (args (a1 (aLf cStr))) (argsI (n := 46) rfl) (shr [.slot 0 false [none]] (l1 cBool)) [] Tryz.func93 Tryz.ntmps93 (by kernel_rfl) 1 rfl (fun a => rkey a) (fun a => none) (fun a e _ => by kernel_rfl) (fun a => rkeyP a) (fun a h => ⟨rkey_is a, rfl⟩)

noncomputable def sameHead (a : Head) (b : Head) : Pg Bool :=
  .br (a.Service != b.Service) (.ret false)
    (.br (a.Method != b.Method) (.ret false)
      (.br (a.Deadline != b.Deadline) (.ret false)
        (.as (a.Metas.length ≤ 9223372036854775807)
          (.as (b.Metas.length ≤ 9223372036854775807)
            (.br ((↑a.Metas.length : Int) != (↑b.Metas.length : Int)) (.ret false)
              (.each true ixI a.Metas d_Meta
                (fun (i1 : Int) (a3 : AMeta) (y2 : Unit) =>
                  .ix i1 a.Metas.length
                    (.ix i1 b.Metas.length
                      (.br (a3.Key != (b.Metas.getD i1.toNat d_Meta).Key) (.ret (.inr false))
                        (.ix i1 a.Metas.length (.ix i1 b.Metas.length (.br (a3.Val != (b.Metas.getD i1.toNat d_Meta).Val) (.ret (.inr false)) (.ret (.inl ()))))))))
                (fun (i1 : Int) (y2 : Unit) => .ret true) ()))))))
noncomputable def sameHeadP (a : Head) (b : Head) : Bool := (sameHead a b).val

theorem sameHead_is (a : Head) (b : Head) : Is (sameHead a b) :=
  is_br (fun _ => is_ret) (fun _ => is_br (fun _ => is_ret) (fun _ => is_bne (fun _ => is_ret) (fun _ => is_as fun _ => is_as fun _ => is_bne (fun _ => is_ret) (fun _ => is_each (.inl rfl) (fun i1 y2 _ _ => is_ix (by omega) (by omega) (is_ix (by omega) (by omega) (is_br (fun _ => is_ret) (fun _ => is_ix (by omega) (by omega) (is_ix (by omega) (by omega) (is_br (fun _ => is_ret) (fun _ => is_ret))))))) (fun y2 _ => is_ret)))))
noncomputable def e_sameHead : Ent Z := entN Z [] [jS 4 (shp (fun sl => [.slot 5 false [none]]) (l1 (cInt .i64)))] (args (aCons (aAgg cd_Head) (a1 (aAgg cd_Head)))) (argsI (n := 69) rfl) (shr [.slot 0 false [none]] (l1 cBool)) [] Tryz.func11 Tryz.ntmps11 (by kernel_rfl) 1 rfl (fun a => sameHead (a.1) (a.2)) (fun a => none) (fun a e _ => by kernel_rfl) (fun a => sameHeadP (a.1) (a.2)) (fun a h => ⟨sameHead_is (a.1) (a.2), rfl⟩)

noncomputable def path (s : Str) (m : Str) : Pg (List UInt8) :=
  .ob (List.length s + 1 ≤ 9223372036854775807)
    (.lt (s ++ [47]) fun (v1 : List UInt8) => .ob (v1.length + List.length m ≤ 9223372036854775807) (.ret (v1 ++ m)))
noncomputable def pathP (s : Str) (m : Str) : Str := (path s m).val

theorem path_is (s : Str) (m : Str) (h : s.length + m.length ≤ 1000000) : Is (path s m) :=
  is_ob (by (try subst_vars); (try simp only [List.length_append, List.length_cons, List.length_nil]); omega) (is_lt fun v1 hv1 => is_ob (by (try subst_vars); (try simp only [List.length_append, List.length_cons, List.length_nil]); omega) (is_ret))
noncomputable def e_path : Ent Z := entN Z [] [] (args (aCons (aLf cStr) (a1 (aLf cStr)))) (argsI (n := 9) rfl) (shr [.slot 0 false [none]] (l1 cStr)) [] Tryz.func32 Tryz.ntmps32 (by kernel_rfl) 1 rfl (fun a => path (a.1) (a.2)) (fun a => some ((a.1).length + (a.2).length ≤ 1000000)) (fun a e _ => by kernel_rfl) (fun a => pathP (a.1) (a.2)) (fun a h => ⟨path_is (a.1) (a.2) h, rfl⟩)

noncomputable def earlier (a : Int) (b : Int) : Pg Int :=
  .br (decide (a < 1))
    (.br (decide (b < 1)) (.ret 0) (.br (decide (a < 1)) (.ret b) (.br (decide (b < 1)) (.ret a) (.ret (min a b)))))
    (.br (decide (a < 1)) (.ret b) (.br (decide (b < 1)) (.ret a) (.ret (min a b))))
noncomputable def earlierP (a : Int) (b : Int) : Int := (earlier a b).val

theorem earlier_is (a : Int) (b : Int) : Is (earlier a b) :=
  is_brd (fun _ => is_brd (fun _ => is_ret) (fun _ => is_brd (fun _ => is_ret) (fun _ => is_brd (fun _ => is_ret) (fun _ => is_ret)))) (fun _ => is_brd (fun _ => is_ret) (fun _ => is_brd (fun _ => is_ret) (fun _ => is_ret)))
noncomputable def e_earlier : Ent Z := entN Z [] [] (args (aCons (aLf (cInt .i64)) (a1 (aLf (cInt .i64))))) (argsI (n := 23) rfl) (shr [.slot 0 false [none]] (l1 (cInt .i64))) [] Tryz.func65 Tryz.ntmps65 (by kernel_rfl) 1 rfl (fun a => earlier (a.1) (a.2)) (fun a => none) (fun a e _ => by kernel_rfl) (fun a => earlierP (a.1) (a.2)) (fun a h => ⟨earlier_is (a.1) (a.2), rfl⟩)

noncomputable def after (a : Int) (b : Int) : Pg Int :=
  .ret (min (wrp .i64 (min (max a 0) 1099511627776 + min (max b 0) 1099511627776)) 1099511627776)
noncomputable def afterP (a : Int) (b : Int) : Int := (after a b).val

theorem after_is (a : Int) (b : Int) : Is (after a b) :=
  is_ret
noncomputable def e_after : Ent Z := entN Z [] [] (args (aCons (aLf (cInt .i64)) (a1 (aLf (cInt .i64))))) (argsI (n := 15) rfl) (shr [.slot 0 false [none]] (l1 (cInt .i64))) [] Tryz.func66 Tryz.ntmps66 (by kernel_rfl) 1 rfl (fun a => after (a.1) (a.2)) (fun a => none) (fun a e _ => by kernel_rfl) (fun a => afterP (a.1) (a.2)) (fun a h => ⟨after_is (a.1) (a.2), rfl⟩)
end Go.Proofs.YtemjcccdcnhmhaaGreatDoor
