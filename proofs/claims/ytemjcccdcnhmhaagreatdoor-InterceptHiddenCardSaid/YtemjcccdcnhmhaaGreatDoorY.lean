/-
  Intercept: the reference's check of values.
-/
import Derived.Test.YtemjcccdcnhmhaaGreatDoorW
import Derived.Test.YtemjcccdcnhmhaaGreatDoorF
namespace Go.Proofs.YtemjcccdcnhmhaaGreatDoor
open Go.RowKit Go.Vc
set_option linter.unusedVariables false
set_option linter.unusedSimpArgs false
set_option maxRecDepth 100000

noncomputable def c17other (v : AVal) : Pg Bool :=
  .cut
    (fun (y1 : Unit) =>
      .br (v.Kind == 7)
        (.cut (fun (y2 : Unit) => .br (v.Bits != 0) (.ret true) (.ret false)) (.br (v.Text != []) (.ret (.inl ())) (.ret (.inl ()))))
        (.cut
          (fun (y3 : Unit) =>
            .br (v.Bits != 0)
              (.br (v.Kind == 8) (.ret true) (.br (v.Kind == 11) (.ret true) (.br (v.Kind == 12) (.ret true) (.ret (v.Kind == 10)))))
              (.ret false))
          (.br (v.Text != []) (.br (!v.Kind == 8) (.ret (.inr true)) (.ret (.inl ()))) (.ret (.inl ())))))
    (.br (decide (0 < (↑v.List.length : Int)))
      (.br (v.Kind != 11) (.ret (.inr true))
        (.br (decide (0 < (↑v.Pairs.length : Int)))
          (.br (v.Kind != 12) (.ret (.inr true))
            (.br (decide (0 < (↑v.Slots.length : Int)))
              (.br (v.Kind != 10) (.ret (.inr true))
                (.br (decide (0 < (↑v.Raws.length : Int))) (.br (v.Kind != 10) (.ret (.inr true)) (.ret (.inl ()))) (.ret (.inl ()))))
              (.br (decide (0 < (↑v.Raws.length : Int))) (.br (v.Kind != 10) (.ret (.inr true)) (.ret (.inl ()))) (.ret (.inl ())))))
          (.br (decide (0 < (↑v.Slots.length : Int)))
            (.br (v.Kind != 10) (.ret (.inr true))
              (.br (decide (0 < (↑v.Raws.length : Int))) (.br (v.Kind != 10) (.ret (.inr true)) (.ret (.inl ()))) (.ret (.inl ()))))
            (.br (decide (0 < (↑v.Raws.length : Int))) (.br (v.Kind != 10) (.ret (.inr true)) (.ret (.inl ()))) (.ret (.inl ()))))))
      (.br (decide (0 < (↑v.Pairs.length : Int)))
        (.br (v.Kind != 12) (.ret (.inr true))
          (.br (decide (0 < (↑v.Slots.length : Int)))
            (.br (v.Kind != 10) (.ret (.inr true))
              (.br (decide (0 < (↑v.Raws.length : Int))) (.br (v.Kind != 10) (.ret (.inr true)) (.ret (.inl ()))) (.ret (.inl ()))))
            (.br (decide (0 < (↑v.Raws.length : Int))) (.br (v.Kind != 10) (.ret (.inr true)) (.ret (.inl ()))) (.ret (.inl ())))))
        (.br (decide (0 < (↑v.Slots.length : Int)))
          (.br (v.Kind != 10) (.ret (.inr true))
            (.br (decide (0 < (↑v.Raws.length : Int))) (.br (v.Kind != 10) (.ret (.inr true)) (.ret (.inl ()))) (.ret (.inl ()))))
          (.br (decide (0 < (↑v.Raws.length : Int))) (.br (v.Kind != 10) (.ret (.inr true)) (.ret (.inl ()))) (.ret (.inl ()))))))
noncomputable def c17otherP (v : AVal) : Bool := (c17other v).val

theorem c17other_is (v : AVal) : Is (c17other v) :=
  is_cut (is_brd (fun _ => is_bne (fun _ => is_ret) (fun _ => is_brd (fun _ => is_bne (fun _ => is_ret) (fun _ => is_brd (fun _ => is_bne (fun _ => is_ret) (fun _ => is_brd (fun _ => is_bne (fun _ => is_ret) (fun _ => is_ret)) (fun _ => is_ret))) (fun _ => is_brd (fun _ => is_bne (fun _ => is_ret) (fun _ => is_ret)) (fun _ => is_ret)))) (fun _ => is_brd (fun _ => is_bne (fun _ => is_ret) (fun _ => is_brd (fun _ => is_bne (fun _ => is_ret) (fun _ => is_ret)) (fun _ => is_ret))) (fun _ => is_brd (fun _ => is_bne (fun _ => is_ret) (fun _ => is_ret)) (fun _ => is_ret))))) (fun _ => is_brd (fun _ => is_bne (fun _ => is_ret) (fun _ => is_brd (fun _ => is_bne (fun _ => is_ret) (fun _ => is_brd (fun _ => is_bne (fun _ => is_ret) (fun _ => is_ret)) (fun _ => is_ret))) (fun _ => is_brd (fun _ => is_bne (fun _ => is_ret) (fun _ => is_ret)) (fun _ => is_ret)))) (fun _ => is_brd (fun _ => is_bne (fun _ => is_ret) (fun _ => is_brd (fun _ => is_bne (fun _ => is_ret) (fun _ => is_ret)) (fun _ => is_ret))) (fun _ => is_brd (fun _ => is_bne (fun _ => is_ret) (fun _ => is_ret)) (fun _ => is_ret))))) (fun y1 hy1 => is_beq (fun _ => is_cut (is_br (fun _ => is_ret) (fun _ => is_ret)) (fun y2 hy2 => is_bne (fun _ => is_ret) (fun _ => is_ret))) (fun _ => is_cut (is_br (fun _ => is_br (fun _ => is_ret) (fun _ => is_ret)) (fun _ => is_ret)) (fun y3 hy3 => is_bne (fun _ => is_beq (fun _ => is_ret) (fun _ => is_beq (fun _ => is_ret) (fun _ => is_beq (fun _ => is_ret) (fun _ => is_ret)))) (fun _ => is_ret))))
noncomputable def e_c17other : Ent Z := entN Z [] [jS 100003 (shp (fun sl => []) l0), jS 100006 (shp (fun sl => []) l0)] (args (a1 (aAgg cd_AVal))) (argsI (n := 82) rfl) (shr [.slot 0 false [none]] (l1 cBool)) [] Tryz.func115 Tryz.ntmps115 (by kernel_rfl) 1 rfl (fun a => c17other a) (fun a => none) (fun a e _ => by kernel_rfl) (fun a => c17otherP a) (fun a h => ⟨c17other_is a, rfl⟩)

noncomputable def c17scalar (k : Int) (v : AVal) : Pg Int :=
  .br (v.Kind != k) (.ret 12)
    (.br (c17otherP v.re) (.ret 12)
      (.br (decide (4096 < (↑(List.length v.Text) : Int))) (.ret 3)
        (.br (!r4fitsP k v.re) (.br (k == 7) (.ret 7) (.ret 12)) (.ret 0))))
noncomputable def c17scalarP (k : Int) (v : AVal) : Int := (c17scalar k v).val

theorem c17scalar_is (k : Int) (v : AVal) : Is (c17scalar k v) :=
  is_bne (fun _ => is_ret) (fun _ => is_br (fun _ => is_ret) (fun _ => is_brd (fun _ => is_ret) (fun _ => is_br (fun _ => is_beq (fun _ => is_ret) (fun _ => is_ret)) (fun _ => is_ret))))
noncomputable def e_c17scalar : Ent Z := entN Z [e_c17other, e_r4fits] [] (args (aCons (aLf (cInt .i64)) (a1 (aAgg cd_AVal)))) (argsI (n := 23) rfl) (shr [.slot 0 false [none]] (l1 (cInt .i64))) [] Tryz.func162 Tryz.ntmps162 (by kernel_rfl) 1 rfl (fun a => c17scalar (a.1) (a.2)) (fun a => none) (fun a e _ => by kernel_rfl) (fun a => c17scalarP (a.1) (a.2)) (fun a h => ⟨c17scalar_is (a.1) (a.2), rfl⟩)

noncomputable def c17item (e : Enum) (bits : Int) : Pg Bool :=
  .each true ixI e.Items d_Item
    (fun (i1 : Int) (a3 : Item) (y2 : Unit) =>
      .ix i1 e.Items.length
        (.br (decide (0 ≤ a3.Num))
          (.ix i1 e.Items.length (.lt (wrp .u64 a3.Num) fun (v4 : Int) => .br (v4 == bits) (.ret (.inr true)) (.ret (.inl ())))) (.ret (.inl ()))))
    (fun (i1 : Int) (y2 : Unit) => .ret false) ()
noncomputable def c17itemP (e : Enum) (bits : Int) : Bool := (c17item e bits).val

theorem c17item_is (e : Enum) (bits : Int) : Is (c17item e bits) :=
  is_each (.inl rfl) (fun i1 y2 _ _ => is_ix (by omega) (by omega) (is_brd (fun _ => is_ix (by omega) (by omega) (is_lt fun v4 hv4 => is_beq (fun _ => is_ret) (fun _ => is_ret))) (fun _ => is_ret))) (fun y2 _ => is_ret)
noncomputable def e_c17item : Ent Z := entN Z [] [jS 2 (shp (fun sl => [.slot 5 false [none]]) (l1 (cInt .i64)))] (args (aCons (aAgg cd_Enum) (a1 (aLf (cInt .u64))))) (argsI (n := 31) rfl) (shr [.slot 0 false [none]] (l1 cBool)) [] Tryz.func140 Tryz.ntmps140 (by kernel_rfl) 1 rfl (fun a => c17item (a.1) (a.2)) (fun a => none) (fun a e _ => by kernel_rfl) (fun a => c17itemP (a.1) (a.2)) (fun a h => ⟨c17item_is (a.1) (a.2), rfl⟩)

noncomputable def c17set (v : AVal) (num : Int) : Pg Bool :=
  .each true ixI v.Slots d_Slot (fun (i1 : Int) (a3 : Slot) (y2 : Unit) => .ix i1 v.Slots.length (.br (a3.Num == num) (.ret (.inr true)) (.ret (.inl ()))))
    (fun (i1 : Int) (y2 : Unit) => .ret false) ()
noncomputable def c17setP (v : AVal) (num : Int) : Bool := (c17set v num).val

theorem c17set_is (v : AVal) (num : Int) : Is (c17set v num) :=
  is_each (.inl rfl) (fun i1 y2 _ _ => is_ix (by omega) (by omega) (is_beq (fun _ => is_ret) (fun _ => is_ret))) (fun y2 _ => is_ret)
noncomputable def e_c17set : Ent Z := entN Z [] [jS 2 (shp (fun sl => [.slot 5 false [none]]) (l1 (cInt .i64)))] (args (aCons (aAgg cd_AVal) (a1 (aLf (cInt .i64))))) (argsI (n := 21) rfl) (shr [.slot 0 false [none]] (l1 cBool)) [] Tryz.func117 Tryz.ntmps117 (by kernel_rfl) 1 rfl (fun a => c17set (a.1) (a.2)) (fun a => none) (fun a e _ => by kernel_rfl) (fun a => c17setP (a.1) (a.2)) (fun a h => ⟨c17set_is (a.1) (a.2), rfl⟩)

noncomputable def c17raw (s : Schema) (m : Message) (x : Raw) : Pg Int :=
  .cut
    (fun (y1 : Bool) =>
      .br (decide (x.Num < 1)) (.ret 1)
        (.br (decide (65535 < x.Num)) (.ret 1)
          (.br (decide (x.Wire < 0)) (.ret 1)
            (.br (decide (6 < x.Wire)) (.ret 1)
              (.lt (c17itemP (r14enumP s (r14fldP m x.Num).fst.Type_.Name).fst x.Bits) fun (v6 : Bool) =>
                .lt (r14enumP s (r14fldP m x.Num).fst.Type_.Name) fun (v7 : Enum × Bool) =>
                  .lt (r14fldP m x.Num) fun (v8 : AField × Bool) =>
                    .br y1
                      (.br (x.Data != []) (.ret 1)
                        (.br (!y1)
                          (.br (x.Bits != 0) (.ret 1)
                            (.cut
                              (fun (y2 : Unit) =>
                                .br (x.Wire == 3)
                                  (.br (decide (4096 < (↑(List.length x.Data) : Int))) (.ret 3)
                                    (.br (decide (65536 < (↑(List.length x.Data) : Int))) (.ret 3) (.ret 0)))
                                  (.br (decide (65536 < (↑(List.length x.Data) : Int))) (.ret 3) (.ret 0)))
                              (.br v8.snd
                                (.br (v8.fst.Type_.Kind != 9) (.ret (.inr 1))
                                  (.br (!v7.snd) (.ret (.inr 1))
                                    (.br v7.fst.Open (.ret (.inr 1))
                                      (.br (v8.fst.Card == 5) (.ret (.inr 1))
                                        (.br (x.Wire != 0) (.ret (.inr 1))
                                          (.br (decide (2147483648 ≤ x.Bits)) (.ret (.inr 1))
                                            (.br v6 (.ret (.inr 1)) (.ret (.inl ())))))))))
                                (.ret (.inl ())))))
                          (.cut
                            (fun (y3 : Unit) =>
                              .br (x.Wire == 3)
                                (.br (decide (4096 < (↑(List.length x.Data) : Int))) (.ret 3)
                                  (.br (decide (65536 < (↑(List.length x.Data) : Int))) (.ret 3) (.ret 0)))
                                (.br (decide (65536 < (↑(List.length x.Data) : Int))) (.ret 3) (.ret 0)))
                            (.br v8.snd
                              (.br (v8.fst.Type_.Kind != 9) (.ret (.inr 1))
                                (.br (!v7.snd) (.ret (.inr 1))
                                  (.br v7.fst.Open (.ret (.inr 1))
                                    (.br (v8.fst.Card == 5) (.ret (.inr 1))
                                      (.br (x.Wire != 0) (.ret (.inr 1))
                                        (.br (decide (2147483648 ≤ x.Bits)) (.ret (.inr 1)) (.br v6 (.ret (.inr 1)) (.ret (.inl ())))))))))
                              (.ret (.inl ()))))))
                      (.br (!y1)
                        (.br (x.Bits != 0) (.ret 1)
                          (.cut
                            (fun (y4 : Unit) =>
                              .br (x.Wire == 3)
                                (.br (decide (4096 < (↑(List.length x.Data) : Int))) (.ret 3)
                                  (.br (decide (65536 < (↑(List.length x.Data) : Int))) (.ret 3) (.ret 0)))
                                (.br (decide (65536 < (↑(List.length x.Data) : Int))) (.ret 3) (.ret 0)))
                            (.br v8.snd
                              (.br (v8.fst.Type_.Kind != 9) (.ret (.inr 1))
                                (.br (!v7.snd) (.ret (.inr 1))
                                  (.br v7.fst.Open (.ret (.inr 1))
                                    (.br (v8.fst.Card == 5) (.ret (.inr 1))
                                      (.br (x.Wire != 0) (.ret (.inr 1))
                                        (.br (decide (2147483648 ≤ x.Bits)) (.ret (.inr 1)) (.br v6 (.ret (.inr 1)) (.ret (.inl ())))))))))
                              (.ret (.inl ())))))
                        (.cut
                          (fun (y5 : Unit) =>
                            .br (x.Wire == 3)
                              (.br (decide (4096 < (↑(List.length x.Data) : Int))) (.ret 3)
                                (.br (decide (65536 < (↑(List.length x.Data) : Int))) (.ret 3) (.ret 0)))
                              (.br (decide (65536 < (↑(List.length x.Data) : Int))) (.ret 3) (.ret 0)))
                          (.br v8.snd
                            (.br (v8.fst.Type_.Kind != 9) (.ret (.inr 1))
                              (.br (!v7.snd) (.ret (.inr 1))
                                (.br v7.fst.Open (.ret (.inr 1))
                                  (.br (v8.fst.Card == 5) (.ret (.inr 1))
                                    (.br (x.Wire != 0) (.ret (.inr 1))
                                      (.br (decide (2147483648 ≤ x.Bits)) (.ret (.inr 1)) (.br v6 (.ret (.inr 1)) (.ret (.inl ())))))))))
                            (.ret (.inl ()))))))))))
    (.br (x.Wire == 0) (.ret (.inl true)) (.br (x.Wire == 1) (.ret (.inl true)) (.ret (.inl (x.Wire == 2)))))
noncomputable def c17rawP (s : Schema) (m : Message) (x : Raw) : Int := (c17raw s m x).val

theorem c17raw_is (s : Schema) (m : Message) (x : Raw) : Is (c17raw s m x) :=
  is_cut (is_beq (fun _ => is_ret) (fun _ => is_beq (fun _ => is_ret) (fun _ => is_ret))) (fun y1 hy1 => is_brd (fun _ => is_ret) (fun _ => is_brd (fun _ => is_ret) (fun _ => is_brd (fun _ => is_ret) (fun _ => is_brd (fun _ => is_ret) (fun _ => is_lt fun v6 hv6 => is_lt fun v7 hv7 => is_lt fun v8 hv8 => is_br (fun _ => is_br (fun _ => is_ret) (fun _ => is_br (fun _ => is_bne (fun _ => is_ret) (fun _ => is_cut (is_br (fun _ => is_bne (fun _ => is_ret) (fun _ => is_br (fun _ => is_ret) (fun _ => is_br (fun _ => is_ret) (fun _ => is_beq (fun _ => is_ret) (fun _ => is_bne (fun _ => is_ret) (fun _ => is_brd (fun _ => is_ret) (fun _ => is_br (fun _ => is_ret) (fun _ => is_ret)))))))) (fun _ => is_ret)) (fun y2 hy2 => is_beq (fun _ => is_brd (fun _ => is_ret) (fun _ => is_brd (fun _ => is_ret) (fun _ => is_ret))) (fun _ => is_brd (fun _ => is_ret) (fun _ => is_ret))))) (fun _ => is_cut (is_br (fun _ => is_bne (fun _ => is_ret) (fun _ => is_br (fun _ => is_ret) (fun _ => is_br (fun _ => is_ret) (fun _ => is_beq (fun _ => is_ret) (fun _ => is_bne (fun _ => is_ret) (fun _ => is_brd (fun _ => is_ret) (fun _ => is_br (fun _ => is_ret) (fun _ => is_ret)))))))) (fun _ => is_ret)) (fun y3 hy3 => is_beq (fun _ => is_brd (fun _ => is_ret) (fun _ => is_brd (fun _ => is_ret) (fun _ => is_ret))) (fun _ => is_brd (fun _ => is_ret) (fun _ => is_ret)))))) (fun _ => is_br (fun _ => is_bne (fun _ => is_ret) (fun _ => is_cut (is_br (fun _ => is_bne (fun _ => is_ret) (fun _ => is_br (fun _ => is_ret) (fun _ => is_br (fun _ => is_ret) (fun _ => is_beq (fun _ => is_ret) (fun _ => is_bne (fun _ => is_ret) (fun _ => is_brd (fun _ => is_ret) (fun _ => is_br (fun _ => is_ret) (fun _ => is_ret)))))))) (fun _ => is_ret)) (fun y4 hy4 => is_beq (fun _ => is_brd (fun _ => is_ret) (fun _ => is_brd (fun _ => is_ret) (fun _ => is_ret))) (fun _ => is_brd (fun _ => is_ret) (fun _ => is_ret))))) (fun _ => is_cut (is_br (fun _ => is_bne (fun _ => is_ret) (fun _ => is_br (fun _ => is_ret) (fun _ => is_br (fun _ => is_ret) (fun _ => is_beq (fun _ => is_ret) (fun _ => is_bne (fun _ => is_ret) (fun _ => is_brd (fun _ => is_ret) (fun _ => is_br (fun _ => is_ret) (fun _ => is_ret)))))))) (fun _ => is_ret)) (fun y5 hy5 => is_beq (fun _ => is_brd (fun _ => is_ret) (fun _ => is_brd (fun _ => is_ret) (fun _ => is_ret))) (fun _ => is_brd (fun _ => is_ret) (fun _ => is_ret))))))))))
noncomputable def e_c17raw : Ent Z := entN Z [e_r14fld, e_r14enum, e_c17item] [jS 100002 (shp (fun sl => [.slot 7 false [none]]) (l1 cBool)), jS 100009 (shp (fun sl => []) l0)] (args (aCons (aAgg cd_Schema) (aCons (aAgg cd_Message) (a1 (aAgg cd_Raw))))) (argsI (n := 124) rfl) (shr [.slot 0 false [none]] (l1 (cInt .i64))) [] Tryz.func118 Tryz.ntmps118 (by kernel_rfl) 1 rfl (fun a => c17raw (a.1) (a.2.1) (a.2.2)) (fun a => none) (fun a e _ => by kernel_rfl) (fun a => c17rawP (a.1) (a.2.1) (a.2.2)) (fun a h => ⟨c17raw_is (a.1) (a.2.1) (a.2.2), rfl⟩)

noncomputable def c17el (c17elR : Schema → AType → AVal → Int → Bool → Int) (c17elQ : Schema → AType → AVal → Int → Bool → Prop) (c17fldR : Schema → AField → AVal → Int → Bool → Int) (c17fldQ : Schema → AField → AVal → Int → Bool → Prop) (c17slotR : Schema → Message → AVal → Int → Int → Bool → Int) (c17slotQ : Schema → Message → AVal → Int → Int → Bool → Prop) (c17msgR : Schema → Message → AVal → Int → Bool → Int) (c17msgQ : Schema → Message → AVal → Int → Bool → Prop) (s : Schema) (t : AType) (v : AVal) (level : Int) (keys : Bool) : Pg Int :=
  .br (t.Kind == 10)
    (.lt (r14msgP s t.Name) fun (v1 : Message × Bool) => .br (!v1.snd) (.ret 10) (.ob (c17msgQ s v1.fst v.re level keys) (.ret (c17msgR s v1.fst v.re level keys))))
    (.br (decide (t.Kind < 1)) (.ret 12)
      (.br (decide (9 < t.Kind)) (.ret 12)
        (.lt (c17scalarP t.Kind v.re) fun (v2 : Int) =>
          .br (v2 != 0) (.ret v2)
            (.br (t.Kind != 9) (.ret v2)
              (.lt (r14enumP s t.Name) fun (v3 : Enum × Bool) =>
                .br (!v3.snd) (.ret 10) (.br (!v3.fst.Open) (.br (!c17itemP v3.fst v.Bits) (.ret 16) (.ret 0)) (.ret 0)))))))
noncomputable def c17fld (c17elR : Schema → AType → AVal → Int → Bool → Int) (c17elQ : Schema → AType → AVal → Int → Bool → Prop) (c17fldR : Schema → AField → AVal → Int → Bool → Int) (c17fldQ : Schema → AField → AVal → Int → Bool → Prop) (c17slotR : Schema → Message → AVal → Int → Int → Bool → Int) (c17slotQ : Schema → Message → AVal → Int → Int → Bool → Prop) (c17msgR : Schema → Message → AVal → Int → Bool → Int) (c17msgQ : Schema → Message → AVal → Int → Bool → Prop) (s : Schema) (f : AField) (v : AVal) (level : Int) (keys : Bool) : Pg Int :=
  .lt (c17otherP v.re) fun (v11 : Bool) =>
    .cut
      (fun (y4 : Unit) =>
        .br (f.Card == 5)
          (.br (v.Kind != 12) (.ret 12)
            (.br v11 (.ret 12)
              (.each true ixI v.Pairs d_Pair
                (fun (i5 : Int) (a10 : Pair) (y6 : Unit) =>
                  .ix i5 v.Pairs.length
                    (.lt (c17scalarP f.Key a10.Key.re) fun (v12 : Int) =>
                      .br (v12 != 0) (.ret (.inr v12))
                        (.cut
                          (fun (y9 : Unit) =>
                            .ix i5 v.Pairs.length
                              (.ob (c17elQ s f.Type_ a10.Val.re level keys)
                                (.br (c17elR s f.Type_ a10.Val.re level keys != 0) (.ret (.inr (c17elR s f.Type_ a10.Val.re level keys))) (.ret (.inl ())))))
                          (.cnt ixI 0 i5
                            (fun (i7 : Int) (y8 : Unit) =>
                              .br keys
                                (.ix i7 v.Pairs.length
                                  (.ix i5 v.Pairs.length
                                    (.br ((v.Pairs.getD i7.toNat d_Pair).Key.Bits == a10.Key.Bits)
                                      (.ix i7 v.Pairs.length
                                        (.ix i5 v.Pairs.length
                                          (.br ((v.Pairs.getD i7.toNat d_Pair).Key.Text == a10.Key.Text) (.ret (.inr (.inr (.inr 9)))) (.ret (.inl ())))))
                                      (.ret (.inl ())))))
                                (.ret (.inr (.inl ()))))
                            (fun (i7 : Int) (y8 : Unit) => .ret (.inl ())) ()))))
                (fun (i5 : Int) (y6 : Unit) => .ret 0) ())))
          (.ob (c17elQ s f.Type_ v.re level keys) (.ret (c17elR s f.Type_ v.re level keys))))
      (.br (f.Card == 4)
        (.br (v.Kind != 11) (.ret (.inr 12))
          (.br v11 (.ret (.inr 12))
            (.each true ixI v.List d_AVal
              (fun (i1 : Int) (a3 : AVal) (y2 : Unit) =>
                .ix i1 v.List.length
                  (.ob (c17elQ s f.Type_ a3.re level keys)
                    (.br (c17elR s f.Type_ a3.re level keys != 0) (.ret (.inr (.inr (c17elR s f.Type_ a3.re level keys)))) (.ret (.inl ())))))
              (fun (i1 : Int) (y2 : Unit) => .ret (.inr 0)) ())))
        (.ret (.inl ())))
noncomputable def c17slot (c17elR : Schema → AType → AVal → Int → Bool → Int) (c17elQ : Schema → AType → AVal → Int → Bool → Prop) (c17fldR : Schema → AField → AVal → Int → Bool → Int) (c17fldQ : Schema → AField → AVal → Int → Bool → Prop) (c17slotR : Schema → Message → AVal → Int → Int → Bool → Int) (c17slotQ : Schema → Message → AVal → Int → Int → Bool → Prop) (c17msgR : Schema → Message → AVal → Int → Bool → Int) (c17msgQ : Schema → Message → AVal → Int → Bool → Prop) (s : Schema) (m : Message) (v : AVal) (at_ : Int) (level : Int) (keys : Bool) : Pg Int :=
  .ix at_ v.Slots.length
    (.lt (r14fldP m (v.Slots.getD at_.toNat d_Slot).Num) fun (v6 : AField × Bool) =>
      .br (!v6.snd) (.ret 8)
        (.cut
          (fun (y3 : Unit) =>
            .cnt ixI 0 at_
              (fun (i4 : Int) (y5 : Unit) =>
                .ix i4 v.Slots.length
                  (.br (v6.fst.Union != []) (.br ((r14fldP m (v.Slots.getD i4.toNat d_Slot).Num).fst.Union == v6.fst.Union) (.ret (.inr 15)) (.ret (.inl ())))
                    (.ret (.inl ()))))
              (fun (i4 : Int) (y5 : Unit) =>
                .ix at_ v.Slots.length
                  (.lt (wrp .i64 (level + 1)) fun (v7 : Int) =>
                    .ob
                      (c17fldQ s (AField.mk v6.fst.Num v6.fst.Name v6.fst.Card v6.fst.Key v6.fst.Type_ v6.fst.Union v6.fst.HasDefault v6.fst.Default.re v6.fst.Notes)
                        (v.Slots.getD at_.toNat d_Slot).Val.re v7 keys)
                      (.ret
                        (c17fldR s (AField.mk v6.fst.Num v6.fst.Name v6.fst.Card v6.fst.Key v6.fst.Type_ v6.fst.Union v6.fst.HasDefault v6.fst.Default.re v6.fst.Notes)
                          (v.Slots.getD at_.toNat d_Slot).Val.re v7 keys))))
              ())
          (.cnt ixI 0 at_
            (fun (i1 : Int) (y2 : Unit) =>
              .ix i1 v.Slots.length (.br ((v.Slots.getD i1.toNat d_Slot).Num == v6.fst.Num) (.ret (.inr (.inr 9))) (.ret (.inl ()))))
            (fun (i1 : Int) (y2 : Unit) => .ret (.inl ())) ())))
noncomputable def c17msg (c17elR : Schema → AType → AVal → Int → Bool → Int) (c17elQ : Schema → AType → AVal → Int → Bool → Prop) (c17fldR : Schema → AField → AVal → Int → Bool → Int) (c17fldQ : Schema → AField → AVal → Int → Bool → Prop) (c17slotR : Schema → Message → AVal → Int → Int → Bool → Int) (c17slotQ : Schema → Message → AVal → Int → Int → Bool → Prop) (c17msgR : Schema → Message → AVal → Int → Bool → Int) (c17msgQ : Schema → Message → AVal → Int → Bool → Prop) (s : Schema) (m : Message) (v : AVal) (level : Int) (keys : Bool) : Pg Int :=
  .br (v.Kind != 10) (.ret 12)
    (.br (c17otherP v.re) (.ret 12)
      (.br (decide (16 < level)) (.ret 17)
        (.cut
          (fun (y3 : Unit) =>
            .cut
              (fun (y7 : Unit) =>
                .each true ixI v.Raws d_Raw
                  (fun (i8 : Int) (a10 : Raw) (y9 : Unit) =>
                    .ix i8 v.Raws.length (.lt (c17rawP s m a10) fun (v11 : Int) => .br (v11 != 0) (.ret (.inr v11)) (.ret (.inl ()))))
                  (fun (i8 : Int) (y9 : Unit) => .ret 0) ())
              (.each true ixI m.Fields d_AField
                (fun (i4 : Int) (a6 : AField) (y5 : Unit) =>
                  .ix i4 m.Fields.length
                    (.br (a6.Card == 1) (.ix i4 m.Fields.length (.br (!c17setP v.re a6.Num) (.ret (.inr (.inr 14))) (.ret (.inl ()))))
                      (.ret (.inl ()))))
                (fun (i4 : Int) (y5 : Unit) => .ret (.inl ())) ()))
          (.cntG [] (some (v.Slots.length ≤ 9223372036854775807)) ixI 0 (↑v.Slots.length : Int)
            (fun (i1 : Int) (y2 : Unit) =>
              .ob (c17slotQ s m v.re i1 level keys)
                (.br (c17slotR s m v.re i1 level keys != 0) (.ret (.inr (.inr (c17slotR s m v.re i1 level keys)))) (.ret (.inl ()))))
            (fun (i1 : Int) (y2 : Unit) => .ret (.inl ())) ()))))

def c17elQ (fu : Nat) (s : Schema) (t : AType) (v : AVal) (level : Int) (keys : Bool) : Prop := 4 * nV v + 1 < fu
def c17fldQ (fu : Nat) (s : Schema) (f : AField) (v : AVal) (level : Int) (keys : Bool) : Prop := 4 * nV v + 2 < fu
def c17slotQ (fu : Nat) (s : Schema) (m : Message) (v : AVal) (at_ : Int) (level : Int) (keys : Bool) : Prop := 4 * nV v < fu + 1 ∧ 0 ≤ at_ ∧ at_ < v.Slots.length ∧ at_ ≤ 9223372036854775807
def c17msgQ (fu : Nat) (s : Schema) (m : Message) (v : AVal) (level : Int) (keys : Bool) : Prop := 4 * nV v < fu
noncomputable def c17V : Nat → (Schema → AType → AVal → Int → Bool → Int) × (Schema → AField → AVal → Int → Bool → Int) × (Schema → Message → AVal → Int → Int → Bool → Int) × (Schema → Message → AVal → Int → Bool → Int)
  | 0 => (fun _ _ _ _ _ => default, fun _ _ _ _ _ => default, fun _ _ _ _ _ _ => default, fun _ _ _ _ _ => default)
  | fu + 1 => (fun s t v level keys => (c17el ((c17V fu).1) (c17elQ fu) ((c17V fu).2.1) (c17fldQ fu) ((c17V fu).2.2.1) (c17slotQ fu) ((c17V fu).2.2.2) (c17msgQ fu) s t v level keys).val, fun s f v level keys => (c17fld ((c17V fu).1) (c17elQ fu) ((c17V fu).2.1) (c17fldQ fu) ((c17V fu).2.2.1) (c17slotQ fu) ((c17V fu).2.2.2) (c17msgQ fu) s f v level keys).val, fun s m v at_ level keys => (c17slot ((c17V fu).1) (c17elQ fu) ((c17V fu).2.1) (c17fldQ fu) ((c17V fu).2.2.1) (c17slotQ fu) ((c17V fu).2.2.2) (c17msgQ fu) s m v at_ level keys).val, fun s m v level keys => (c17msg ((c17V fu).1) (c17elQ fu) ((c17V fu).2.1) (c17fldQ fu) ((c17V fu).2.2.1) (c17slotQ fu) ((c17V fu).2.2.2) (c17msgQ fu) s m v level keys).val)
noncomputable def c17elP (s : Schema) (t : AType) (v : AVal) (level : Int) (keys : Bool) : Int := (c17V (4 * nV v + 2)).1 s t v level keys
noncomputable def c17fldP (s : Schema) (f : AField) (v : AVal) (level : Int) (keys : Bool) : Int := (c17V (4 * nV v + 3)).2.1 s f v level keys
noncomputable def c17slotP (s : Schema) (m : Message) (v : AVal) (at_ : Int) (level : Int) (keys : Bool) : Int := (c17V (4 * nV v)).2.2.1 s m v at_ level keys
noncomputable def c17msgP (s : Schema) (m : Message) (v : AVal) (level : Int) (keys : Bool) : Int := (c17V (4 * nV v + 1)).2.2.2 s m v level keys
theorem c17el_is (fu : Nat) (s : Schema) (t : AType) (v : AVal) (level : Int) (keys : Bool) (h : c17elQ (fu + 1) s t v level keys) : Is (c17el ((c17V fu).1) (c17elQ fu) ((c17V fu).2.1) (c17fldQ fu) ((c17V fu).2.2.1) (c17slotQ fu) ((c17V fu).2.2.2) (c17msgQ fu) s t v level keys) :=
  by
  have h : 4 * nV v + 1 < fu + 1 := h
  exact is_beq (fun _ => is_lt fun v1 hv1 => is_br (fun _ => is_ret) (fun _ => is_ob (by simp only [c17msgQ, AVal.re_eq]; omega) (is_ret))) (fun _ => is_brd (fun _ => is_ret) (fun _ => is_brd (fun _ => is_ret) (fun _ => is_lt fun v2 hv2 => is_bne (fun _ => is_ret) (fun _ => is_bne (fun _ => is_ret) (fun _ => is_lt fun v3 hv3 => is_br (fun _ => is_ret) (fun _ => is_br (fun _ => is_br (fun _ => is_ret) (fun _ => is_ret)) (fun _ => is_ret)))))))
theorem c17fld_is (fu : Nat) (s : Schema) (f : AField) (v : AVal) (level : Int) (keys : Bool) (h : c17fldQ (fu + 1) s f v level keys) : Is (c17fld ((c17V fu).1) (c17elQ fu) ((c17V fu).2.1) (c17fldQ fu) ((c17V fu).2.2.1) (c17slotQ fu) ((c17V fu).2.2.2) (c17msgQ fu) s f v level keys) :=
  by
  have h : 4 * nV v + 2 < fu + 1 := h; have hv := nV_eq v
  exact is_lt fun v11 hv11 => is_cut (is_beq (fun _ => is_bne (fun _ => is_ret) (fun _ => is_br (fun _ => is_ret) (fun _ => is_each (.inl rfl) (fun i1 y2 _ _ => is_ix (by omega) (by omega) (is_ob (by have h1 := nVs_mem (getD_mem (d := d_AVal) (show i1 < v.List.length by omega)); simp only [c17elQ, AVal.re_eq]; omega) (is_bne (fun _ => is_ret) (fun _ => is_ret)))) (fun y2 _ => is_ret)))) (fun _ => is_ret)) (fun y4 hy4 => is_beq (fun _ => is_bne (fun _ => is_ret) (fun _ => is_br (fun _ => is_ret) (fun _ => is_each (.inl rfl) (fun i5 y6 _ _ => is_ix (by omega) (by omega) (is_lt fun v12 hv12 => is_bne (fun _ => is_ret) (fun _ => is_cut (is_cnt (by omega) (by omega) (fun i7 y8 _ _ => is_br (fun _ => is_ix (by omega) (by omega) (is_ix (by omega) (by omega) (is_beq (fun _ => is_ix (by omega) (by omega) (is_ix (by omega) (by omega) (is_br (fun _ => is_ret) (fun _ => is_ret)))) (fun _ => is_ret)))) (fun _ => is_ret)) (fun i7 y8 _ _ => is_ret)) (fun y9 hy9 => is_ix (by omega) (by omega) (is_ob (by have h1 := nPs_mem (getD_mem (d := d_Pair) (show i5 < v.Pairs.length by omega)); have h2 := nP_eq (v.Pairs.getD i5 d_Pair); simp only [c17elQ, AVal.re_eq]; omega) (is_bne (fun _ => is_ret) (fun _ => is_ret))))))) (fun y6 _ => is_ret)))) (fun _ => is_ob (by simp only [c17elQ, AVal.re_eq]; omega) (is_ret)))
theorem c17slot_is (fu : Nat) (s : Schema) (m : Message) (v : AVal) (at_ : Int) (level : Int) (keys : Bool) (h : c17slotQ (fu + 1) s m v at_ level keys) : Is (c17slot ((c17V fu).1) (c17elQ fu) ((c17V fu).2.1) (c17fldQ fu) ((c17V fu).2.2.1) (c17slotQ fu) ((c17V fu).2.2.2) (c17msgQ fu) s m v at_ level keys) :=
  by
  obtain ⟨h, h2, h3, h4⟩ := h; have hv := nV_eq v
  exact is_ix (by omega) (by omega) (is_lt fun v6 hv6 => is_br (fun _ => is_ret) (fun _ => is_cut (is_cnt (by omega) (by omega) (fun i1 y2 _ _ => is_ix (by omega) (by omega) (is_beq (fun _ => is_ret) (fun _ => is_ret))) (fun i1 y2 _ _ => is_ret)) (fun y3 hy3 => is_cnt (by omega) (by omega) (fun i4 y5 _ _ => is_ix (by omega) (by omega) (is_br (fun _ => is_br (fun _ => is_ret) (fun _ => is_ret)) (fun _ => is_ret))) (fun i4 y5 _ _ => is_ix (by omega) (by omega) (is_ltw fun v7 hv7 _ => is_ob (by have h1 := nSs_mem (getD_mem (d := d_Slot) (show at_.toNat < v.Slots.length by omega)); have h2 := nS_eq (v.Slots.getD at_.toNat d_Slot); simp only [c17fldQ, AVal.re_eq]; omega) (is_ret))))))
theorem c17msg_is (fu : Nat) (s : Schema) (m : Message) (v : AVal) (level : Int) (keys : Bool) (h : c17msgQ (fu + 1) s m v level keys) : Is (c17msg ((c17V fu).1) (c17elQ fu) ((c17V fu).2.1) (c17fldQ fu) ((c17V fu).2.2.1) (c17slotQ fu) ((c17V fu).2.2.2) (c17msgQ fu) s m v level keys) :=
  by
  have h : 4 * nV v < fu + 1 := h
  exact is_bne (fun _ => is_ret) (fun _ => is_br (fun _ => is_ret) (fun _ => is_brd (fun _ => is_ret) (fun _ => is_cut (is_cntG trivial (by omega) (fun h => by simp only [preP] at h; omega) (fun i1 y2 _ _ _ => is_ob ((⟨by rw [AVal.re_eq]; exact h, by omega, by rw [AVal.re_eq]; omega, by omega⟩)) (is_bne (fun _ => is_ret) (fun _ => is_ret))) (fun i1 y2 _ _ => is_ret)) (fun y3 hy3 => is_cut (is_each (.inl rfl) (fun i4 y5 _ _ => is_ix (by omega) (by omega) (is_beq (fun _ => is_ix (by omega) (by omega) (is_br (fun _ => is_ret) (fun _ => is_ret))) (fun _ => is_ret))) (fun y5 _ => is_ret)) (fun y7 hy7 => is_each (.inl rfl) (fun i8 y9 _ _ => is_ix (by omega) (by omega) (is_lt fun v11 hv11 => is_bne (fun _ => is_ret) (fun _ => is_ret))) (fun y9 _ => is_ret))))))

theorem c17_ok : ∀ fu, CtOk Z.P Z.S 161 (ctN (args (aCons (aAgg cd_Schema) (aCons (aAgg cd_AType) (aCons (aAgg cd_AVal) (aCons (aLf (cInt .i64)) (a1 (aLf cBool))))))) (shr [.slot 0 false [none]] (l1 (cInt .i64))) 1 [] (fun a => some (c17elQ fu (a.1) (a.2.1) (a.2.2.1) (a.2.2.2.1) (a.2.2.2.2))) (fun a => (c17V fu).1 (a.1) (a.2.1) (a.2.2.1) (a.2.2.2.1) (a.2.2.2.2))) ∧ CtOk Z.P Z.S 138 (ctN (args (aCons (aAgg cd_Schema) (aCons (aAgg cd_AField) (aCons (aAgg cd_AVal) (aCons (aLf (cInt .i64)) (a1 (aLf cBool))))))) (shr [.slot 0 false [none]] (l1 (cInt .i64))) 1 [] (fun a => some (c17fldQ fu (a.1) (a.2.1) (a.2.2.1) (a.2.2.2.1) (a.2.2.2.2))) (fun a => (c17V fu).2.1 (a.1) (a.2.1) (a.2.2.1) (a.2.2.2.1) (a.2.2.2.2))) ∧ CtOk Z.P Z.S 116 (ctN (args (aCons (aAgg cd_Schema) (aCons (aAgg cd_Message) (aCons (aAgg cd_AVal) (aCons (aLf (cInt .i64)) (aCons (aLf (cInt .i64)) (a1 (aLf cBool)))))))) (shr [.slot 0 false [none]] (l1 (cInt .i64))) 1 [] (fun a => some (c17slotQ fu (a.1) (a.2.1) (a.2.2.1) (a.2.2.2.1) (a.2.2.2.2.1) (a.2.2.2.2.2))) (fun a => (c17V fu).2.2.1 (a.1) (a.2.1) (a.2.2.1) (a.2.2.2.1) (a.2.2.2.2.1) (a.2.2.2.2.2))) ∧ CtOk Z.P Z.S 91 (ctN (args (aCons (aAgg cd_Schema) (aCons (aAgg cd_Message) (aCons (aAgg cd_AVal) (aCons (aLf (cInt .i64)) (a1 (aLf cBool))))))) (shr [.slot 0 false [none]] (l1 (cInt .i64))) 1 [] (fun a => some (c17msgQ fu (a.1) (a.2.1) (a.2.2.1) (a.2.2.2.1) (a.2.2.2.2))) (fun a => (c17V fu).2.2.2 (a.1) (a.2.1) (a.2.2.1) (a.2.2.2.1) (a.2.2.2.2)))
  | 0 => ⟨ct_zero Tryz.func161 (by kernel_rfl) (fun a h => absurd h (Nat.not_lt_zero _)),
    ct_zero Tryz.func138 (by kernel_rfl) (fun a h => absurd h (Nat.not_lt_zero _)),
    ct_zero Tryz.func116 (by kernel_rfl) (fun a h => absurd h.1 (by have := nV_pos (a.2.2.1); omega)),
    ct_zero Tryz.func91 (by kernel_rfl) (fun a h => absurd h (Nat.not_lt_zero _))⟩
  | fu + 1 => by
    obtain ⟨h0, h1, h2, h3⟩ := c17_ok fu
    exact ⟨ct_ofN (fun _ _ => envL_ok (l := [e_r14msg, e_r14enum, e_c17item, e_c17scalar, ⟨161, _, h0⟩, ⟨138, _, h1⟩, ⟨116, _, h2⟩, ⟨91, _, h3⟩])) (J := []) (argsI (n := 73) rfl) inferInstance Tryz.func161 Tryz.ntmps161 (by kernel_rfl) 1 rfl (fun a => c17el ((c17V fu).1) (c17elQ fu) ((c17V fu).2.1) (c17fldQ fu) ((c17V fu).2.2.1) (c17slotQ fu) ((c17V fu).2.2.2) (c17msgQ fu) (a.1) (a.2.1) (a.2.2.1) (a.2.2.2.1) (a.2.2.2.2)) _ (fun a e _ => by kernel_rfl) _ (fun a h => ⟨c17el_is fu (a.1) (a.2.1) (a.2.2.1) (a.2.2.2.1) (a.2.2.2.2) h, rfl⟩),
      ct_ofN (fun _ _ => envL_ok (l := [e_c17other, e_c17scalar, ⟨161, _, h0⟩, ⟨138, _, h1⟩, ⟨116, _, h2⟩, ⟨91, _, h3⟩])) (J := [jS 5 (shp (fun sl => [.slot 11 false [none]]) (l1 (cInt .i64))), jS 15 (shp (fun sl => [.slot 13 false [none]]) (l1 (cInt .i64))), jS 21 (shp (fun sl => [.slot 15 false [none]]) (l1 (cInt .i64))), jS 100011 (shp (fun sl => []) l0), jS 100025 (shp (fun sl => []) l0)]) (argsI (n := 138) rfl) inferInstance Tryz.func138 Tryz.ntmps138 (by kernel_rfl) 1 rfl (fun a => c17fld ((c17V fu).1) (c17elQ fu) ((c17V fu).2.1) (c17fldQ fu) ((c17V fu).2.2.1) (c17slotQ fu) ((c17V fu).2.2.2) (c17msgQ fu) (a.1) (a.2.1) (a.2.2.1) (a.2.2.2.1) (a.2.2.2.2)) _ (fun a e _ => by kernel_rfl) _ (fun a h => ⟨c17fld_is fu (a.1) (a.2.1) (a.2.2.1) (a.2.2.2.1) (a.2.2.2.2) h, rfl⟩),
      ct_ofN (fun _ _ => envL_ok (l := [e_r14fld, ⟨161, _, h0⟩, ⟨138, _, h1⟩, ⟨116, _, h2⟩, ⟨91, _, h3⟩])) (J := [jS 5 (shp (fun sl => [.slot 15 false [none]]) (l1 (cInt .i64))), jS 10 (shp (fun sl => [.slot 16 false [none]]) (l1 (cInt .i64))), jS 100009 (shp (fun sl => []) l0)]) (argsI (n := 84) rfl) inferInstance Tryz.func116 Tryz.ntmps116 (by kernel_rfl) 1 rfl (fun a => c17slot ((c17V fu).1) (c17elQ fu) ((c17V fu).2.1) (c17fldQ fu) ((c17V fu).2.2.1) (c17slotQ fu) ((c17V fu).2.2.2) (c17msgQ fu) (a.1) (a.2.1) (a.2.2.1) (a.2.2.2.1) (a.2.2.2.2.1) (a.2.2.2.2.2)) _ (fun a e _ => by kernel_rfl) _ (fun a h => ⟨c17slot_is fu (a.1) (a.2.1) (a.2.2.1) (a.2.2.2.1) (a.2.2.2.2.1) (a.2.2.2.2.2) h, rfl⟩),
      ct_ofN (fun _ _ => envL_ok (l := [e_c17other, e_c17set, e_c17raw, ⟨161, _, h0⟩, ⟨138, _, h1⟩, ⟨116, _, h2⟩, ⟨91, _, h3⟩])) (J := [jS 6 (shp (fun sl => [.slot 11 false [none]]) (l1 (cInt .i64))), jS 12 (shp (fun sl => [.slot 13 false [none]]) (l1 (cInt .i64))), jS 17 (shp (fun sl => [.slot 14 false [none]]) (l1 (cInt .i64))), jS 100011 (shp (fun sl => []) l0), jS 100016 (shp (fun sl => []) l0)]) (argsI (n := 85) rfl) inferInstance Tryz.func91 Tryz.ntmps91 (by kernel_rfl) 1 rfl (fun a => c17msg ((c17V fu).1) (c17elQ fu) ((c17V fu).2.1) (c17fldQ fu) ((c17V fu).2.2.1) (c17slotQ fu) ((c17V fu).2.2.2) (c17msgQ fu) (a.1) (a.2.1) (a.2.2.1) (a.2.2.2.1) (a.2.2.2.2)) _ (fun a e _ => by kernel_rfl) _ (fun a h => ⟨c17msg_is fu (a.1) (a.2.1) (a.2.2.1) (a.2.2.2.1) (a.2.2.2.2) h, rfl⟩)⟩
noncomputable def e_c17el : Ent Z := ⟨161, ctN (args (aCons (aAgg cd_Schema) (aCons (aAgg cd_AType) (aCons (aAgg cd_AVal) (aCons (aLf (cInt .i64)) (a1 (aLf cBool))))))) (shr [.slot 0 false [none]] (l1 (cInt .i64))) 1 [] (fun a => none) (fun a => c17elP (a.1) (a.2.1) (a.2.2.1) (a.2.2.2.1) (a.2.2.2.2)), ctFam_ok (fun n => ((c17_ok n).1)) _ _ (fun a h => ⟨4 * nV (a.2.2.1) + 2, Nat.lt_succ_self _, rfl⟩)⟩
noncomputable def e_c17fld : Ent Z := ⟨138, ctN (args (aCons (aAgg cd_Schema) (aCons (aAgg cd_AField) (aCons (aAgg cd_AVal) (aCons (aLf (cInt .i64)) (a1 (aLf cBool))))))) (shr [.slot 0 false [none]] (l1 (cInt .i64))) 1 [] (fun a => none) (fun a => c17fldP (a.1) (a.2.1) (a.2.2.1) (a.2.2.2.1) (a.2.2.2.2)), ctFam_ok (fun n => ((c17_ok n).2.1)) _ _ (fun a h => ⟨4 * nV (a.2.2.1) + 3, Nat.lt_succ_self _, rfl⟩)⟩
noncomputable def e_c17slot : Ent Z := ⟨116, ctN (args (aCons (aAgg cd_Schema) (aCons (aAgg cd_Message) (aCons (aAgg cd_AVal) (aCons (aLf (cInt .i64)) (aCons (aLf (cInt .i64)) (a1 (aLf cBool)))))))) (shr [.slot 0 false [none]] (l1 (cInt .i64))) 1 [] (fun a => some (0 ≤ (a.2.2.2.1) ∧ (a.2.2.2.1) < (a.2.2.1).Slots.length ∧ (a.2.2.2.1) ≤ 9223372036854775807)) (fun a => c17slotP (a.1) (a.2.1) (a.2.2.1) (a.2.2.2.1) (a.2.2.2.2.1) (a.2.2.2.2.2)), ctFam_ok (fun n => ((c17_ok n).2.2.1)) _ _ (fun a h => ⟨4 * nV (a.2.2.1), ⟨Nat.lt_succ_self _, h⟩, rfl⟩)⟩
noncomputable def e_c17msg : Ent Z := ⟨91, ctN (args (aCons (aAgg cd_Schema) (aCons (aAgg cd_Message) (aCons (aAgg cd_AVal) (aCons (aLf (cInt .i64)) (a1 (aLf cBool))))))) (shr [.slot 0 false [none]] (l1 (cInt .i64))) 1 [] (fun a => none) (fun a => c17msgP (a.1) (a.2.1) (a.2.2.1) (a.2.2.2.1) (a.2.2.2.2)), ctFam_ok (fun n => ((c17_ok n).2.2.2)) _ _ (fun a h => ⟨4 * nV (a.2.2.1) + 1, Nat.lt_succ_self _, rfl⟩)⟩


noncomputable def c17count (c17countR : AVal → Int) (c17countQ : AVal → Prop) (v : AVal) : Pg Int :=
  .cut
    (fun (y4 : Int) =>
      .cut
        (fun (y8 : Int) =>
          .each true ixP v.Slots d_Slot
            (fun (i9 : Int) (a11 : Slot) (y10 : Int) => .ix i9 v.Slots.length (.ob (c17countQ a11.Val.re) (.ret (.inl (wrp .i64 (y10 + c17countR a11.Val.re))))))
            (fun (i9 y10 : Int) => .ret y10) y8)
        (.each true ixP v.Pairs d_Pair
          (fun (i5 : Int) (a7 : Pair) (y6 : Int) =>
            .ix i5 v.Pairs.length
              (.ob (c17countQ a7.Key.re)
                (.ix i5 v.Pairs.length (.ob (c17countQ a7.Val.re) (.ret (.inl (wrp .i64 (y6 + wrp .i64 (c17countR a7.Key.re + c17countR a7.Val.re)))))))))
          (fun (i5 y6 : Int) => .ret (.inl y6)) y4))
    (.lt (wrp .i64 (1 + (↑v.Raws.length : Int))) fun (v12 : Int) =>
      .each true ixP v.List d_AVal
        (fun (i1 : Int) (a3 : AVal) (y2 : Int) => .ix i1 v.List.length (.ob (c17countQ a3.re) (.ret (.inl (wrp .i64 (y2 + c17countR a3.re))))))
        (fun (i1 y2 : Int) => .ret (.inl y2)) v12)

def c17countQ (fu : Nat) (v : AVal) : Prop := nV v < fu
noncomputable def c17cV : Nat → (AVal → Int)
  | 0 => (fun _ => default)
  | fu + 1 => (fun v => (c17count ((c17cV fu)) (c17countQ fu) v).val)
noncomputable def c17countP (v : AVal) : Int := (c17cV (nV v + 1)) v
theorem c17count_is (fu : Nat) (v : AVal) (h : c17countQ (fu + 1) v) : Is (c17count ((c17cV fu)) (c17countQ fu) v) :=
  by
  have h : nV v < fu + 1 := h; have hv := nV_eq v
  exact is_cut (is_ltw fun v12 hv12 _ => is_each (.inl rfl) (fun i1 y2 _ _ => is_ix (by omega) (by omega) (is_ob (by have h1 := nVs_mem (getD_mem (d := d_AVal) (show i1 < v.List.length by omega)); simp only [c17countQ, AVal.re_eq]; omega) (is_ret))) (fun y2 _ => is_ret)) (fun y4 hy4 => is_cut (is_each (.inl rfl) (fun i5 y6 _ _ => is_ix (by omega) (by omega) (is_ob (by have h1 := nPs_mem (getD_mem (d := d_Pair) (show i5 < v.Pairs.length by omega)); have h2 := nP_eq (v.Pairs.getD i5 d_Pair); simp only [c17countQ, AVal.re_eq]; omega) (is_ix (by omega) (by omega) (is_ob (by have h1 := nPs_mem (getD_mem (d := d_Pair) (show i5 < v.Pairs.length by omega)); have h2 := nP_eq (v.Pairs.getD i5 d_Pair); simp only [c17countQ, AVal.re_eq]; omega) (is_ret))))) (fun y6 _ => is_ret)) (fun y8 hy8 => is_each (.inl rfl) (fun i9 y10 _ _ => is_ix (by omega) (by omega) (is_ob (by have h1 := nSs_mem (getD_mem (d := d_Slot) (show i9 < v.Slots.length by omega)); have h2 := nS_eq (v.Slots.getD i9 d_Slot); simp only [c17countQ, AVal.re_eq]; omega) (is_ret))) (fun y10 _ => is_ret)))

theorem c17c_ok : ∀ fu, CtOk Z.P Z.S 92 (ctN (args (a1 (aAgg cd_AVal))) (shr [.slot 0 false [none]] (l1 (cInt .i64))) 1 [] (fun a => some (c17countQ fu a)) (fun a => (c17cV fu) a))
  | 0 => ct_zero Tryz.func92 (by kernel_rfl) (fun a h => absurd h (Nat.not_lt_zero _))
  | fu + 1 => by
    have h0 := c17c_ok fu
    exact ct_ofN (fun _ _ => envL_ok (l := [⟨92, _, h0⟩])) (J := [jS 3 (shp (fun sl => [.slot 4 false [none], .slot 3 false [none]]) (lCons (cInt .i64) (l1 (cInt .i64)))), jS 7 (shp (fun sl => [.slot 5 false [none], .slot 3 false [none]]) (lCons (cInt .i64) (l1 (cInt .i64)))), jS 11 (shp (fun sl => [.slot 6 false [none], .slot 3 false [none]]) (lCons (cInt .i64) (l1 (cInt .i64)))), jS 100006 (shp (fun sl => [.slot 3 false [none]]) (l1 (cInt .i64))), jS 100010 (shp (fun sl => [.slot 3 false [none]]) (l1 (cInt .i64)))]) (argsI (n := 67) rfl) inferInstance Tryz.func92 Tryz.ntmps92 (by kernel_rfl) 1 rfl (fun a => c17count ((c17cV fu)) (c17countQ fu) a) _ (fun a e _ => by kernel_rfl) _ (fun a h => ⟨c17count_is fu a h, rfl⟩)
noncomputable def e_c17count : Ent Z := ⟨92, ctN (args (a1 (aAgg cd_AVal))) (shr [.slot 0 false [none]] (l1 (cInt .i64))) 1 [] (fun a => none) (fun a => c17countP a), ctFam_ok (fun n => ((c17c_ok n))) _ _ (fun a h => ⟨nV a + 1, Nat.lt_succ_self _, rfl⟩)⟩


noncomputable def c17same (c17sameR : AVal → AVal → Bool) (c17sameQ : AVal → AVal → Prop) (a : AVal) (b : AVal) : Pg Bool :=
  .br (a.Kind != b.Kind) (.ret false)
    (.br (a.Bits != b.Bits) (.ret false)
      (.br (a.Text != b.Text) (.ret false)
        (.br ((↑a.List.length : Int) != (↑b.List.length : Int))
          (.as (a.List.length ≤ 9223372036854775807) (.as (b.List.length ≤ 9223372036854775807) (.ret false)))
          (.br ((↑a.Pairs.length : Int) != (↑b.Pairs.length : Int))
            (.as (a.List.length ≤ 9223372036854775807)
              (.as (b.List.length ≤ 9223372036854775807)
                (.as (a.Pairs.length ≤ 9223372036854775807) (.as (b.Pairs.length ≤ 9223372036854775807) (.ret false)))))
            (.br ((↑a.Slots.length : Int) != (↑b.Slots.length : Int))
              (.as (a.List.length ≤ 9223372036854775807)
                (.as (b.List.length ≤ 9223372036854775807)
                  (.as (a.Pairs.length ≤ 9223372036854775807)
                    (.as (b.Pairs.length ≤ 9223372036854775807)
                      (.as (a.Slots.length ≤ 9223372036854775807) (.as (b.Slots.length ≤ 9223372036854775807) (.ret false)))))))
              (.as (a.List.length ≤ 9223372036854775807)
                (.as (b.List.length ≤ 9223372036854775807)
                  (.as (a.Pairs.length ≤ 9223372036854775807)
                    (.as (b.Pairs.length ≤ 9223372036854775807)
                      (.as (a.Slots.length ≤ 9223372036854775807)
                        (.as (b.Slots.length ≤ 9223372036854775807)
                          (.as (a.Raws.length ≤ 9223372036854775807)
                            (.as (b.Raws.length ≤ 9223372036854775807)
                              (.br ((↑a.Raws.length : Int) != (↑b.Raws.length : Int)) (.ret false)
                                (.cut
                                  (fun (y4 : Unit) =>
                                    .cut
                                      (fun (y8 : Unit) =>
                                        .cut
                                          (fun (y12 : Unit) =>
                                            .each true ixI a.Raws d_Raw
                                              (fun (i13 : Int) (a15 : Raw) (y14 : Unit) =>
                                                .ix i13 a.Raws.length
                                                  (.ix i13 b.Raws.length
                                                    (.br
                                                      (!(a15.Num == (b.Raws.getD i13.toNat d_Raw).Num &&
                                                          (a15.Wire == (b.Raws.getD i13.toNat d_Raw).Wire &&
                                                            (a15.Bits == (b.Raws.getD i13.toNat d_Raw).Bits && (a15.Data == (b.Raws.getD i13.toNat d_Raw).Data && true)))))
                                                      (.ret (.inr false)) (.ret (.inl ())))))
                                              (fun (i13 : Int) (y14 : Unit) => .ret true) ())
                                          (.each true ixI a.Slots d_Slot
                                            (fun (i9 : Int) (a11 : Slot) (y10 : Unit) =>
                                              .ix i9 a.Slots.length
                                                (.ix i9 b.Slots.length
                                                  (.br (a11.Num != (b.Slots.getD i9.toNat d_Slot).Num) (.ret (.inr (.inr false)))
                                                    (.ix i9 a.Slots.length
                                                      (.ix i9 b.Slots.length
                                                        (.ob (c17sameQ a11.Val.re (b.Slots.getD i9.toNat d_Slot).Val.re)
                                                          (.br (!c17sameR a11.Val.re (b.Slots.getD i9.toNat d_Slot).Val.re) (.ret (.inr (.inr false)))
                                                            (.ret (.inl ())))))))))
                                            (fun (i9 : Int) (y10 : Unit) => .ret (.inl ())) ()))
                                      (.each true ixI a.Pairs d_Pair
                                        (fun (i5 : Int) (a7 : Pair) (y6 : Unit) =>
                                          .ix i5 a.Pairs.length
                                            (.ix i5 b.Pairs.length
                                              (.ob (c17sameQ a7.Key.re (b.Pairs.getD i5.toNat d_Pair).Key.re)
                                                (.br (!c17sameR a7.Key.re (b.Pairs.getD i5.toNat d_Pair).Key.re) (.ret (.inr (.inr false)))
                                                  (.ix i5 a.Pairs.length
                                                    (.ix i5 b.Pairs.length
                                                      (.ob (c17sameQ a7.Val.re (b.Pairs.getD i5.toNat d_Pair).Val.re)
                                                        (.br (!c17sameR a7.Val.re (b.Pairs.getD i5.toNat d_Pair).Val.re) (.ret (.inr (.inr false)))
                                                          (.ret (.inl ()))))))))))
                                        (fun (i5 : Int) (y6 : Unit) => .ret (.inl ())) ()))
                                  (.each true ixI a.List d_AVal
                                    (fun (i1 : Int) (a3 : AVal) (y2 : Unit) =>
                                      .ix i1 a.List.length
                                        (.ix i1 b.List.length
                                          (.ob (c17sameQ a3.re (b.List.getD i1.toNat d_AVal).re)
                                            (.br (!c17sameR a3.re (b.List.getD i1.toNat d_AVal).re) (.ret (.inr (.inr false))) (.ret (.inl ()))))))
                                    (fun (i1 : Int) (y2 : Unit) => .ret (.inl ())) ()))))))))))))))))

def c17sameQ (fu : Nat) (a : AVal) (b : AVal) : Prop := nV a < fu
noncomputable def c17sV : Nat → (AVal → AVal → Bool)
  | 0 => (fun _ _ => default)
  | fu + 1 => (fun a b => (c17same ((c17sV fu)) (c17sameQ fu) a b).val)
noncomputable def c17sameP (a : AVal) (b : AVal) : Bool := (c17sV (nV a + 1)) a b
theorem c17same_is (fu : Nat) (a : AVal) (b : AVal) (h : c17sameQ (fu + 1) a b) : Is (c17same ((c17sV fu)) (c17sameQ fu) a b) :=
  by
  have h : nV a < fu + 1 := h; have hv := nV_eq a
  exact is_bne (fun _ => is_ret) (fun _ => is_bne (fun _ => is_ret) (fun _ => is_br (fun _ => is_ret) (fun _ => is_bne (fun _ => is_as fun _ => is_as fun _ => is_ret) (fun _ => is_bne (fun _ => is_as fun _ => is_as fun _ => is_as fun _ => is_as fun _ => is_ret) (fun _ => is_bne (fun _ => is_as fun _ => is_as fun _ => is_as fun _ => is_as fun _ => is_as fun _ => is_as fun _ => is_ret) (fun _ => is_as fun _ => is_as fun _ => is_as fun _ => is_as fun _ => is_as fun _ => is_as fun _ => is_as fun _ => is_as fun _ => is_bne (fun _ => is_ret) (fun _ => is_cut (is_each (.inl rfl) (fun i1 y2 _ _ => is_ix (by omega) (by omega) (is_ix (by omega) (by omega) (is_ob (by have h1 := nVs_mem (getD_mem (d := d_AVal) (show i1 < a.List.length by omega)); simp only [c17sameQ, AVal.re_eq]; omega) (is_br (fun _ => is_ret) (fun _ => is_ret))))) (fun y2 _ => is_ret)) (fun y4 hy4 => is_cut (is_each (.inl rfl) (fun i5 y6 _ _ => is_ix (by omega) (by omega) (is_ix (by omega) (by omega) (is_ob (by have h1 := nPs_mem (getD_mem (d := d_Pair) (show i5 < a.Pairs.length by omega)); have h2 := nP_eq (a.Pairs.getD i5 d_Pair); simp only [c17sameQ, AVal.re_eq]; omega) (is_br (fun _ => is_ret) (fun _ => is_ix (by omega) (by omega) (is_ix (by omega) (by omega) (is_ob (by have h1 := nPs_mem (getD_mem (d := d_Pair) (show i5 < a.Pairs.length by omega)); have h2 := nP_eq (a.Pairs.getD i5 d_Pair); simp only [c17sameQ, AVal.re_eq]; omega) (is_br (fun _ => is_ret) (fun _ => is_ret))))))))) (fun y6 _ => is_ret)) (fun y8 hy8 => is_cut (is_each (.inl rfl) (fun i9 y10 _ _ => is_ix (by omega) (by omega) (is_ix (by omega) (by omega) (is_bne (fun _ => is_ret) (fun _ => is_ix (by omega) (by omega) (is_ix (by omega) (by omega) (is_ob (by have h1 := nSs_mem (getD_mem (d := d_Slot) (show i9 < a.Slots.length by omega)); have h2 := nS_eq (a.Slots.getD i9 d_Slot); simp only [c17sameQ, AVal.re_eq]; omega) (is_br (fun _ => is_ret) (fun _ => is_ret)))))))) (fun y10 _ => is_ret)) (fun y12 hy12 => is_each (.inl rfl) (fun i13 y14 _ _ => is_ix (by omega) (by omega) (is_ix (by omega) (by omega) (is_br (fun _ => is_ret) (fun _ => is_ret)))) (fun y14 _ => is_ret)))))))))))

theorem c17s_ok : ∀ fu, CtOk Z.P Z.S 15 (ctN (args (aCons (aAgg cd_AVal) (a1 (aAgg cd_AVal)))) (shr [.slot 0 false [none]] (l1 cBool)) 1 [] (fun a => some (c17sameQ fu (a.1) (a.2))) (fun a => (c17sV fu) (a.1) (a.2)))
  | 0 => ct_zero Tryz.func15 (by kernel_rfl) (fun a h => absurd h (Nat.not_lt_zero _))
  | fu + 1 => by
    have h0 := c17s_ok fu
    exact ct_ofN (fun _ _ => envL_ok (l := [⟨15, _, h0⟩])) (J := [jS 4 (shp (fun sl => [.slot 5 false [none]]) (l1 (cInt .i64))), jS 9 (shp (fun sl => [.slot 6 false [none]]) (l1 (cInt .i64))), jS 14 (shp (fun sl => [.slot 7 false [none]]) (l1 (cInt .i64))), jS 19 (shp (fun sl => [.slot 8 false [none]]) (l1 (cInt .i64))), jS 100008 (shp (fun sl => []) l0), jS 100013 (shp (fun sl => []) l0), jS 100018 (shp (fun sl => []) l0)]) (argsI (n := 174) rfl) inferInstance Tryz.func15 Tryz.ntmps15 (by kernel_rfl) 1 rfl (fun a => c17same ((c17sV fu)) (c17sameQ fu) (a.1) (a.2)) _ (fun a e _ => by kernel_rfl) _ (fun a h => ⟨c17same_is fu (a.1) (a.2) h, rfl⟩)
noncomputable def e_c17same : Ent Z := ⟨15, ctN (args (aCons (aAgg cd_AVal) (a1 (aAgg cd_AVal)))) (shr [.slot 0 false [none]] (l1 cBool)) 1 [] (fun a => none) (fun a => c17sameP (a.1) (a.2)), ctFam_ok (fun n => ((c17s_ok n))) _ _ (fun a h => ⟨nV (a.1) + 1, Nat.lt_succ_self _, rfl⟩)⟩


noncomputable def c18count (c18countR : AVal → Int → Int → Int) (c18countQ : AVal → Int → Int → Prop) (v : AVal) (level : Int) (left : Int) : Pg Int :=
  .br (decide (40 < level)) (.ret (-1))
    (.br (decide (5000 < (↑(List.length v.Text) : Int))) (.ret (-1))
      (.as (v.Raws.length ≤ 9223372036854775807)
        (.lt (wrp .i64 (left - 1)) fun (v16 : Int) =>
          .br (decide (v16 < (↑v.Raws.length : Int))) (.ret (-1))
            (.as (v.Raws.length ≤ 9223372036854775807)
              (.cut
                (fun (y4 : Unit) =>
                  .lt (wrp .i64 (level + 1)) fun (v17 : Int) =>
                    .cut
                      (fun (y8 : Int) =>
                        .cut
                          (fun (y12 : Int) =>
                            .each false ixP v.Slots d_Slot
                              (fun (i13 : Int) (a15 : Slot) (y14 : Int) =>
                                .as (v.Slots.length ≤ 9223372036854775807)
                                  (.br (decide (0 ≤ y14))
                                    (.ix i13 v.Slots.length (.ob (c18countQ a15.Val.re v17 y14) (.ret (.inl (c18countR a15.Val.re v17 y14))))) (.ret (.inr y14))))
                              (fun (i13 y14 : Int) => .as (v.Slots.length ≤ 9223372036854775807) (.ret y14)) y12)
                          (.each false ixP v.Pairs d_Pair
                            (fun (i9 : Int) (a11 : Pair) (y10 : Int) =>
                              .as (v.Pairs.length ≤ 9223372036854775807)
                                (.br (decide (0 ≤ y10))
                                  (.ix i9 v.Pairs.length
                                    (.ob (c18countQ a11.Key.re v17 y10)
                                      (.br (decide (0 ≤ c18countR a11.Key.re v17 y10))
                                        (.ix i9 v.Pairs.length
                                          (.ob (c18countQ a11.Val.re v17 (c18countR a11.Key.re v17 y10))
                                            (.ret (.inl (c18countR a11.Val.re v17 (c18countR a11.Key.re v17 y10))))))
                                        (.ret (.inl (c18countR a11.Key.re v17 y10))))))
                                  (.ret (.inr (.inl y10)))))
                            (fun (i9 y10 : Int) => .as (v.Pairs.length ≤ 9223372036854775807) (.ret (.inl y10))) y8))
                      (.lt (wrp .i64 (v16 - (↑v.Raws.length : Int))) fun (v18 : Int) =>
                        .each false ixP v.List d_AVal
                          (fun (i5 : Int) (a7 : AVal) (y6 : Int) =>
                            .as (v.List.length ≤ 9223372036854775807)
                              (.br (decide (0 ≤ y6)) (.ix i5 v.List.length (.ob (c18countQ a7.re v17 y6) (.ret (.inl (c18countR a7.re v17 y6)))))
                                (.ret (.inr (.inl y6)))))
                          (fun (i5 y6 : Int) => .as (v.List.length ≤ 9223372036854775807) (.ret (.inl y6))) v18))
                (.each true ixI v.Raws d_Raw
                  (fun (i1 : Int) (a3 : Raw) (y2 : Unit) =>
                    .ix i1 v.Raws.length (.br (decide (5000 < (↑(List.length a3.Data) : Int))) (.ret (.inr (.inr (-1)))) (.ret (.inl ()))))
                  (fun (i1 : Int) (y2 : Unit) => .ret (.inl ())) ()))))))

def c18countQ (fu : Nat) (v : AVal) (level : Int) (left : Int) : Prop := nV v < fu
noncomputable def c18cV : Nat → (AVal → Int → Int → Int)
  | 0 => (fun _ _ _ => default)
  | fu + 1 => (fun v level left => (c18count ((c18cV fu)) (c18countQ fu) v level left).val)
noncomputable def c18countP (v : AVal) (level : Int) (left : Int) : Int := (c18cV (nV v + 1)) v level left
theorem c18count_is (fu : Nat) (v : AVal) (level : Int) (left : Int) (h : c18countQ (fu + 1) v level left) : Is (c18count ((c18cV fu)) (c18countQ fu) v level left) :=
  by
  have h : nV v < fu + 1 := h
  have hv := nV_eq v
  exact is_brd (fun _ => is_ret) (fun _ => is_brd (fun _ => is_ret) (fun _ => is_as fun _ => is_ltw fun v16 hv16 _ => is_brd (fun _ => is_ret) (fun _ => is_as fun _ => is_cut (is_each (.inl rfl) (fun i1 y2 _ _ => is_ix (by omega) (by omega) (is_brd (fun _ => is_ret) (fun _ => is_ret))) (fun y2 _ => is_ret)) (fun y4 hy4 => is_ltw fun v17 hv17 _ => is_cut (is_ltw fun v18 hv18 _ => is_eachA (fun i5 y6 _ _ => is_brd (fun _ => is_ix (by omega) (by omega) (is_ob (by have h1 := nVs_mem (getD_mem (d := d_AVal) (show i5 < v.List.length by omega)); simp only [c18countQ, AVal.re_eq]; omega) is_ret)) (fun _ => is_ret)) (fun y6 _ => is_as fun _ => is_ret)) (fun y8 hy8 => is_cut (is_eachA (fun i9 y10 _ _ => is_brd (fun _ => is_ix (by omega) (by omega) (is_ob (by have h1 := nPs_mem (getD_mem (d := d_Pair) (show i9 < v.Pairs.length by omega)); have h2 := nP_eq (v.Pairs.getD i9 d_Pair); simp only [c18countQ, AVal.re_eq]; omega) (is_brd (fun _ => is_ix (by omega) (by omega) (is_ob (by have h1 := nPs_mem (getD_mem (d := d_Pair) (show i9 < v.Pairs.length by omega)); have h2 := nP_eq (v.Pairs.getD i9 d_Pair); simp only [c18countQ, AVal.re_eq]; omega) is_ret)) (fun _ => is_ret)))) (fun _ => is_ret)) (fun y10 _ => is_as fun _ => is_ret)) (fun y12 hy12 => is_eachA (fun i13 y14 _ _ => is_brd (fun _ => is_ix (by omega) (by omega) (is_ob (by have h1 := nSs_mem (getD_mem (d := d_Slot) (show i13 < v.Slots.length by omega)); have h2 := nS_eq (v.Slots.getD i13 d_Slot); simp only [c18countQ, AVal.re_eq]; omega) is_ret)) (fun _ => is_ret)) (fun y14 _ => is_as fun _ => is_ret)))))))

theorem c18c_ok : ∀ fu, CtOk Z.P Z.S 82 (ctN (args (aCons (aAgg cd_AVal) (aCons (aLf (cInt .i64)) (a1 (aLf (cInt .i64)))))) (shr [.slot 0 false [none]] (l1 (cInt .i64))) 1 [] (fun a => some (c18countQ fu (a.1) (a.2.1) (a.2.2))) (fun a => (c18cV fu) (a.1) (a.2.1) (a.2.2)))
  | 0 => ct_zero Tryz.func82 (by kernel_rfl) (fun a h => absurd h (Nat.not_lt_zero _))
  | fu + 1 => by
    have h0 := c18c_ok fu
    exact ct_ofN (fun _ _ => envL_ok (l := [⟨82, _, h0⟩])) (J := [jS 6 (shp (fun sl => [.slot 7 false [none]]) (l1 (cInt .i64))), jS 11 (shp (fun sl => [.slot 8 false [none], .slot 2 false [none]]) (lCons (cInt .i64) (l1 (cInt .i64)))), jS 15 (shp (fun sl => [.slot 9 false [none], .slot 2 false [none]]) (lCons (cInt .i64) (l1 (cInt .i64)))), jS 21 (shp (fun sl => [.slot 10 false [none], .slot 2 false [none]]) (lCons (cInt .i64) (l1 (cInt .i64)))), jS 100010 (shp (fun sl => []) l0), jS 100014 (shp (fun sl => [.slot 2 false [none]]) (l1 (cInt .i64))), jS 100020 (shp (fun sl => [.slot 2 false [none]]) (l1 (cInt .i64)))]) (argsI (n := 123) rfl) inferInstance Tryz.func82 Tryz.ntmps82 (by kernel_rfl) 1 rfl (fun a => c18count ((c18cV fu)) (c18countQ fu) (a.1) (a.2.1) (a.2.2)) _ (fun a e _ => by kernel_rfl) _ (fun a h => ⟨c18count_is fu (a.1) (a.2.1) (a.2.2) h, rfl⟩)
noncomputable def e_c18count : Ent Z := ⟨82, ctN (args (aCons (aAgg cd_AVal) (aCons (aLf (cInt .i64)) (a1 (aLf (cInt .i64)))))) (shr [.slot 0 false [none]] (l1 (cInt .i64))) 1 [] (fun a => none) (fun a => c18countP (a.1) (a.2.1) (a.2.2)), ctFam_ok (fun n => ((c18c_ok n))) _ _ (fun a h => ⟨nV (a.1) + 1, Nat.lt_succ_self _, rfl⟩)⟩


noncomputable def c18few (v : AVal) (left : Int) : Pg Bool :=
  .lt (c18countP v.re 1 left) fun (v1 : Int) => .ret (decide (0 ≤ v1))
noncomputable def c18fewP (v : AVal) (left : Int) : Bool := (c18few v left).val

theorem c18few_is (v : AVal) (left : Int) : Is (c18few v left) :=
  is_lt fun v1 hv1 => is_ret
noncomputable def e_c18few : Ent Z := entN Z [e_c18count] [] (args (aCons (aAgg cd_AVal) (a1 (aLf (cInt .i64))))) (argsI (n := 9) rfl) (shr [.slot 0 false [none]] (l1 cBool)) [] Tryz.func44 Tryz.ntmps44 (by kernel_rfl) 1 rfl (fun a => c18few (a.1) (a.2)) (fun a => none) (fun a e _ => by kernel_rfl) (fun a => c18fewP (a.1) (a.2)) (fun a h => ⟨c18few_is (a.1) (a.2), rfl⟩)

noncomputable def c17exam (s : Schema) (name : Str) (v : AVal) (keys : Bool) : Pg Int :=
  .lt (r14msgP s name) fun (v1 : Message × Bool) =>
    .br (!v1.snd) (.ret 10)
      (.lt (c17msgP s v1.fst v.re 1 keys) fun (v2 : Int) =>
        .br (v2 != 0) (.ret v2) (.lt (c17countP v.re) fun (v3 : Int) => .br (decide (4096 < v3)) (.ret 3) (.ret 0)))
noncomputable def c17examP (s : Schema) (name : Str) (v : AVal) (keys : Bool) : Int := (c17exam s name v keys).val

theorem c17exam_is (s : Schema) (name : Str) (v : AVal) (keys : Bool) : Is (c17exam s name v keys) :=
  is_lt fun v1 hv1 => is_br (fun _ => is_ret) (fun _ => is_lt fun v2 hv2 => is_bne (fun _ => is_ret) (fun _ => is_lt fun v3 hv3 => is_brd (fun _ => is_ret) (fun _ => is_ret)))
noncomputable def e_c17exam : Ent Z := entN Z [e_r14msg, e_c17msg, e_c17count] [] (args (aCons (aAgg cd_Schema) (aCons (aLf cStr) (aCons (aAgg cd_AVal) (a1 (aLf cBool)))))) (argsI (n := 31) rfl) (shr [.slot 0 false [none]] (l1 (cInt .i64))) [] Tryz.func53 Tryz.ntmps53 (by kernel_rfl) 1 rfl (fun a => c17exam (a.1) (a.2.1) (a.2.2.1) (a.2.2.2)) (fun a => none) (fun a e _ => by kernel_rfl) (fun a => c17examP (a.1) (a.2.1) (a.2.2.1) (a.2.2.2)) (fun a h => ⟨c17exam_is (a.1) (a.2.1) (a.2.2.1) (a.2.2.2), rfl⟩)

noncomputable def c17check (s : Schema) (name : Str) (v : AVal) : Pg Int :=
  .ret (c17examP s name v.re true)
noncomputable def c17checkP (s : Schema) (name : Str) (v : AVal) : Int := (c17check s name v).val

theorem c17check_is (s : Schema) (name : Str) (v : AVal) : Is (c17check s name v) :=
  is_ret
noncomputable def e_c17check : Ent Z := entN Z [e_c17exam] [] (args (aCons (aAgg cd_Schema) (aCons (aLf cStr) (a1 (aAgg cd_AVal))))) (argsI (n := 11) rfl) (shr [.slot 0 false [none]] (l1 (cInt .i64))) [] Tryz.func21 Tryz.ntmps21 (by kernel_rfl) 1 rfl (fun a => c17check (a.1) (a.2.1) (a.2.2)) (fun a => none) (fun a e _ => by kernel_rfl) (fun a => c17checkP (a.1) (a.2.1) (a.2.2)) (fun a h => ⟨c17check_is (a.1) (a.2.1) (a.2.2), rfl⟩)
end Go.Proofs.YtemjcccdcnhmhaaGreatDoor
