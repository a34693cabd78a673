/-
  Intercept: schemas.
-/
import Derived.Test.YtemjcccdcnhmhaaGreatDoorH
namespace Go.Proofs.YtemjcccdcnhmhaaGreatDoor
open Go.RowKit Go.Vc
set_option linter.unusedVariables false
set_option linter.unusedSimpArgs false
set_option maxRecDepth 100000

noncomputable def msgEq (m : Message) (name : Str) : Pg Bool :=
  .ret (m.Name == name)
noncomputable def msgEqP (m : Message) (name : Str) : Bool := (msgEq m name).val

theorem msgEq_is (m : Message) (name : Str) : Is (msgEq m name) :=
  is_ret
noncomputable def e_msgEq : Ent Z := entN Z [] [] (argsB (aCons (aAgg cd_Message) (a1 (aPtr 0))) (b1 (bCells cStr))) (argsBI (n := 8) rfl) (shr [.slot 0 false [none]] (l1 cBool)) [0] Tryz.func84 Tryz.ntmps84 (by kernel_rfl) 1 rfl (fun a => msgEq (a.1.1) (a.2)) (fun a => none) (fun a e _ => by kernel_rfl) (fun a => (a.1.1).Name == (a.2)) (fun a h => ⟨msgEq_is (a.1.1) (a.2), rfl⟩)

noncomputable def fldEq (f : AField) (num : Int) : Pg Bool :=
  .ret (f.Num == num)
noncomputable def fldEqP (f : AField) (num : Int) : Bool := (fldEq f num).val

theorem fldEq_is (f : AField) (num : Int) : Is (fldEq f num) :=
  is_ret
noncomputable def e_fldEq : Ent Z := entN Z [] [] (argsB (aCons (aAgg cd_AField) (a1 (aPtr 0))) (b1 (bCells (cInt .i64)))) (argsBI (n := 8) rfl) (shr [.slot 0 false [none]] (l1 cBool)) [0] Tryz.func86 Tryz.ntmps86 (by kernel_rfl) 1 rfl (fun a => fldEq (a.1.1) (a.2)) (fun a => none) (fun a e _ => by kernel_rfl) (fun a => (a.1.1).Num == (a.2)) (fun a h => ⟨fldEq_is (a.1.1) (a.2), rfl⟩)

noncomputable def notEq (n : Note) (name : Str) : Pg Bool :=
  .ret (n.Name == name)
noncomputable def notEqP (n : Note) (name : Str) : Bool := (notEq n name).val

theorem notEq_is (n : Note) (name : Str) : Is (notEq n name) :=
  is_ret
noncomputable def e_notEq : Ent Z := entN Z [] [] (argsB (aCons (aAgg cd_Note) (a1 (aPtr 0))) (b1 (bCells cStr))) (argsBI (n := 8) rfl) (shr [.slot 0 false [none]] (l1 cBool)) [0] Tryz.func137 Tryz.ntmps137 (by kernel_rfl) 1 rfl (fun a => notEq (a.1.1) (a.2)) (fun a => none) (fun a e _ => by kernel_rfl) (fun a => (a.1.1).Name == (a.2)) (fun a h => ⟨notEq_is (a.1.1) (a.2), rfl⟩)

noncomputable def firstM (l : List Message) (name : Str) : Pg (Message × Bool) :=
  .as (l.length ≤ 9223372036854775807)
    (.each false ixI l d_Message (fun (i1 : Int) (a3 : Message) (y2 : Unit) => .ix i1 l.length (.br (a3.Name == name) (.ret (.inr (a3, true))) (.ret (.inl ()))))
      (fun (i1 : Int) (y2 : Unit) => .ret (Message.mk [] [] [] [] [], false)) ())
noncomputable def firstMP (l : List Message) (name : Str) : Message × Bool := (firstM l name).val

theorem firstM_is (l : List Message) (name : Str) : Is (firstM l name) :=
  is_as fun _ => is_each (.inr (by omega)) (fun i1 y2 _ _ => is_ix (by omega) (by omega) (is_br (fun _ => is_ret) (fun _ => is_ret))) (fun y2 _ => is_ret)
noncomputable def e_firstM : Ent Z := entN Z [e_msgEq] [jS 2 (shp (fun sl => [.slot 11 false [none]]) (l1 (cInt .i64)))] (argsB (aCons (aLf cd_LMessage) (a1 (aFn 84 [0]))) (b1 (bCells cStr))) (argsBI (n := 21) rfl) (shr [.slot 0 true [none, none, none, none, none], .slot 1 false [none]] (lCons cd_Message (l1 cBool))) [0] Tryz.func83 Tryz.ntmps83 (by kernel_rfl) 2 rfl (fun a => firstM (a.1.1) (a.2)) (fun a => none) (fun a e _ => by kernel_rfl) (fun a => firstMP (a.1.1) (a.2)) (fun a h => ⟨firstM_is (a.1.1) (a.2), rfl⟩)

noncomputable def firstF (l : List AField) (num : Int) : Pg (AField × Bool) :=
  .as (l.length ≤ 9223372036854775807)
    (.each false ixI l d_AField
      (fun (i1 : Int) (a3 : AField) (y2 : Unit) =>
        .ix i1 l.length
          (.br (a3.Num == num) (.ret (.inr (AField.mk a3.Num a3.Name a3.Card a3.Key a3.Type_ a3.Union a3.HasDefault a3.Default.re a3.Notes, true))) (.ret (.inl ()))))
      (fun (i1 : Int) (y2 : Unit) => .ret (AField.mk 0 [] 0 0 (AType.mk 0 []) [] false (AVal.mk 0 0 [] [] [] [] []) [], false)) ())
noncomputable def firstFP (l : List AField) (num : Int) : AField × Bool := (firstF l num).val

theorem firstF_is (l : List AField) (num : Int) : Is (firstF l num) :=
  is_as fun _ => is_each (.inr (by omega)) (fun i1 y2 _ _ => is_ix (by omega) (by omega) (is_beq (fun _ => is_ret) (fun _ => is_ret))) (fun y2 _ => is_ret)
noncomputable def e_firstF : Ent Z := entN Z [e_fldEq] [jS 2 (shp (fun sl => [.slot 11 false [none]]) (l1 (cInt .i64)))] (argsB (aCons (aLf cd_LAField) (a1 (aFn 86 [0]))) (b1 (bCells (cInt .i64)))) (argsBI (n := 21) rfl) (shr [.slot 0 true [none, none, none, none, none, none, none, none, none, none, none, none, none, none, none, none], .slot 1 false [none]] (lCons cd_AField (l1 cBool))) [0] Tryz.func85 Tryz.ntmps85 (by kernel_rfl) 2 rfl (fun a => firstF (a.1.1) (a.2)) (fun a => none) (fun a e _ => by kernel_rfl) (fun a => firstFP (a.1.1) (a.2)) (fun a h => ⟨firstF_is (a.1.1) (a.2), rfl⟩)

noncomputable def dMessage (s : Schema) (name : Str) : Pg (Message × Bool) :=
  .ret (firstMP s.Messages name)
noncomputable def dMessageP (s : Schema) (name : Str) : Message × Bool := (dMessage s name).val

theorem dMessage_is (s : Schema) (name : Str) : Is (dMessage s name) :=
  is_ret
noncomputable def e_dMessage : Ent Z := entN Z [e_firstM, e_msgEq] [] (args (aCons (aAgg cd_Schema) (a1 (aLf cStr)))) (argsI (n := 12) rfl) (shr [.slot 0 true [none, none, none, none, none], .slot 1 false [none]] (lCons cd_Message (l1 cBool))) [] Tryz.func45 Tryz.ntmps45 (by kernel_rfl) 2 rfl (fun a => dMessage (a.1) (a.2)) (fun a => none) (fun a e _ => by kernel_rfl) (fun a => dMessageP (a.1) (a.2)) (fun a h => ⟨dMessage_is (a.1) (a.2), rfl⟩)

noncomputable def dField (m : Message) (num : Int) : Pg (AField × Bool) :=
  .lt (firstFP m.Fields num) fun (v1 : AField × Bool) =>
    .ret (AField.mk v1.fst.Num v1.fst.Name v1.fst.Card v1.fst.Key v1.fst.Type_ v1.fst.Union v1.fst.HasDefault v1.fst.Default.re v1.fst.Notes, v1.snd)
noncomputable def dFieldP (m : Message) (num : Int) : AField × Bool := (dField m num).val

theorem dField_is (m : Message) (num : Int) : Is (dField m num) :=
  is_lt fun v1 hv1 => is_ret
noncomputable def e_dField : Ent Z := entN Z [e_firstF, e_fldEq] [] (args (aCons (aAgg cd_Message) (a1 (aLf (cInt .i64))))) (argsI (n := 12) rfl) (shr [.slot 0 true [none, none, none, none, none, none, none, none, none, none, none, none, none, none, none, none], .slot 1 false [none]] (lCons cd_AField (l1 cBool))) [] Tryz.func46 Tryz.ntmps46 (by kernel_rfl) 2 rfl (fun a => dField (a.1) (a.2)) (fun a => none) (fun a e _ => by kernel_rfl) (fun a => dFieldP (a.1) (a.2)) (fun a h => ⟨dField_is (a.1) (a.2), rfl⟩)

noncomputable def noIx (l : List Note) (name : Str) : Pg Int :=
  .as (l.length ≤ 9223372036854775807)
    (.each false ixI l d_Note (fun (i1 : Int) (a3 : Note) (y2 : Unit) => .ix i1 l.length (.br (a3.Name == name) (.ret (.inr i1)) (.ret (.inl ()))))
      (fun (i1 : Int) (y2 : Unit) => .ret (-1)) ())
noncomputable def noIxP (l : List Note) (name : Str) : Int := (noIx l name).val

theorem noIx_is (l : List Note) (name : Str) : Is (noIx l name) :=
  is_as fun _ => is_each (.inr (by omega)) (fun i1 y2 _ _ => is_ix (by omega) (by omega) (is_br (fun _ => is_ret) (fun _ => is_ret))) (fun y2 _ => is_ret)
noncomputable def e_noIx : Ent Z := entN Z [e_notEq] [jS 2 (shp (fun sl => [.slot 8 false [none]]) (l1 (cInt .i64)))] (argsB (aCons (aLf cd_LNote) (a1 (aFn 137 [0]))) (b1 (bCells cStr))) (argsBI (n := 19) rfl) (shr [.slot 0 false [none]] (l1 (cInt .i64))) [0] Tryz.func136 Tryz.ntmps136 (by kernel_rfl) 1 rfl (fun a => noIx (a.1.1) (a.2)) (fun a => none) (fun a e _ => by kernel_rfl) (fun a => ixOf (fun (n : Note) => n.Name == (a.2)) (a.1.1)) (fun a h => ⟨noIx_is (a.1.1) (a.2), (fun l name => forE_ix (fun (n : Note) => n.Name == name) l 0) (a.1.1) (a.2)⟩)

noncomputable def noteIndex (l : List Note) (name : Str) : Pg Int :=
  .ret (ixOf (fun (n : Note) => n.Name == name) l)
noncomputable def noteIndexP (l : List Note) (name : Str) : Int := (noteIndex l name).val

theorem noteIndex_is (l : List Note) (name : Str) : Is (noteIndex l name) :=
  is_ret
noncomputable def e_noteIndex : Ent Z := entN Z [e_noIx, e_notEq] [] (args (aCons (aLf cd_LNote) (a1 (aLf cStr)))) (argsI (n := 8) rfl) (shr [.slot 0 false [none]] (l1 (cInt .i64))) [] Tryz.func113 Tryz.ntmps113 (by kernel_rfl) 1 rfl (fun a => noteIndex (a.1) (a.2)) (fun a => none) (fun a e _ => by kernel_rfl) (fun a => noteIndexP (a.1) (a.2)) (fun a h => ⟨noteIndex_is (a.1) (a.2), rfl⟩)

noncomputable def noteFind (l : List Note) (name : Str) : Pg (AVal × Bool) :=
  .lt (noteIndexP l name) fun (v1 : Int) =>
    .br (decide (v1 < 0)) (.ret (AVal.mk 0 0 [] [] [] [] [], false)) (.ix v1 l.length (.ret ((l.getD v1.toNat d_Note).Val.re, true)))
noncomputable def noteFindP (l : List Note) (name : Str) : AVal × Bool := (noteFind l name).val

theorem noteFind_is (l : List Note) (name : Str) : Is (noteFind l name) :=
  is_lt fun v1 hv1 => is_brd (fun _ => is_ret) (fun _ => is_ix (by omega) (by have := ixOf_lt (fun (n : Note) => n.Name == name) l; rw [hv1]; exact this.1) (is_ret))
noncomputable def e_noteFind : Ent Z := entN Z [e_noteIndex] [] (args (aCons (aLf cd_LNote) (a1 (aLf cStr)))) (argsI (n := 18) rfl) (shr [.slot 0 true [none, none, none, none, none, none, none], .slot 1 false [none]] (lCons cd_AVal (l1 cBool))) [] Tryz.func87 Tryz.ntmps87 (by kernel_rfl) 2 rfl (fun a => noteFind (a.1) (a.2)) (fun a => none) (fun a e _ => by kernel_rfl) (fun a => noteFindP (a.1) (a.2)) (fun a h => ⟨noteFind_is (a.1) (a.2), rfl⟩)

noncomputable def flag (l : List Note) (name : Str) : Pg Bool :=
  .lt (noteFindP l name) fun (v1 : AVal × Bool) => .br v1.snd (.br (v1.fst.Kind == 1) (.ret (v1.fst.Bits == 1)) (.ret false)) (.ret false)
noncomputable def flagP (l : List Note) (name : Str) : Bool := (flag l name).val

theorem flag_is (l : List Note) (name : Str) : Is (flag l name) :=
  is_lt fun v1 hv1 => is_br (fun _ => is_beq (fun _ => is_ret) (fun _ => is_ret)) (fun _ => is_ret)
noncomputable def e_flag : Ent Z := entN Z [e_noteFind] [] (args (aCons (aLf cd_LNote) (a1 (aLf cStr)))) (argsI (n := 24) rfl) (shr [.slot 0 false [none]] (l1 cBool)) [] Tryz.func47 Tryz.ntmps47 (by kernel_rfl) 1 rfl (fun a => flag (a.1) (a.2)) (fun a => none) (fun a e _ => by kernel_rfl) (fun a => flagP (a.1) (a.2)) (fun a h => ⟨flag_is (a.1) (a.2), rfl⟩)

noncomputable def cloneV (l : List AVal) : Pg (List AVal) :=
  .unk false (fun (b : Bool) => b = true → l.length = 0) (.ret []) (.ob (roomP (0 + l.length) 128) (.ret l))
noncomputable def cloneVP (l : List AVal) : List AVal := (cloneV l).val

theorem cloneV_is (l : List AVal) (h : l.length ≤ 1000000) : Is (cloneV l) :=
  is_clone (room_of (by omega) (by omega))
noncomputable def e_cloneV : Ent Z := entN Z [] [] (args (a1 (aLf cd_LAVal))) (argsI (n := 8) rfl) (shr [.slot 0 false [some 46]] (l1 cd_LAVal)) [] Tryz.func88 Tryz.ntmps88 (by kernel_rfl) 1 rfl (fun a => cloneV a) (fun a => some (a.length ≤ 1000000)) (fun a e _ => by kernel_rfl) (fun a => a) (fun a h => ⟨cloneV_is a h, rfl⟩)

noncomputable def cloneP (l : List Pair) : Pg (List Pair) :=
  .unk false (fun (b : Bool) => b = true → l.length = 0) (.ret []) (.ob (roomP (0 + l.length) 256) (.ret l))
noncomputable def clonePP (l : List Pair) : List Pair := (cloneP l).val

theorem cloneP_is (l : List Pair) (h : l.length ≤ 1000000) : Is (cloneP l) :=
  is_clone (room_of (by omega) (by omega))
noncomputable def e_cloneP : Ent Z := entN Z [] [] (args (a1 (aLf cd_LPair))) (argsI (n := 8) rfl) (shr [.slot 0 false [some 96]] (l1 cd_LPair)) [] Tryz.func89 Tryz.ntmps89 (by kernel_rfl) 1 rfl (fun a => cloneP a) (fun a => some (a.length ≤ 1000000)) (fun a e _ => by kernel_rfl) (fun a => a) (fun a h => ⟨cloneP_is a h, rfl⟩)
end Go.Proofs.YtemjcccdcnhmhaaGreatDoor
