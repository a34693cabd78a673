/-
  Intercept: lists.
-/
import Derived.Test.YtemjcccdcnhmhaaGreatDoorS
import Derived.Test.YtemjcccdcnhmhaaGreatDoorEng10
import Derived.Test.YtemjcccdcnhmhaaGreatDoorEng3
import Derived.WalkKit
import Derived.WalkSpells
import Derived.Lib.Overlaps
import Derived.Lib.AppendZeros
import Derived.Laws.Externs
import Derived.Shelf.RegionOpenPlain
import Derived.Lib.Walk
import Derived.Shelf.Spec.SlicesInsert
namespace Go.Proofs.YtemjcccdcnhmhaaGreatDoor
open Go.RowKit Go.Vc
set_option linter.unusedVariables false
set_option linter.unusedSimpArgs false
set_option maxRecDepth 100000

def gtS (a b : Str) : Bool := !(Op.bytesLess a b || a == b)

noncomputable def cloneM (l : List AMeta) : Pg (List AMeta) :=
  .unk false (fun (b : Bool) => b = true → l.length = 0) (.ret []) (.ob (roomP (0 + l.length) 32) (.ret l))
noncomputable def cloneMP (l : List AMeta) : List AMeta := (cloneM l).val

theorem cloneM_is (l : List AMeta) (h : l.length ≤ 1000000) : Is (cloneM l) :=
  is_clone (room_of (by omega) (by omega))
noncomputable def e_cloneM : Ent Z := entN Z [] [] (args (a1 (aLf cd_LMeta))) (argsI (n := 8) rfl) (shr [.slot 0 false [some 92]] (l1 cd_LMeta)) [] Tryz.func57 Tryz.ntmps57 (by kernel_rfl) 1 rfl (fun a => cloneM a) (fun a => some (a.length ≤ 1000000)) (fun a e _ => by kernel_rfl) (fun a => a) (fun a h => ⟨cloneM_is a h, rfl⟩)

noncomputable def cloneT (l : List Trace) : Pg (List Trace) :=
  .unk false (fun (b : Bool) => b = true → l.length = 0) (.ret []) (.ob (roomP (0 + l.length) 40) (.ret l))
noncomputable def cloneTP (l : List Trace) : List Trace := (cloneT l).val

theorem cloneT_is (l : List Trace) (h : l.length ≤ 1000000) : Is (cloneT l) :=
  is_clone (room_of (by omega) (by omega))
noncomputable def e_cloneT : Ent Z := entN Z [] [] (args (a1 (aLf cd_LTrace))) (argsI (n := 8) rfl) (shr [.slot 0 false [some 82]] (l1 cd_LTrace)) [] Tryz.func68 Tryz.ntmps68 (by kernel_rfl) 1 rfl (fun a => cloneT a) (fun a => some (a.length ≤ 1000000)) (fun a e _ => by kernel_rfl) (fun a => a) (fun a h => ⟨cloneT_is a h, rfl⟩)

noncomputable def cloneI (l : List Int) : Pg (List Int) :=
  .unk false (fun (b : Bool) => b = true → l.length = 0) (.ret []) (.ob (roomP (0 + l.length) 8) (.ret l))
noncomputable def cloneIP (l : List Int) : List Int := (cloneI l).val

theorem cloneI_is (l : List Int) (h : l.length ≤ 1000000) : Is (cloneI l) :=
  is_clone (room_of (by omega) (by omega))
noncomputable def e_cloneI : Ent Z := entN Z [] [] (args (a1 (aLf cd_Li64))) (argsI (n := 8) rfl) (shr [.slot 0 false [some 3]] (l1 cd_Li64)) [] Tryz.func73 Tryz.ntmps73 (by kernel_rfl) 1 rfl (fun a => cloneI a) (fun a => some (a.length ≤ 1000000)) (fun a e _ => by kernel_rfl) (fun a => a) (fun a h => ⟨cloneI_is a h, rfl⟩)

noncomputable def stEq (m : AMeta) (key : Str) : Pg Bool :=
  .ret (m.Key == key)
noncomputable def stEqP (m : AMeta) (key : Str) : Bool := (stEq m key).val

theorem stEq_is (m : AMeta) (key : Str) : Is (stEq m key) :=
  is_ret
noncomputable def e_stEq : Ent Z := entN Z [] [] (argsB (aCons (aAgg cd_Meta) (a1 (aPtr 0))) (b1 (bCells cStr))) (argsBI (n := 8) rfl) (shr [.slot 0 false [none]] (l1 cBool)) [0] Tryz.func59 Tryz.ntmps59 (by kernel_rfl) 1 rfl (fun a => stEq (a.1.1) (a.2)) (fun a => none) (fun a e _ => by kernel_rfl) (fun a => (a.1.1).Key == (a.2)) (fun a h => ⟨stEq_is (a.1.1) (a.2), rfl⟩)

noncomputable def stGt (m : AMeta) (key : Str) : Pg Bool :=
  .ret !(Op.bytesLess m.Key key || m.Key == key)
noncomputable def stGtP (m : AMeta) (key : Str) : Bool := (stGt m key).val

theorem stGt_is (m : AMeta) (key : Str) : Is (stGt m key) :=
  is_ret
noncomputable def e_stGt : Ent Z := entN Z [] [] (argsB (aCons (aAgg cd_Meta) (a1 (aPtr 0))) (b1 (bCells cStr))) (argsBI (n := 8) rfl) (shr [.slot 0 false [none]] (l1 cBool)) [0] Tryz.func60 Tryz.ntmps60 (by kernel_rfl) 1 rfl (fun a => stGt (a.1.1) (a.2)) (fun a => none) (fun a e _ => by kernel_rfl) (fun a => gtS (a.1.1).Key (a.2)) (fun a h => ⟨stGt_is (a.1.1) (a.2), rfl⟩)

noncomputable def ixEq (l : List AMeta) (key : Str) : Pg Int :=
  .as (l.length ≤ 9223372036854775807)
    (.each false ixI l d_Meta (fun (i1 : Int) (a3 : AMeta) (y2 : Unit) => .ix i1 l.length (.br (a3.Key == key) (.ret (.inr i1)) (.ret (.inl ()))))
      (fun (i1 : Int) (y2 : Unit) => .ret (-1)) ())
noncomputable def ixEqP (l : List AMeta) (key : Str) : Int := (ixEq l key).val

theorem ixEq_is (l : List AMeta) (key : Str) : Is (ixEq l key) :=
  is_as fun _ => is_each (.inr (by omega)) (fun i1 y2 _ _ => is_ix (by omega) (by omega) (is_br (fun _ => is_ret) (fun _ => is_ret))) (fun y2 _ => is_ret)
noncomputable def e_ixEq : Ent Z := entN Z [e_stEq] [jS 2 (shp (fun sl => [.slot 8 false [none]]) (l1 (cInt .i64)))] (argsB (aCons (aLf cd_LMeta) (a1 (aFn 59 [0]))) (b1 (bCells cStr))) (argsBI (n := 19) rfl) (shr [.slot 0 false [none]] (l1 (cInt .i64))) [0] Tryz.func58 Tryz.ntmps58 (by kernel_rfl) 1 rfl (fun a => ixEq (a.1.1) (a.2)) (fun a => none) (fun a e _ => by kernel_rfl) (fun a => ixOf (fun (m : AMeta) => m.Key == (a.2)) (a.1.1)) (fun a h => ⟨ixEq_is (a.1.1) (a.2), (fun l key => forE_ix (fun (m : AMeta) => m.Key == key) l 0) (a.1.1) (a.2)⟩)

noncomputable def ixGt (l : List AMeta) (key : Str) : Pg Int :=
  .as (l.length ≤ 9223372036854775807)
    (.each false ixI l d_Meta (fun (i1 : Int) (a3 : AMeta) (y2 : Unit) => .ix i1 l.length (.br (gtS a3.Key key) (.ret (.inr i1)) (.ret (.inl ()))))
      (fun (i1 : Int) (y2 : Unit) => .ret (-1)) ())
noncomputable def ixGtP (l : List AMeta) (key : Str) : Int := (ixGt l key).val

theorem ixGt_is (l : List AMeta) (key : Str) : Is (ixGt l key) :=
  is_as fun _ => is_each (.inr (by omega)) (fun i1 y2 _ _ => is_ix (by omega) (by omega) (is_br (fun _ => is_ret) (fun _ => is_ret))) (fun y2 _ => is_ret)
noncomputable def e_ixGt : Ent Z := entN Z [e_stGt] [jS 2 (shp (fun sl => [.slot 8 false [none]]) (l1 (cInt .i64)))] (argsB (aCons (aLf cd_LMeta) (a1 (aFn 60 [0]))) (b1 (bCells cStr))) (argsBI (n := 19) rfl) (shr [.slot 0 false [none]] (l1 (cInt .i64))) [0] Tryz.func58 Tryz.ntmps58 (by kernel_rfl) 1 rfl (fun a => ixGt (a.1.1) (a.2)) (fun a => none) (fun a e _ => by kernel_rfl) (fun a => ixOf (fun (m : AMeta) => gtS m.Key (a.2)) (a.1.1)) (fun a h => ⟨ixGt_is (a.1.1) (a.2), (fun l key => forE_ix (fun (m : AMeta) => gtS m.Key key) l 0) (a.1.1) (a.2)⟩)

set_option maxHeartbeats 1000000 in
theorem insM_ins_shift (b n c i m vb vc : Nat) (w w1 w2 : World) (hi : i < n) (hm : 0 < m) (hroom : n + m ≤ c) (hc : c ≤ 9223372036854775807)
    (hov : ∀ lb cb x, (callFunc 97 #[.slice (some ⟨vb, 0, none⟩) m vc, .slice (some ⟨b, x, none⟩) lb cb]).run Tryz.prog w = .ok (.value (.bool false)) w)
    (hcp1 : ∀ ty dc sc, (Builtin.copy_ #[24, 24] ty #[.slice (some ⟨b, (i + m) * 2, none⟩) (n + m - (i + m)) dc, .slice (some ⟨b, i * 2, none⟩) (n + m - i) sc]).run Tryz.prog w.drew = .ok (goInt (n - i : Nat)) w1)
    (hcp2 : ∀ ty dc, (Builtin.copy_ #[24, 24] ty #[.slice (some ⟨b, i * 2, none⟩) (n + m - i) dc, .slice (some ⟨vb, 0, none⟩) m vc]).run Tryz.prog w1 = .ok (goInt m) w2) :
    Calls Tryz.prog 61 #[.slice (some ⟨b, 0, none⟩) n c, .int .i64 i, .slice (some ⟨vb, 0, none⟩) m vc] w fun e w' => e = .returned (.slice (some ⟨b, 0, none⟩) (n + m) c) ∧ w' = w2 := by
  have hz1 : ¬ ((m : Int) = 0) := by omega
  have hz2 : ¬ ((i : Int) = (n : Int)) := by omega
  have hw1 : IntKind.i64.wrap ((i : Int) + (m : Int)) = (i : Int) + (m : Int) := by rw [IntKind.wrap_i64]; omega
  have hw2 : IntKind.i64.wrap ((n : Int) + (m : Int)) = (n : Int) + (m : Int) := by rw [IntKind.wrap_i64]; omega
  have hb1 : (0 : Int) ≤ (i : Int) + (m : Int) := by omega
  have hin : i ≤ n := by omega
  have htn : ((i : Int) + (m : Int)).toNat = i + m := by omega
  have htn2 : ((n : Int) + (m : Int)).toNat = n + m := by omega
  have hb2 : ¬ (c = i + m) := by omega
  have hb3 : (i : Int) ≤ (n : Int) + (m : Int) := by omega
  have hb4 : ¬ (c = i) := by omega
  have mixed : Tryz.prog.follows Departure.mixedOrders = true := by kernel_rfl
  go_enter Tryz.func61, Tryz.ntmps61
  go_wp2_with (simp only [hov])
  go_region_law_o (refine step_copy_runI rfl _ _ 24 24 rfl _ _ (by simp [Act.eval, Act.put]) (by simp [Act.eval, Act.put]) (hcp1 _ _ _) ?_)
  go_wp2_with (at_builtin; refine wpList_copy_runI _ rfl _ _ 24 24 rfl _ _ rfl rfl (hcp2 _ _) ?_)
  go_ret
  exact ⟨rfl, rfl⟩
set_option maxHeartbeats 1000000 in
theorem insM_ins_grow (b n c i m h cc vb vc : Nat) (w w1 w2 w3 : World) (hi : i < n) (hm : 0 < m) (hnc : n ≤ c) (hroom : c < n + m) (hcc : n + m ≤ cc) (hc : n + m ≤ 9223372036854775807)
    (hap : ∀ ty, (Builtin.append_ #[24, 3] ty #[.slice (some ⟨b, 0, none⟩) i c, .int .i64 ((n : Int) + m - i)]).run Tryz.prog w = .ok (.slice (some ⟨h, 0, none⟩) (n + m) cc) w1)
    (hcp1 : ∀ ty dc, (Builtin.copy_ #[24, 24] ty #[.slice (some ⟨h, i * 2, none⟩) (n + m - i) dc, .slice (some ⟨vb, 0, none⟩) m vc]).run Tryz.prog w1 = .ok (goInt m) w2)
    (hcp2 : ∀ ty dc sc, (Builtin.copy_ #[24, 24] ty #[.slice (some ⟨h, (i + m) * 2, none⟩) (n + m - (i + m)) dc, .slice (some ⟨b, i * 2, none⟩) (n - i) sc]).run Tryz.prog w2.drew = .ok (goInt (n - i : Nat)) w3) :
    Calls Tryz.prog 61 #[.slice (some ⟨b, 0, none⟩) n c, .int .i64 i, .slice (some ⟨vb, 0, none⟩) m vc] w fun e w' => e = .returned (.slice (some ⟨h, 0, none⟩) (n + m) cc) ∧ w' = w3 := by
  have hz1 : ¬ ((m : Int) = 0) := by omega
  have hz2 : ¬ ((i : Int) = (n : Int)) := by omega
  have hw1 : IntKind.i64.wrap ((i : Int) + (m : Int)) = (i : Int) + (m : Int) := by rw [IntKind.wrap_i64]; omega
  have hw2 : IntKind.i64.wrap ((n : Int) + (m : Int)) = (n : Int) + (m : Int) := by rw [IntKind.wrap_i64]; omega
  have hw3 : IntKind.i64.wrap ((n : Int) + (m : Int) - (i : Int)) = (n : Int) + (m : Int) - (i : Int) := by rw [IntKind.wrap_i64]; omega
  have hb1 : (0 : Int) ≤ (i : Int) + (m : Int) := by omega
  have hin : i ≤ n := by omega
  have hic : i ≤ c := by omega
  have htn : ((i : Int) + (m : Int)).toNat = i + m := by omega
  have htn2 : ((n : Int) + (m : Int)).toNat = n + m := by omega
  have hb2 : ¬ (cc = i + m) := by omega
  have hb3 : (i : Int) ≤ (n : Int) + (m : Int) := by omega
  have hb4 : ¬ (c = i) := by omega
  have hb5 : ¬ (cc = i) := by omega
  have hb6 : i ≤ n + m := by omega
  have hb7 : i + m ≤ n + m := by omega
  have hb8 : ¬ ((n : Int) + (m : Int) ≤ (c : Int)) := by omega
  have hb9 : (c : Int) < (n : Int) + (m : Int) := by omega
  have mixed : Tryz.prog.follows Departure.mixedOrders = true := by kernel_rfl
  go_enter Tryz.func61, Tryz.ntmps61
  go_wp2_with (at_builtin; refine Lib.wpList_append_run _ rfl _ _ 24 3 rfl _ _ rfl rfl _ _ (hap _) ?_)
  go_wp2_with (at_builtin; refine wpList_copy_runI _ rfl _ _ 24 24 rfl _ _ rfl rfl (hcp1 _ _) ?_)
  go_region_law_o (refine step_copy_runI rfl _ _ 24 24 rfl _ _ (by simp [Act.eval, Act.put]) (by simp [Act.eval, Act.put]) (hcp2 _ _ _) ?_)
  go_wp2
  go_ret
  exact ⟨rfl, rfl⟩
set_option maxHeartbeats 1000000 in
theorem insM_ins_end (a a2 : Option Addr) (n c m c2 : Nat) (v' : Value) (w w' : World) (hm : 0 < m) (hnc : n ≤ c) (h63 : n ≤ 9223372036854775807)
    (hap : ∀ ty, (Builtin.append_ #[24, 24] ty #[.slice a n c, .slice a2 m c2]).run Tryz.prog w = .ok v' w') :
    Calls Tryz.prog 61 #[.slice a n c, .int .i64 n, .slice a2 m c2] w fun e w1 => e = .returned v' ∧ w1 = w' := by
  have hz1 : ¬ ((m : Int) = 0) := by omega
  have mixed : Tryz.prog.follows Departure.mixedOrders = true := by kernel_rfl
  go_enter Tryz.func61, Tryz.ntmps61
  go_wp2_with (at_builtin; refine Lib.wpList_append_run _ rfl _ _ 24 24 rfl _ _ rfl rfl _ _ (hap _) ?_)
  all_goals (go_ret; exact ⟨rfl, rfl⟩)
theorem insM_ins_walk : InsWalk Tryz.prog 61 24 3 97 2 :=
  ⟨fun b n c i m vb vc w w1 w2 h1 h2 h3 h4 h5 h6 h7 => insM_ins_shift b n c i m vb vc w w1 w2 h1 h2 h3 h4 h5 h6 h7, fun b n c i m h cc vb vc w w1 w2 w3 h1 h2 h3 h4 h5 h6 h7 h8 h9 => insM_ins_grow b n c i m h cc vb vc w w1 w2 w3 h1 h2 h3 h4 h5 h6 h7 h8 h9, insM_ins_end⟩
noncomputable def ct_insM : Ct D := ctIns S 92 2 32
theorem ct_insM_ok : CtOk Tryz.prog S 61 ct_insM := by
  obtain ⟨inf, z, h1, h2, h3, h4, h5⟩ := ty_info (T_ok 92 _ rfl)
  refine ctIns_ok (tb := 4) (kn := .i64) (inf := inf) (z := z) S_ok (fun args w => ?_) insM_ins_walk (by decide) Tryz.underlying24 Tryz.underlying3 (fun w => ty_size (T_ok 92 _ rfl) w) (fun args w => ?_) h1 h2 h3 h4 ?_
  · have hf := Tryz.func61
    have hnm : ¬ Tryz.f61.name = "runtime.NumGoroutine" := by decide +kernel
    obtain ⟨c, hc⟩ : ∃ c, Tryz.f61.body = some c := ⟨_, rfl⟩
    simp [callFunc, hf, hnm, hc]
  · exact run_callFunc_extern Tryz.func97 (by kernel_rfl) (by kernel_rfl) (by kernel_rfl) (by kernel_rfl) args w
  · rw [← Array.length_toList, h5]
    rfl

noncomputable def e_insM : Ent Z := ⟨61, ct_insM, ct_insM_ok⟩

set_option maxHeartbeats 1000000 in
theorem insT_ins_shift (b n c i m vb vc : Nat) (w w1 w2 : World) (hi : i < n) (hm : 0 < m) (hroom : n + m ≤ c) (hc : c ≤ 9223372036854775807)
    (hov : ∀ lb cb x, (callFunc 102 #[.slice (some ⟨vb, 0, none⟩) m vc, .slice (some ⟨b, x, none⟩) lb cb]).run Tryz.prog w = .ok (.value (.bool false)) w)
    (hcp1 : ∀ ty dc sc, (Builtin.copy_ #[23, 23] ty #[.slice (some ⟨b, (i + m) * 2, none⟩) (n + m - (i + m)) dc, .slice (some ⟨b, i * 2, none⟩) (n + m - i) sc]).run Tryz.prog w.drew = .ok (goInt (n - i : Nat)) w1)
    (hcp2 : ∀ ty dc, (Builtin.copy_ #[23, 23] ty #[.slice (some ⟨b, i * 2, none⟩) (n + m - i) dc, .slice (some ⟨vb, 0, none⟩) m vc]).run Tryz.prog w1 = .ok (goInt m) w2) :
    Calls Tryz.prog 72 #[.slice (some ⟨b, 0, none⟩) n c, .int .i64 i, .slice (some ⟨vb, 0, none⟩) m vc] w fun e w' => e = .returned (.slice (some ⟨b, 0, none⟩) (n + m) c) ∧ w' = w2 := by
  have hz1 : ¬ ((m : Int) = 0) := by omega
  have hz2 : ¬ ((i : Int) = (n : Int)) := by omega
  have hw1 : IntKind.i64.wrap ((i : Int) + (m : Int)) = (i : Int) + (m : Int) := by rw [IntKind.wrap_i64]; omega
  have hw2 : IntKind.i64.wrap ((n : Int) + (m : Int)) = (n : Int) + (m : Int) := by rw [IntKind.wrap_i64]; omega
  have hb1 : (0 : Int) ≤ (i : Int) + (m : Int) := by omega
  have hin : i ≤ n := by omega
  have htn : ((i : Int) + (m : Int)).toNat = i + m := by omega
  have htn2 : ((n : Int) + (m : Int)).toNat = n + m := by omega
  have hb2 : ¬ (c = i + m) := by omega
  have hb3 : (i : Int) ≤ (n : Int) + (m : Int) := by omega
  have hb4 : ¬ (c = i) := by omega
  have mixed : Tryz.prog.follows Departure.mixedOrders = true := by kernel_rfl
  go_enter Tryz.func72, Tryz.ntmps72
  go_wp2_with (simp only [hov])
  go_region_law_o (refine step_copy_runI rfl _ _ 23 23 rfl _ _ (by simp [Act.eval, Act.put]) (by simp [Act.eval, Act.put]) (hcp1 _ _ _) ?_)
  go_wp2_with (at_builtin; refine wpList_copy_runI _ rfl _ _ 23 23 rfl _ _ rfl rfl (hcp2 _ _) ?_)
  go_ret
  exact ⟨rfl, rfl⟩
set_option maxHeartbeats 1000000 in
theorem insT_ins_grow (b n c i m h cc vb vc : Nat) (w w1 w2 w3 : World) (hi : i < n) (hm : 0 < m) (hnc : n ≤ c) (hroom : c < n + m) (hcc : n + m ≤ cc) (hc : n + m ≤ 9223372036854775807)
    (hap : ∀ ty, (Builtin.append_ #[23, 3] ty #[.slice (some ⟨b, 0, none⟩) i c, .int .i64 ((n : Int) + m - i)]).run Tryz.prog w = .ok (.slice (some ⟨h, 0, none⟩) (n + m) cc) w1)
    (hcp1 : ∀ ty dc, (Builtin.copy_ #[23, 23] ty #[.slice (some ⟨h, i * 2, none⟩) (n + m - i) dc, .slice (some ⟨vb, 0, none⟩) m vc]).run Tryz.prog w1 = .ok (goInt m) w2)
    (hcp2 : ∀ ty dc sc, (Builtin.copy_ #[23, 23] ty #[.slice (some ⟨h, (i + m) * 2, none⟩) (n + m - (i + m)) dc, .slice (some ⟨b, i * 2, none⟩) (n - i) sc]).run Tryz.prog w2.drew = .ok (goInt (n - i : Nat)) w3) :
    Calls Tryz.prog 72 #[.slice (some ⟨b, 0, none⟩) n c, .int .i64 i, .slice (some ⟨vb, 0, none⟩) m vc] w fun e w' => e = .returned (.slice (some ⟨h, 0, none⟩) (n + m) cc) ∧ w' = w3 := by
  have hz1 : ¬ ((m : Int) = 0) := by omega
  have hz2 : ¬ ((i : Int) = (n : Int)) := by omega
  have hw1 : IntKind.i64.wrap ((i : Int) + (m : Int)) = (i : Int) + (m : Int) := by rw [IntKind.wrap_i64]; omega
  have hw2 : IntKind.i64.wrap ((n : Int) + (m : Int)) = (n : Int) + (m : Int) := by rw [IntKind.wrap_i64]; omega
  have hw3 : IntKind.i64.wrap ((n : Int) + (m : Int) - (i : Int)) = (n : Int) + (m : Int) - (i : Int) := by rw [IntKind.wrap_i64]; omega
  have hb1 : (0 : Int) ≤ (i : Int) + (m : Int) := by omega
  have hin : i ≤ n := by omega
  have hic : i ≤ c := by omega
  have htn : ((i : Int) + (m : Int)).toNat = i + m := by omega
  have htn2 : ((n : Int) + (m : Int)).toNat = n + m := by omega
  have hb2 : ¬ (cc = i + m) := by omega
  have hb3 : (i : Int) ≤ (n : Int) + (m : Int) := by omega
  have hb4 : ¬ (c = i) := by omega
  have hb5 : ¬ (cc = i) := by omega
  have hb6 : i ≤ n + m := by omega
  have hb7 : i + m ≤ n + m := by omega
  have hb8 : ¬ ((n : Int) + (m : Int) ≤ (c : Int)) := by omega
  have hb9 : (c : Int) < (n : Int) + (m : Int) := by omega
  have mixed : Tryz.prog.follows Departure.mixedOrders = true := by kernel_rfl
  go_enter Tryz.func72, Tryz.ntmps72
  go_wp2_with (at_builtin; refine Lib.wpList_append_run _ rfl _ _ 23 3 rfl _ _ rfl rfl _ _ (hap _) ?_)
  go_wp2_with (at_builtin; refine wpList_copy_runI _ rfl _ _ 23 23 rfl _ _ rfl rfl (hcp1 _ _) ?_)
  go_region_law_o (refine step_copy_runI rfl _ _ 23 23 rfl _ _ (by simp [Act.eval, Act.put]) (by simp [Act.eval, Act.put]) (hcp2 _ _ _) ?_)
  go_wp2
  go_ret
  exact ⟨rfl, rfl⟩
set_option maxHeartbeats 1000000 in
theorem insT_ins_end (a a2 : Option Addr) (n c m c2 : Nat) (v' : Value) (w w' : World) (hm : 0 < m) (hnc : n ≤ c) (h63 : n ≤ 9223372036854775807)
    (hap : ∀ ty, (Builtin.append_ #[23, 23] ty #[.slice a n c, .slice a2 m c2]).run Tryz.prog w = .ok v' w') :
    Calls Tryz.prog 72 #[.slice a n c, .int .i64 n, .slice a2 m c2] w fun e w1 => e = .returned v' ∧ w1 = w' := by
  have hz1 : ¬ ((m : Int) = 0) := by omega
  have mixed : Tryz.prog.follows Departure.mixedOrders = true := by kernel_rfl
  go_enter Tryz.func72, Tryz.ntmps72
  go_wp2_with (at_builtin; refine Lib.wpList_append_run _ rfl _ _ 23 23 rfl _ _ rfl rfl _ _ (hap _) ?_)
  all_goals (go_ret; exact ⟨rfl, rfl⟩)
theorem insT_ins_walk : InsWalk Tryz.prog 72 23 3 102 2 :=
  ⟨fun b n c i m vb vc w w1 w2 h1 h2 h3 h4 h5 h6 h7 => insT_ins_shift b n c i m vb vc w w1 w2 h1 h2 h3 h4 h5 h6 h7, fun b n c i m h cc vb vc w w1 w2 w3 h1 h2 h3 h4 h5 h6 h7 h8 h9 => insT_ins_grow b n c i m h cc vb vc w w1 w2 w3 h1 h2 h3 h4 h5 h6 h7 h8 h9, insT_ins_end⟩
noncomputable def ct_insT : Ct D := ctIns S 82 2 40
theorem ct_insT_ok : CtOk Tryz.prog S 72 ct_insT := by
  obtain ⟨inf, z, h1, h2, h3, h4, h5⟩ := ty_info (T_ok 82 _ rfl)
  refine ctIns_ok (tb := 4) (kn := .i64) (inf := inf) (z := z) S_ok (fun args w => ?_) insT_ins_walk (by decide) Tryz.underlying23 Tryz.underlying3 (fun w => ty_size (T_ok 82 _ rfl) w) (fun args w => ?_) h1 h2 h3 h4 ?_
  · have hf := Tryz.func72
    have hnm : ¬ Tryz.f72.name = "runtime.NumGoroutine" := by decide +kernel
    obtain ⟨c, hc⟩ : ∃ c, Tryz.f72.body = some c := ⟨_, rfl⟩
    simp [callFunc, hf, hnm, hc]
  · exact run_callFunc_extern Tryz.func102 (by kernel_rfl) (by kernel_rfl) (by kernel_rfl) (by kernel_rfl) args w
  · rw [← Array.length_toList, h5]
    rfl

noncomputable def e_insT : Ent Z := ⟨72, ct_insT, ct_insT_ok⟩

noncomputable def trEq (x : Trace) (path : Str) : Pg Bool :=
  .ret (x.Method == path)
noncomputable def trEqP (x : Trace) (path : Str) : Bool := (trEq x path).val

theorem trEq_is (x : Trace) (path : Str) : Is (trEq x path) :=
  is_ret
noncomputable def e_trEq : Ent Z := entN Z [] [] (argsB (aCons (aAgg cd_Trace) (a1 (aPtr 0))) (b1 (bCells cStr))) (argsBI (n := 8) rfl) (shr [.slot 0 false [none]] (l1 cBool)) [0] Tryz.func101 Tryz.ntmps101 (by kernel_rfl) 1 rfl (fun a => trEq (a.1.1) (a.2)) (fun a => none) (fun a e _ => by kernel_rfl) (fun a => (a.1.1).Method == (a.2)) (fun a h => ⟨trEq_is (a.1.1) (a.2), rfl⟩)

noncomputable def trGt (x : Trace) (path : Str) : Pg Bool :=
  .ret !(Op.bytesLess x.Method path || x.Method == path)
noncomputable def trGtP (x : Trace) (path : Str) : Bool := (trGt x path).val

theorem trGt_is (x : Trace) (path : Str) : Is (trGt x path) :=
  is_ret
noncomputable def e_trGt : Ent Z := entN Z [] [] (argsB (aCons (aAgg cd_Trace) (a1 (aPtr 0))) (b1 (bCells cStr))) (argsBI (n := 8) rfl) (shr [.slot 0 false [none]] (l1 cBool)) [0] Tryz.func71 Tryz.ntmps71 (by kernel_rfl) 1 rfl (fun a => trGt (a.1.1) (a.2)) (fun a => none) (fun a e _ => by kernel_rfl) (fun a => gtS (a.1.1).Method (a.2)) (fun a h => ⟨trGt_is (a.1.1) (a.2), rfl⟩)

noncomputable def trNo (x : Trace) : Pg Bool :=
  .ret ((↑x.Times.length : Int) == 0)
noncomputable def trNoP (x : Trace) : Bool := (trNo x).val

theorem trNo_eq (x : Trace) : (trNo x).val = x.Times.isEmpty := by
  unfold trNo
  rw [val_ret]
  cases x.Times with
  | nil => rfl
  | cons a l => simp; omega

theorem trNo_is (x : Trace) : Is (trNo x) :=
  is_ret
noncomputable def e_trNo : Ent Z := entN Z [] [] (args (a1 (aAgg cd_Trace))) (argsI (n := 7) rfl) (shr [.slot 0 false [none]] (l1 cBool)) [] Tryz.func77 Tryz.ntmps77 (by kernel_rfl) 1 rfl (fun a => trNo a) (fun a => none) (fun a e _ => by kernel_rfl) (fun a => a.Times.isEmpty) (fun a h => ⟨trNo_is a, trNo_eq a⟩)

noncomputable def tiOld (x : Int) (than : Int) : Pg Bool :=
  .ret (decide (x ≤ than))
noncomputable def tiOldP (x : Int) (than : Int) : Bool := (tiOld x than).val

theorem tiOld_is (x : Int) (than : Int) : Is (tiOld x than) :=
  is_ret
noncomputable def e_tiOld : Ent Z := entN Z [] [] (argsB (aCons (aLf (cInt .i64)) (a1 (aPtr 0))) (b1 (bCells (cInt .i64)))) (argsBI (n := 7) rfl) (shr [.slot 0 false [none]] (l1 cBool)) [0] Tryz.func75 Tryz.ntmps75 (by kernel_rfl) 1 rfl (fun a => tiOld (a.1.1) (a.2)) (fun a => none) (fun a e _ => by kernel_rfl) (fun a => decide ((a.1.1) ≤ (a.2))) (fun a h => ⟨tiOld_is (a.1.1) (a.2), rfl⟩)

noncomputable def txEq (l : List Trace) (path : Str) : Pg Int :=
  .as (l.length ≤ 9223372036854775807)
    (.each false ixI l d_Trace (fun (i1 : Int) (a3 : Trace) (y2 : Unit) => .ix i1 l.length (.br (a3.Method == path) (.ret (.inr i1)) (.ret (.inl ()))))
      (fun (i1 : Int) (y2 : Unit) => .ret (-1)) ())
noncomputable def txEqP (l : List Trace) (path : Str) : Int := (txEq l path).val

theorem txEq_is (l : List Trace) (path : Str) : Is (txEq l path) :=
  is_as fun _ => is_each (.inr (by omega)) (fun i1 y2 _ _ => is_ix (by omega) (by omega) (is_br (fun _ => is_ret) (fun _ => is_ret))) (fun y2 _ => is_ret)
noncomputable def e_txEq : Ent Z := entN Z [e_trEq] [jS 2 (shp (fun sl => [.slot 8 false [none]]) (l1 (cInt .i64)))] (argsB (aCons (aLf cd_LTrace) (a1 (aFn 101 [0]))) (b1 (bCells cStr))) (argsBI (n := 19) rfl) (shr [.slot 0 false [none]] (l1 (cInt .i64))) [0] Tryz.func70 Tryz.ntmps70 (by kernel_rfl) 1 rfl (fun a => txEq (a.1.1) (a.2)) (fun a => none) (fun a e _ => by kernel_rfl) (fun a => ixOf (fun (x : Trace) => x.Method == (a.2)) (a.1.1)) (fun a h => ⟨txEq_is (a.1.1) (a.2), (fun l key => forE_ix (fun (x : Trace) => x.Method == key) l 0) (a.1.1) (a.2)⟩)

noncomputable def txGt (l : List Trace) (path : Str) : Pg Int :=
  .as (l.length ≤ 9223372036854775807)
    (.each false ixI l d_Trace (fun (i1 : Int) (a3 : Trace) (y2 : Unit) => .ix i1 l.length (.br (gtS a3.Method path) (.ret (.inr i1)) (.ret (.inl ()))))
      (fun (i1 : Int) (y2 : Unit) => .ret (-1)) ())
noncomputable def txGtP (l : List Trace) (path : Str) : Int := (txGt l path).val

theorem txGt_is (l : List Trace) (path : Str) : Is (txGt l path) :=
  is_as fun _ => is_each (.inr (by omega)) (fun i1 y2 _ _ => is_ix (by omega) (by omega) (is_br (fun _ => is_ret) (fun _ => is_ret))) (fun y2 _ => is_ret)
noncomputable def e_txGt : Ent Z := entN Z [e_trGt] [jS 2 (shp (fun sl => [.slot 8 false [none]]) (l1 (cInt .i64)))] (argsB (aCons (aLf cd_LTrace) (a1 (aFn 71 [0]))) (b1 (bCells cStr))) (argsBI (n := 19) rfl) (shr [.slot 0 false [none]] (l1 (cInt .i64))) [0] Tryz.func70 Tryz.ntmps70 (by kernel_rfl) 1 rfl (fun a => txGt (a.1.1) (a.2)) (fun a => none) (fun a e _ => by kernel_rfl) (fun a => ixOf (fun (x : Trace) => gtS x.Method (a.2)) (a.1.1)) (fun a h => ⟨txGt_is (a.1.1) (a.2), (fun l key => forE_ix (fun (x : Trace) => gtS x.Method key) l 0) (a.1.1) (a.2)⟩)

noncomputable def txNo (l : List Trace) : Pg Int :=
  .as (l.length ≤ 9223372036854775807)
    (.each false ixI l d_Trace (fun (i1 : Int) (a3 : Trace) (y2 : Unit) => .ix i1 l.length (.br a3.Times.isEmpty (.ret (.inr i1)) (.ret (.inl ()))))
      (fun (i1 : Int) (y2 : Unit) => .ret (-1)) ())
noncomputable def txNoP (l : List Trace) : Int := (txNo l).val

theorem txNo_is (l : List Trace) : Is (txNo l) :=
  is_as fun _ => is_each (.inr (by omega)) (fun i1 y2 _ _ => is_ix (by omega) (by omega) (is_br (fun _ => is_ret) (fun _ => is_ret))) (fun y2 _ => is_ret)
noncomputable def e_txNo : Ent Z := entN Z [e_trNo] [jS 2 (shp (fun sl => [.slot 8 false [none]]) (l1 (cInt .i64)))] (args (aCons (aLf cd_LTrace) (a1 (aFn 77 [])))) (argsI (n := 19) rfl) (shr [.slot 0 false [none]] (l1 (cInt .i64))) [] Tryz.func70 Tryz.ntmps70 (by kernel_rfl) 1 rfl (fun a => txNo (a.1)) (fun a => none) (fun a e _ => by kernel_rfl) (fun a => ixOf (fun (x : Trace) => x.Times.isEmpty) (a.1)) (fun a h => ⟨txNo_is (a.1), (fun l => forE_ix (fun (x : Trace) => x.Times.isEmpty) l 0) (a.1)⟩)

noncomputable def tiIx (l : List Int) (than : Int) : Pg Int :=
  .as (l.length ≤ 9223372036854775807)
    (.each false ixI l 0 (fun (i1 a3 : Int) (y2 : Unit) => .ix i1 l.length (.br (decide (a3 ≤ than)) (.ret (.inr i1)) (.ret (.inl ()))))
      (fun (i1 : Int) (y2 : Unit) => .ret (-1)) ())
noncomputable def tiIxP (l : List Int) (than : Int) : Int := (tiIx l than).val

theorem tiIx_is (l : List Int) (than : Int) : Is (tiIx l than) :=
  is_as fun _ => is_each (.inr (by omega)) (fun i1 y2 _ _ => is_ix (by omega) (by omega) (is_brd (fun _ => is_ret) (fun _ => is_ret))) (fun y2 _ => is_ret)
noncomputable def e_tiIx : Ent Z := entN Z [e_tiOld] [jS 2 (shp (fun sl => [.slot 8 false [none]]) (l1 (cInt .i64)))] (argsB (aCons (aLf cd_Li64) (a1 (aFn 75 [0]))) (b1 (bCells (cInt .i64)))) (argsBI (n := 19) rfl) (shr [.slot 0 false [none]] (l1 (cInt .i64))) [0] Tryz.func104 Tryz.ntmps104 (by kernel_rfl) 1 rfl (fun a => tiIx (a.1.1) (a.2)) (fun a => none) (fun a e _ => by kernel_rfl) (fun a => ixOf (fun (x : Int) => decide (x ≤ (a.2))) (a.1.1)) (fun a h => ⟨tiIx_is (a.1.1) (a.2), (fun l than => forE_ix (fun (x : Int) => decide (x ≤ than)) l 0) (a.1.1) (a.2)⟩)

noncomputable def trace (l : List Trace) (path : Str) : Pg Int :=
  .ret (ixOf (fun (x : Trace) => x.Method == path) l)
noncomputable def traceP (l : List Trace) (path : Str) : Int := (trace l path).val

theorem trace_is (l : List Trace) (path : Str) : Is (trace l path) :=
  is_ret
noncomputable def e_trace : Ent Z := entN Z [e_txEq, e_txGt, e_txNo, e_trEq] [] (args (aCons (aLf cd_LTrace) (a1 (aLf cStr)))) (argsI (n := 8) rfl) (shr [.slot 0 false [none]] (l1 (cInt .i64))) [] Tryz.func69 Tryz.ntmps69 (by kernel_rfl) 1 rfl (fun a => trace (a.1) (a.2)) (fun a => none) (fun a e _ => by kernel_rfl) (fun a => ixOf (fun (x : Trace) => x.Method == (a.2)) (a.1)) (fun a h => ⟨trace_is (a.1) (a.2), rfl⟩)

noncomputable def recent (l : List Trace) (path : Str) (than : Int) : Pg Int :=
  .lt (ixOf (fun (x : Trace) => x.Method == path) l) fun (v4 : Int) =>
    .br (decide (0 ≤ v4))
      (.ix v4 l.length
        (.as ((l.getD v4.toNat d_Trace).Times.length ≤ 9223372036854775807)
          (.each false ixP (l.getD v4.toNat d_Trace).Times 0
            (fun (i1 a3 y2 : Int) =>
              .ix i1 (l.getD v4.toNat d_Trace).Times.length (.br (decide (than < a3)) (.ret (.inl (wrp .i64 (y2 + 1)))) (.ret (.inl y2))))
            (fun (i1 y2 : Int) => .ret y2) 0)))
      (.ret 0)
noncomputable def recentP (l : List Trace) (path : Str) (than : Int) : Int := (recent l path than).val

theorem recent_is (l : List Trace) (path : Str) (than : Int) : Is (recent l path than) :=
  is_lt fun v4 hv4 => is_brd (fun _ => is_ix (by omega) (by have := ixOf_lt (fun (x : Trace) => x.Method == path) l; omega) (is_as fun _ => is_each (.inr (by omega)) (fun i1 y2 _ _ => is_ix (by omega) (by omega) (is_brd (fun _ => is_ret) (fun _ => is_ret))) (fun y2 _ => is_ret))) (fun _ => is_ret)
noncomputable def e_recent : Ent Z := entN Z [e_trace] [jS 5 (shp (fun sl => [.slot 22 false [none], .slot 8 false [none]]) (lCons (cInt .i64) (l1 (cInt .i64))))] (args (aCons (aLf cd_LTrace) (aCons (aLf cStr) (a1 (aLf (cInt .i64)))))) (argsI (n := 33) rfl) (shr [.slot 0 false [none]] (l1 (cInt .i64))) [] Tryz.func64 Tryz.ntmps64 (by kernel_rfl) 1 rfl (fun a => recent (a.1) (a.2.1) (a.2.2)) (fun a => none) (fun a e _ => by kernel_rfl) (fun a => recentP (a.1) (a.2.1) (a.2.2)) (fun a h => ⟨recent_is (a.1) (a.2.1) (a.2.2), rfl⟩)

noncomputable def delI (l : List Int) (than : Int) : Pg (List Int) :=
  .lt (ixOf (fun (x : Int) => decide (x ≤ than)) l) fun (v4 : Int) =>
    .br (v4 == (-1)) (.ret l)
      (.lt (wrp .i64 (v4 + 1)) fun (v5 : Int) =>
        .wh (l.length + 1) default
          (fun (x3 : Int × Int × List Int) =>
            .as (x3.snd.snd.length ≤ 9223372036854775807)
              (.br (decide (x3.fst < (↑x3.snd.snd.length : Int)))
                (.ix x3.fst x3.snd.snd.length
                  (.ob (x3.fst.toNat < x3.snd.snd.length)
                    (.lt (wrp .i64 (x3.fst + 1)) fun (v6 : Int) =>
                      .br (!decide (x3.snd.snd.getD x3.fst.toNat 0 ≤ than))
                        (.ix x3.snd.fst x3.snd.snd.length
                          (.ob (x3.snd.fst.toNat < x3.snd.snd.length)
                            (.ret (.inl (v6, wrp .i64 (x3.snd.fst + 1), x3.snd.snd.set x3.snd.fst.toNat (x3.snd.snd.getD x3.fst.toNat 0))))))
                        (.ret (.inl (v6, x3.snd))))))
                (.ob (0 ≤ x3.snd.fst ∧ x3.snd.fst ≤ (↑x3.snd.snd.length : Int) ∧ (↑x3.snd.snd.length : Int) ≤ (↑x3.snd.snd.length : Int))
                  (.ob (x3.snd.snd.length = x3.snd.snd.length)
                    (.lt (List.take x3.snd.fst.toNat x3.snd.snd ++ List.replicate (x3.snd.snd.length - x3.snd.fst.toNat) 0) fun (v7 : List Int) =>
                      .ob ((0 : Int) ≤ 0 ∧ 0 ≤ x3.snd.fst ∧ x3.snd.fst ≤ (↑v7.length : Int)) (.ret (.inr (List.take x3.snd.fst.toNat v7))))))))
          (v5, v4, l))
noncomputable def delIP (l : List Int) (than : Int) : List Int := (delI l than).val

theorem delI_is (l : List Int) (than : Int) (h : l.length ≤ 1000000) : Is (delI l than) :=
  (del_is (fun (x : Int) => decide (x ≤ than)) 0 l (by omega)).1
noncomputable def e_delI : Ent Z := entN Z [e_tiOld, e_tiIx] [jS 5 (shp (fun sl => [.slot 6 false [none], .slot 5 false [none], .row (pid (sl 0)) 3]) (lCons (cInt .i64) (lCons (cInt .i64) (l1 cd_Li64))))] (argsB (aCons (aOwn 0) (a1 (aFn 75 [1]))) (bCons (bRow 3 D.i64 prj_i64) (b1 (bCells (cInt .i64))))) (argsBI (n := 42) rfl) (shr [.slot 0 false [none]] (l1 cd_Li64)) [1] Tryz.func74 Tryz.ntmps74 (by kernel_rfl) 1 rfl (fun a => delI (a.2.1) (a.2.2)) (fun a => some ((a.2.1).length ≤ 1000000)) (fun a e _ => by kernel_rfl) (fun a => (a.2.1).filter fun (x : Int) => !decide (x ≤ (a.2.2))) (fun a h => ⟨delI_is (a.2.1) (a.2.2) h, (fun (l : List Int) (than : Int) (h : l.length ≤ 1000000) => (del_is (fun (x : Int) => decide (x ≤ than)) 0 l (by omega)).2) (a.2.1) (a.2.2) h⟩)

noncomputable def delT (l : List Trace) : Pg (List Trace) :=
  .lt (ixOf (fun (x : Trace) => x.Times.isEmpty) l) fun (v4 : Int) =>
    .br (v4 == (-1)) (.ret l)
      (.lt (wrp .i64 (v4 + 1)) fun (v5 : Int) =>
        .wh (l.length + 1) default
          (fun (x3 : Int × Int × List Trace) =>
            .as (x3.snd.snd.length ≤ 9223372036854775807)
              (.br (decide (x3.fst < (↑x3.snd.snd.length : Int)))
                (.ix x3.fst x3.snd.snd.length
                  (.ob (x3.fst.toNat < x3.snd.snd.length)
                    (.lt (wrp .i64 (x3.fst + 1)) fun (v6 : Int) =>
                      .br (!(x3.snd.snd.getD x3.fst.toNat d_Trace).Times.isEmpty)
                        (.ix x3.snd.fst x3.snd.snd.length
                          (.ob (x3.snd.fst.toNat < x3.snd.snd.length)
                            (.ret (.inl (v6, wrp .i64 (x3.snd.fst + 1), x3.snd.snd.set x3.snd.fst.toNat (x3.snd.snd.getD x3.fst.toNat d_Trace))))))
                        (.ret (.inl (v6, x3.snd))))))
                (.ob (0 ≤ x3.snd.fst ∧ x3.snd.fst ≤ (↑x3.snd.snd.length : Int) ∧ (↑x3.snd.snd.length : Int) ≤ (↑x3.snd.snd.length : Int))
                  (.ob (x3.snd.snd.length = x3.snd.snd.length)
                    (.lt (List.take x3.snd.fst.toNat x3.snd.snd ++ List.replicate (x3.snd.snd.length - x3.snd.fst.toNat) (Trace.mk [] [])) fun (v7 : List Trace) =>
                      .ob ((0 : Int) ≤ 0 ∧ 0 ≤ x3.snd.fst ∧ x3.snd.fst ≤ (↑v7.length : Int)) (.ret (.inr (List.take x3.snd.fst.toNat v7))))))))
          (v5, v4, l))
noncomputable def delTP (l : List Trace) : List Trace := (delT l).val

theorem delT_is (l : List Trace) (h : l.length ≤ 1000000) : Is (delT l) :=
  (del_is (fun (x : Trace) => x.Times.isEmpty) d_Trace l (by omega)).1
noncomputable def e_delT : Ent Z := entN Z [e_txEq, e_txGt, e_txNo, e_trNo] [jS 5 (shp (fun sl => [.slot 6 false [none], .slot 5 false [none], .row (pid (sl 0)) 82]) (lCons (cInt .i64) (lCons (cInt .i64) (l1 cd_LTrace))))] (argsB (aCons (aOwn 0) (a1 (aFn 77 []))) (b1 (bRow 82 D.Trace prj_Trace))) (argsBI (n := 42) rfl) (shr [.slot 0 false [none]] (l1 cd_LTrace)) [] Tryz.func76 Tryz.ntmps76 (by kernel_rfl) 1 rfl (fun a => delT (a.2)) (fun a => some ((a.2).length ≤ 1000000)) (fun a e _ => by kernel_rfl) (fun a => (a.2).filter fun (x : Trace) => !x.Times.isEmpty) (fun a h => ⟨delT_is (a.2) h, (fun (l : List Trace) (h : l.length ≤ 1000000) => (del_is (fun (x : Trace) => x.Times.isEmpty) d_Trace l (by omega)).2) (a.2) h⟩)

noncomputable def noted (t : List Trace) (path : Str) (now : Int) (than : Int) : Pg (List Trace) :=
  .ob (t.length ≤ 1000000)
    (.cut
      (fun (y1 : List Trace) =>
        .lt (ixOf (fun (x : Trace) => x.Method == path) y1) fun (v4 : Int) =>
          .ix v4 y1.length
            (.ob (v4.toNat < y1.length)
              (.ob ((y1.getD v4.toNat d_Trace).Times.length ≤ 1000000)
                (.ob (roomP ((y1.getD v4.toNat d_Trace).Times.length + 1) 8)
                  (.ix v4 y1.length
                    (.ob (v4.toNat < y1.length)
                      (.lt (y1.set v4.toNat (Trace.mk (y1.getD v4.toNat d_Trace).Method ((y1.getD v4.toNat d_Trace).Times ++ [now]))) fun (v5 : List Trace) =>
                        .as (v5.length ≤ 9223372036854775807)
                          (.cnt ixP 0 (↑v5.length : Int)
                            (fun (i2 : Int) (y3 : List Trace) =>
                              .ix i2 y3.length
                                (.ob (i2.toNat < y3.length)
                                  (.ob ((y3.getD i2.toNat d_Trace).Times.length ≤ 1000000)
                                    (.ob ((y3.getD i2.toNat d_Trace).Times.length ≤ 1000000)
                                      (.ix i2 y3.length
                                        (.ob (i2.toNat < y3.length)
                                          (.ret
                                            (.inl
                                              (y3.set i2.toNat
                                                (Trace.mk (y3.getD i2.toNat d_Trace).Method
                                                  (List.filter (fun (x : Int) => !decide (x ≤ than)) (y3.getD i2.toNat d_Trace).Times)))))))))))
                            (fun (i2 : Int) (y3 : List Trace) => .ob (y3.length ≤ 1000000) (.ret (List.filter (fun (x : Trace) => !x.Times.isEmpty) y3))) v5))))))))
      (.lt (ixOf (fun (x : Trace) => x.Method == path) t) fun (v6 : Int) =>
        .br (decide (v6 < 0))
          (.lt (ixOf (fun (x : Trace) => gtS x.Method path) t) fun (v7 : Int) =>
            .br (decide (v7 < 0))
              (.as (t.length ≤ 9223372036854775807)
                (.ob (0 ≤ (↑t.length : Int) ∧ (↑t.length : Int) ≤ (↑t.length : Int) ∧ 0 < 1 ∧ roomP (t.length + 1) 40)
                  (.ret (.inl (List.take t.length t ++ ([Trace.mk path []] ++ List.drop t.length (List.take t.length t)))))))
              (.ob (0 ≤ v7 ∧ v7 ≤ (↑t.length : Int) ∧ 0 < 1 ∧ roomP (t.length + 1) 40)
                (.ret (.inl (List.take v7.toNat t ++ ([Trace.mk path []] ++ List.drop v7.toNat (List.take t.length t)))))))
          (.ret (.inl t))))
noncomputable def notedP (t : List Trace) (path : Str) (now : Int) (than : Int) : List Trace := (noted t path now than).val

def eqM (path : Str) (x : Trace) : Bool := x.Method == path
def gtM (path : Str) (x : Trace) : Bool := gtS x.Method path
/-- A further time, where the method has a trace; a further trace, ahead of the first greater one. -/
def addT (path : Str) (now : Int) : List Trace → List Trace
  | [] => []
  | x :: t => bif eqM path x then ⟨x.Method, x.Times ++ [now]⟩ :: t else x :: addT path now t
def insT' (path : Str) (ts : List Int) : List Trace → List Trace
  | [] => [⟨path, ts⟩]
  | x :: t => bif gtM path x then ⟨path, ts⟩ :: x :: t else x :: insT' path ts t
def nextT (t : List Trace) (path : Str) (now : Int) : List Trace := bif t.any (eqM path) then addT path now t else insT' path [now] t
def fltT (than : Int) (x : Trace) : Trace := ⟨x.Method, x.Times.filter fun y => !decide (y ≤ than)⟩
def keepT (than : Int) (t : List Trace) : List Trace := (t.map (fltT than)).filter fun x => !x.Times.isEmpty
def midT (t : List Trace) (path : Str) : List Trace := bif t.any (eqM path) then t else insT' path [] t
def okT (t : List Trace) : Prop := t.length ≤ 1000 ∧ ∀ x ∈ t, x.Times.length ≤ 1000
theorem insT_split (path : Str) (ts : List Int) (t : List Trace) : ∃ u v, t = u ++ v ∧ insT' path ts t = u ++ ⟨path, ts⟩ :: v := by
  induction t with
  | nil => exact ⟨[], [], rfl, rfl⟩
  | cons x t ih =>
    unfold insT'
    cases gtM path x with
    | true => exact ⟨[], x :: t, rfl, rfl⟩
    | false =>
      obtain ⟨u, v, h1, h2⟩ := ih
      exact ⟨x :: u, v, by rw [h1]; rfl, by rw [cond_false, h2]; rfl⟩
theorem insT_same (path : Str) (ts ts' : List Int) (t : List Trace) : ∃ u v, t = u ++ v ∧ insT' path ts t = u ++ ⟨path, ts⟩ :: v ∧ insT' path ts' t = u ++ ⟨path, ts'⟩ :: v := by
  induction t with
  | nil => exact ⟨[], [], rfl, rfl, rfl⟩
  | cons x t ih =>
    unfold insT'
    cases gtM path x with
    | true => exact ⟨[], x :: t, rfl, rfl, rfl⟩
    | false =>
      obtain ⟨u, v, h1, h2, h3⟩ := ih
      exact ⟨x :: u, v, by rw [h1]; rfl, by rw [cond_false, h2]; rfl, by rw [cond_false, h3]; rfl⟩
theorem insT_mid (path : Str) (ts : List Int) : ∀ (u : List Trace) (a : Trace) (v : List Trace), (∀ x ∈ u, gtM path x = false) → gtM path a = true → insT' path ts (u ++ a :: v) = u ++ ⟨path, ts⟩ :: a :: v
  | [], a, v, _, h => by simp [insT', h]
  | x :: u, a, v, hu, h => by
    simp only [List.cons_append, insT', hu x (by simp), cond_false]
    rw [insT_mid path ts u a v (fun y hy => hu y (by simp [hy])) h]
theorem insT_end (path : Str) (ts : List Int) : ∀ (u : List Trace), (∀ x ∈ u, gtM path x = false) → insT' path ts u = u ++ [⟨path, ts⟩]
  | [], _ => rfl
  | x :: u, hu => by
    simp only [List.cons_append, insT', hu x (by simp), cond_false]
    rw [insT_end path ts u (fun y hy => hu y (by simp [hy]))]
theorem addT_mid (path : Str) (now : Int) : ∀ (u : List Trace) (a : Trace) (v : List Trace), (∀ x ∈ u, eqM path x = false) → eqM path a = true → addT path now (u ++ a :: v) = u ++ ⟨a.Method, a.Times ++ [now]⟩ :: v
  | [], a, v, _, h => by simp [addT, h]
  | x :: u, a, v, hu, h => by
    simp only [List.cons_append, addT, hu x (by simp), cond_false]
    rw [addT_mid path now u a v (fun y hy => hu y (by simp [hy])) h]
theorem midT_spec (t : List Trace) (path : Str) (now : Int) : ∃ u a v, midT t path = u ++ a :: v ∧ (∀ x ∈ u, eqM path x = false) ∧ eqM path a = true ∧ nextT t path now = u ++ ⟨a.Method, a.Times ++ [now]⟩ :: v := by
  unfold midT nextT
  rcases ixOf_spec (eqM path) t with ⟨_, h⟩ | ⟨u, a, v, h1, h2, h3, _⟩
  · have : t.any (eqM path) = false := by
      rw [List.any_eq_false]
      exact fun x hx => by rw [h x hx]; simp
    rw [this]
    obtain ⟨u, v, h1, h2, h3⟩ := insT_same path [] [now] t
    exact ⟨u, ⟨path, []⟩, v, h2, fun x hx => h x (by rw [h1]; simp [hx]), by simp [eqM], h3⟩
  · have : t.any (eqM path) = true := by
      rw [List.any_eq_true]
      exact ⟨a, by rw [h1]; simp, h2⟩
    rw [this]
    exact ⟨u, a, v, h1, h3, h2, by rw [cond_true, h1, addT_mid path now u a v h3 h2]⟩
theorem midT_ok (t : List Trace) (path : Str) (h : okT t) : (midT t path).length ≤ 1001 ∧ ∀ x ∈ midT t path, x.Times.length ≤ 1000 := by
  unfold midT
  cases t.any (eqM path) with
  | true => exact ⟨by have := h.1; simp only [cond_true]; omega, h.2⟩
  | false =>
    obtain ⟨u, v, h1, h2⟩ := insT_split path [] t
    have hl := h.1
    rw [cond_false, h2]
    refine ⟨by rw [h1] at hl; simp at hl ⊢; omega, fun x hx => ?_⟩
    rcases List.mem_append.1 hx with hx | hx
    · exact h.2 x (by rw [h1]; simp [hx])
    · rcases List.mem_cons.1 hx with rfl | hx
      · simp
      · exact h.2 x (by rw [h1]; simp [hx])
theorem noted_mid (t : List Trace) (path : Str) : (bif decide (ixOf (eqM path) t < 0) then
      bif decide (ixOf (gtM path) t < 0) then (List.take t.length t ++ ([Trace.mk path []] ++ List.drop t.length (List.take t.length t)))
      else (List.take (ixOf (gtM path) t).toNat t ++ ([Trace.mk path []] ++ List.drop (ixOf (gtM path) t).toNat (List.take t.length t)))
    else t) = midT t path := by
  unfold midT
  rcases ixOf_spec (eqM path) t with ⟨h0, h⟩ | ⟨u, a, v, h1, h2, h3, h4⟩
  · have : t.any (eqM path) = false := by
      rw [List.any_eq_false]
      exact fun x hx => by rw [h x hx]; simp
    rw [this, h0]
    simp only [show decide ((-1 : Int) < 0) = true from rfl, cond_true, cond_false]
    rcases ixOf_spec (gtM path) t with ⟨g0, g⟩ | ⟨u, a, v, g1, g2, g3, g4⟩
    · rw [g0, insT_end path [] t g]
      simp
    · have hd : decide ((u.length : Int) < 0) = false := decide_eq_false (by omega)
      rw [g4, hd, cond_false, Int.toNat_natCast, List.take_length, g1, insT_mid path [] u a v g3 g2, List.take_left, List.drop_left]
      rfl
  · have : t.any (eqM path) = true := by
      rw [List.any_eq_true]
      exact ⟨a, by rw [h1]; simp, h2⟩
    have hd : decide ((u.length : Int) < 0) = false := decide_eq_false (by omega)
    rw [this, h4, hd]
    rfl
theorem noted_eq (t : List Trace) (path : Str) (now than : Int) (h : okT t) : (noted t path now than).val = keepT than (nextT t path now) := by
  unfold noted
  simp only [val_ob, val_cut, val_lt, val_br, val_as, val_ret, val_ix, val_cnt]
  have hm := noted_mid t path
  unfold eqM gtM at hm
  have hs : ∀ (c1 c2 : Bool) (a b c : List Trace), (bif c1 then bif c2 then (Sum.inl a : List Trace ⊕ List Trace) else .inl b else .inl c) = .inl (bif c1 then bif c2 then a else b else c) := by
    intro c1 c2 a b c
    cases c1 <;> cases c2 <;> rfl
  rw [hs, hm, thenS_inl]
  obtain ⟨u, a, v, e1, e2, e3, e4⟩ := midT_spec t path now
  have hx := ixOf_mid (eqM path) u a v e2 e3
  unfold eqM at hx
  rw [e1, hx, Int.toNat_natCast, getD_mid, set_mid, ← e4]
  exact forN_map0 (fltT than) d_Trace (fun _ (y : List Trace) => y.filter fun x => !x.Times.isEmpty) _

theorem noted_is (t : List Trace) (path : Str) (now : Int) (than : Int) (h : okT t) : Is (noted t path now than) :=
  by
  refine is_ob (by have := h.1; omega) (is_cut (is_lt fun v6 hv6 => is_brd (fun _ => is_lt fun v7 hv7 => is_brd (fun _ => is_as fun _ => is_ob ⟨by omega, by omega, by omega, room_of (by have := h.1; omega) (by have := h.1; omega)⟩ is_ret)
    (fun _ => is_ob ⟨by omega, by have := ixOf_lt (fun (x : Trace) => gtS x.Method path) t; omega, by omega, room_of (by have := h.1; omega) (by have := h.1; omega)⟩ is_ret)) (fun _ => is_ret)) (fun y1 hy1 => ?_))
  have hy : y1 = midT t path := by
    have hm := noted_mid t path
    unfold eqM gtM at hm
    rw [← hm]
    revert hy1
    simp only [val_lt, val_br, val_as, val_ob, val_ret]
    cases decide (ixOf (fun (x : Trace) => x.Method == path) t < 0) <;> cases decide (ixOf (fun (x : Trace) => gtS x.Method path) t < 0) <;> intro e <;> injection e with e <;> exact e.symm
  subst hy
  obtain ⟨k1, k2⟩ := midT_ok t path h
  obtain ⟨u, a, v, e1, e2, e3, e4⟩ := midT_spec t path now
  have hx := ixOf_mid (eqM path) u a v e2 e3
  unfold eqM at hx
  have ha := k2 a (by rw [e1]; simp)
  have hl : (midT t path).length = u.length + (v.length + 1) := by rw [e1]; simp
  refine is_lt fun v4 hv4 => ?_
  rw [e1, hx] at hv4
  subst hv4
  have hg : (midT t path).getD ((u.length : Int)).toNat d_Trace = a := by rw [e1, Int.toNat_natCast, getD_mid]
  rw [hg]
  refine is_ix (by omega) (by omega) (is_ob (by omega) (is_ob (by omega) (is_ob (room_of (by omega) (by omega)) (is_ix (by omega) (by omega) (is_ob (by omega) (is_lt fun v5 hv5 => is_as fun _ => ?_))))))
  have hv : v5 = u ++ ⟨a.Method, a.Times ++ [now]⟩ :: v := by rw [hv5, e1, Int.toNat_natCast, set_mid]
  have hl5 : v5.length = u.length + (v.length + 1) := by rw [hv]; simp
  refine is_cntI (fun _ y => y.length = v5.length ∧ ∀ x ∈ y, x.Times.length ≤ 1001) ⟨rfl, fun x hx => ?_⟩ (by omega) (by omega) (fun i y3 h1 h2 hI => ?_) (fun i y3 _ _ hI => is_ob (by omega) is_ret)
  · rw [hv] at hx
    rcases List.mem_append.1 hx with hx | hx
    · have := k2 x (by rw [e1]; simp [hx]); omega
    · rcases List.mem_cons.1 hx with rfl | hx
      · simp; omega
      · have := k2 x (by rw [e1]; simp [hx]); omega
  · have hi : i.toNat < y3.length := by omega
    have hm := hI.2 _ (getD_mem (d := d_Trace) hi)
    refine ⟨is_ix (by omega) (by omega) (is_ob (by omega) (is_ob (by omega) (is_ob (by omega) (is_ix (by omega) (by omega) (is_ob (by omega) is_ret))))), fun y' hy' => ?_⟩
    simp only [val_ix, val_ob, val_ret, Sum.inl.injEq] at hy'
    subst hy'
    refine ⟨by rw [List.length_set]; exact hI.1, fun x hx => ?_⟩
    rcases List.mem_or_eq_of_mem_set hx with hx | rfl
    · exact hI.2 x hx
    · exact Nat.le_trans (List.length_filter_le _ _) hm
noncomputable def e_noted : Ent Z := entN Z [e_cloneT, e_trace, e_txEq, e_txGt, e_txNo, e_trGt, e_insT, e_cloneI, e_delI, e_tiOld, e_delT, e_trNo] [jS 10 (shp (fun sl => [.slot 49 false [none], .row (pid (sl 0)) 82]) (lCons (cInt .i64) (l1 cd_LTrace))), jS 100007 (shp (fun sl => [.slot 0 false [some 82]]) (l1 cd_LTrace))] (args (aCons (aLf cd_LTrace) (aCons (aLf cStr) (aCons (aLf (cInt .i64)) (a1 (aLf (cInt .i64))))))) (argsI (n := 67) rfl) (shr [.slot 0 false [none]] (l1 cd_LTrace)) [] Tryz.func31 Tryz.ntmps31 (by kernel_rfl) 1 rfl (fun a => noted (a.1) (a.2.1) (a.2.2.1) (a.2.2.2)) (fun a => some (okT (a.1))) (fun a e _ => by kernel_rfl) (fun a => keepT (a.2.2.2) (nextT (a.1) (a.2.1) (a.2.2.1))) (fun a h => ⟨noted_is (a.1) (a.2.1) (a.2.2.1) (a.2.2.2) h, noted_eq (a.1) (a.2.1) (a.2.2.1) (a.2.2.2) h⟩)
end Go.Proofs.YtemjcccdcnhmhaaGreatDoor
