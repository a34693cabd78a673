/-
  Lossy: slices.Insert.
-/
import Derived.Test.YtjmolijohilahaaC
import Derived.Test.YtjmolijohilahaaVds
import Derived.WalkKit
import Derived.WalkSpells
import Derived.Lib.Overlaps
import Derived.Lib.AppendZeros
import Derived.Laws.Externs
import Derived.Shelf.RegionOpenPlain
import Derived.Lib.Walk
import Derived.Shelf.Spec.SlicesInsert
namespace Go.Proofs.Ytjmolijohilahaa
open Go.RowKit Go.Vc
set_option linter.unusedVariables false
set_option linter.unusedSimpArgs false
set_option maxRecDepth 100000

def as_insert : ArgShp D := argsB (aCons (aOwn 0) (aCons (aLf (cInt .i64)) (a1 (aOwn 1)))) (bCons (bRow 30 D.Packet prj_Packet) (b1 (bRow 30 D.Packet prj_Packet)))
theorem as_insert_ok : ArgOk S as_insert 2 95 := argsB_ok (aCons_ok (aOwn_ok 0) (aCons_ok (aLf_ok (cInt_ok _)) (a1_ok (aOwn_ok 1)))) (bCons_ok (bRow_ok prj_Packet_eq) (b1_ok (bRow_ok prj_Packet_eq))) rfl
def rs_insert : Shp D := shr [.slot 0 false [some 30]] (l1 cd_LPacket)
theorem rs_insert_ok : ShpOk S rs_insert := shr_ok (l1_ok cd_LPacket_ok)
def j_insert : Nat → Option (Shp D) := fun _ => none
theorem j_insert_ok : ∀ i sh, j_insert i = some sh → ShpOk S sh := fun i sh h => by cases h
def g_insert : FuncId → Option (Ct D) := fun _ => none
theorem g_insert_ok : ∀ f ct, g_insert f = some ct → CtOk Try.prog S f ct := fun f ct h => by cases h
noncomputable def insert (i : Int) (l : List Packet) (v : List Packet) : Option (List Packet) :=
  need ((0 : Int) ≤ i ∧ i ≤ (↑l.length : Int) ∧ (↑l.length : Int) ≤ (↑l.length : Int))
    (bif (↑v.length : Int) == (0 : Int) then some l
    else bif i == (↑l.length : Int) then need (roomP (l.length + v.length) (32 : Nat)) (some (l ++ v)) else need (InR IntKind.i64 ((↑l.length : Int) + (↑v.length : Int))) none)
theorem insert_run (i : Int) (l : List Packet) (v : List Packet) : insert i l v = (evC T S g_insert 95 j_insert (Try.f42.body.getD .skip) rs_insert.X (St.init (as_insert.enc (((), i, ()), (l, v))).1 (as_insert.enc (((), i, ()), (l, v))).2) (retL T S Try.f42.results.toList rs_insert 2 [])).run := by kernel_rfl

set_option maxHeartbeats 1000000 in
theorem insert_ins_shift (b n c i m vb vc : Nat) (w w1 w2 : World) (hi : i < n) (hm : 0 < m) (hroom : n + m ≤ c) (hc : c ≤ 9223372036854775807)
    (hov : ∀ lb cb x, (callFunc 44 #[.slice (some ⟨vb, 0, none⟩) m vc, .slice (some ⟨b, x, none⟩) lb cb]).run Try.prog w = .ok (.value (.bool false)) w)
    (hcp1 : ∀ ty dc sc, (Builtin.copy_ #[22, 22] ty #[.slice (some ⟨b, (i + m) * 3, none⟩) (n + m - (i + m)) dc, .slice (some ⟨b, i * 3, none⟩) (n + m - i) sc]).run Try.prog w.drew = .ok (goInt (n - i : Nat)) w1)
    (hcp2 : ∀ ty dc, (Builtin.copy_ #[22, 22] ty #[.slice (some ⟨b, i * 3, none⟩) (n + m - i) dc, .slice (some ⟨vb, 0, none⟩) m vc]).run Try.prog w1 = .ok (goInt m) w2) :
    Calls Try.prog 42 #[.slice (some ⟨b, 0, none⟩) n c, .int .i64 i, .slice (some ⟨vb, 0, none⟩) m vc] w fun e w' => e = .returned (.slice (some ⟨b, 0, none⟩) (n + m) c) ∧ w' = w2 := by
  have hz1 : ¬ ((m : Int) = 0) := by omega
  have hz2 : ¬ ((i : Int) = (n : Int)) := by omega
  have hw1 : IntKind.i64.wrap ((i : Int) + (m : Int)) = (i : Int) + (m : Int) := by rw [IntKind.wrap_i64]; omega
  have hw2 : IntKind.i64.wrap ((n : Int) + (m : Int)) = (n : Int) + (m : Int) := by rw [IntKind.wrap_i64]; omega
  have hb1 : (0 : Int) ≤ (i : Int) + (m : Int) := by omega
  have hin : i ≤ n := by omega
  have htn : ((i : Int) + (m : Int)).toNat = i + m := by omega
  have htn2 : ((n : Int) + (m : Int)).toNat = n + m := by omega
  have hb2 : ¬ (c = i + m) := by omega
  have hb3 : (i : Int) ≤ (n : Int) + (m : Int) := by omega
  have hb4 : ¬ (c = i) := by omega
  have mixed : Try.prog.follows Departure.mixedOrders = true := by kernel_rfl
  go_enter Try.func42, Try.ntmps42
  go_wp2_with (simp only [hov])
  go_region_law_o (refine step_copy_runI rfl _ _ 22 22 rfl _ _ (by simp [Act.eval, Act.put]) (by simp [Act.eval, Act.put]) (hcp1 _ _ _) ?_)
  go_wp2_with (at_builtin; refine wpList_copy_runI _ rfl _ _ 22 22 rfl _ _ rfl rfl (hcp2 _ _) ?_)
  go_ret
  exact ⟨rfl, rfl⟩
set_option maxHeartbeats 1000000 in
theorem insert_ins_grow (b n c i m h cc vb vc : Nat) (w w1 w2 w3 : World) (hi : i < n) (hm : 0 < m) (hnc : n ≤ c) (hroom : c < n + m) (hcc : n + m ≤ cc) (hc : n + m ≤ 9223372036854775807)
    (hap : ∀ ty, (Builtin.append_ #[22, 3] ty #[.slice (some ⟨b, 0, none⟩) i c, .int .i64 ((n : Int) + m - i)]).run Try.prog w = .ok (.slice (some ⟨h, 0, none⟩) (n + m) cc) w1)
    (hcp1 : ∀ ty dc, (Builtin.copy_ #[22, 22] ty #[.slice (some ⟨h, i * 3, none⟩) (n + m - i) dc, .slice (some ⟨vb, 0, none⟩) m vc]).run Try.prog w1 = .ok (goInt m) w2)
    (hcp2 : ∀ ty dc sc, (Builtin.copy_ #[22, 22] ty #[.slice (some ⟨h, (i + m) * 3, none⟩) (n + m - (i + m)) dc, .slice (some ⟨b, i * 3, none⟩) (n - i) sc]).run Try.prog w2.drew = .ok (goInt (n - i : Nat)) w3) :
    Calls Try.prog 42 #[.slice (some ⟨b, 0, none⟩) n c, .int .i64 i, .slice (some ⟨vb, 0, none⟩) m vc] w fun e w' => e = .returned (.slice (some ⟨h, 0, none⟩) (n + m) cc) ∧ w' = w3 := by
  have hz1 : ¬ ((m : Int) = 0) := by omega
  have hz2 : ¬ ((i : Int) = (n : Int)) := by omega
  have hw1 : IntKind.i64.wrap ((i : Int) + (m : Int)) = (i : Int) + (m : Int) := by rw [IntKind.wrap_i64]; omega
  have hw2 : IntKind.i64.wrap ((n : Int) + (m : Int)) = (n : Int) + (m : Int) := by rw [IntKind.wrap_i64]; omega
  have hw3 : IntKind.i64.wrap ((n : Int) + (m : Int) - (i : Int)) = (n : Int) + (m : Int) - (i : Int) := by rw [IntKind.wrap_i64]; omega
  have hb1 : (0 : Int) ≤ (i : Int) + (m : Int) := by omega
  have hin : i ≤ n := by omega
  have hic : i ≤ c := by omega
  have htn : ((i : Int) + (m : Int)).toNat = i + m := by omega
  have htn2 : ((n : Int) + (m : Int)).toNat = n + m := by omega
  have hb2 : ¬ (cc = i + m) := by omega
  have hb3 : (i : Int) ≤ (n : Int) + (m : Int) := by omega
  have hb4 : ¬ (c = i) := by omega
  have hb5 : ¬ (cc = i) := by omega
  have hb6 : i ≤ n + m := by omega
  have hb7 : i + m ≤ n + m := by omega
  have hb8 : ¬ ((n : Int) + (m : Int) ≤ (c : Int)) := by omega
  have hb9 : (c : Int) < (n : Int) + (m : Int) := by omega
  have mixed : Try.prog.follows Departure.mixedOrders = true := by kernel_rfl
  go_enter Try.func42, Try.ntmps42
  go_wp2_with (at_builtin; refine Lib.wpList_append_run _ rfl _ _ 22 3 rfl _ _ rfl rfl _ _ (hap _) ?_)
  go_wp2_with (at_builtin; refine wpList_copy_runI _ rfl _ _ 22 22 rfl _ _ rfl rfl (hcp1 _ _) ?_)
  go_region_law_o (refine step_copy_runI rfl _ _ 22 22 rfl _ _ (by simp [Act.eval, Act.put]) (by simp [Act.eval, Act.put]) (hcp2 _ _ _) ?_)
  go_wp2
  go_ret
  exact ⟨rfl, rfl⟩
set_option maxHeartbeats 1000000 in
theorem insert_ins_end (a a2 : Option Addr) (n c m c2 : Nat) (v' : Value) (w w' : World) (hm : 0 < m) (hnc : n ≤ c) (h63 : n ≤ 9223372036854775807)
    (hap : ∀ ty, (Builtin.append_ #[22, 22] ty #[.slice a n c, .slice a2 m c2]).run Try.prog w = .ok v' w') :
    Calls Try.prog 42 #[.slice a n c, .int .i64 n, .slice a2 m c2] w fun e w1 => e = .returned v' ∧ w1 = w' := by
  have hz1 : ¬ ((m : Int) = 0) := by omega
  have mixed : Try.prog.follows Departure.mixedOrders = true := by kernel_rfl
  go_enter Try.func42, Try.ntmps42
  go_wp2_with (at_builtin; refine Lib.wpList_append_run _ rfl _ _ 22 22 rfl _ _ rfl rfl _ _ (hap _) ?_)
  all_goals (go_ret; exact ⟨rfl, rfl⟩)
theorem insert_ins_walk : InsWalk Try.prog 42 22 3 44 3 :=
  ⟨fun b n c i m vb vc w w1 w2 h1 h2 h3 h4 h5 h6 h7 => insert_ins_shift b n c i m vb vc w w1 w2 h1 h2 h3 h4 h5 h6 h7, fun b n c i m h cc vb vc w w1 w2 w3 h1 h2 h3 h4 h5 h6 h7 h8 h9 => insert_ins_grow b n c i m h cc vb vc w w1 w2 w3 h1 h2 h3 h4 h5 h6 h7 h8 h9, insert_ins_end⟩
noncomputable def ct_insert : Ct D := ctIns S 30 3 32
theorem ct_insert_ok : CtOk Try.prog S 42 ct_insert := by
  obtain ⟨inf, z, h1, h2, h3, h4, h5⟩ := ty_info (T_ok 30 _ rfl)
  refine ctIns_ok (tb := 4) (kn := .i64) (inf := inf) (z := z) S_ok (fun args w => ?_) insert_ins_walk (by decide) Try.underlying22 Try.underlying3 (fun w => ty_size (T_ok 30 _ rfl) w) (fun args w => ?_) h1 h2 h3 h4 ?_
  · have hf := Try.func42
    have hnm : ¬ Try.f42.name = "runtime.NumGoroutine" := by decide +kernel
    obtain ⟨c, hc⟩ : ∃ c, Try.f42.body = some c := ⟨_, rfl⟩
    simp [callFunc, hf, hnm, hc]
  · exact run_callFunc_extern Try.func44 (by kernel_rfl) (by kernel_rfl) (by kernel_rfl) (by kernel_rfl) args w
  · rw [← Array.length_toList, h5]
    rfl

end Go.Proofs.Ytjmolijohilahaa
