/-
  Intercept: the law InterceptHidden holds for every input, and its card.
-/
import Derived.Test.YtemjcccdcnhmhaaGreatDoorZf
import Derived.Test.YtemjcccdcnhmhaaGreatDoorM
import Derived.Test.YtemjcccdcnhmhaaGreatDoorEng10
import Derived.Test.YtemjcccdcnhmhaaGreatDoorCards
namespace Go.Proofs.YtemjcccdcnhmhaaGreatDoor
open Go.ChangeShapes Go.WideShapes Go.ChangeAt Go.RowKit Go.Joins Go.Vc
set_option linter.unusedVariables false
set_option linter.unusedSimpArgs false
set_option maxRecDepth 100000

def goodn_AType (n : Nat) (b : AType) : Prop := (InR .i64 b.Kind ∧ b.Name.length ≤ n)
theorem opw_66 : ∀ F, OpensW F Tryz.prog S (szW Tryz.prog) 66 cd_AType goodn_AType := fun F => opensW_struct Tryz.underlying66 (by kernel_rfl) (fun _ => rfl) (opensFW_cons rfl (by kernel_rfl) (opensW_of (opens_int Tryz.underlying3)) (opensFW_one rfl (by kernel_rfl) (opensW_str Tryz.underlying9)))
def goodn_Raw (n : Nat) (b : Raw) : Prop := (InR .i64 b.Num ∧ (InR .i64 b.Wire ∧ (InR .u64 b.Bits ∧ b.Data.length ≤ n)))
theorem opw_98 : ∀ F, OpensW F Tryz.prog S (szW Tryz.prog) 98 cd_Raw goodn_Raw := fun F => opensW_struct Tryz.underlying98 (by kernel_rfl) (fun _ => rfl) (opensFW_cons rfl (by kernel_rfl) (opensW_of (opens_int Tryz.underlying3)) (opensFW_cons rfl (by kernel_rfl) (opensW_of (opens_int Tryz.underlying3)) (opensFW_cons rfl (by kernel_rfl) (opensW_of (opens_int Tryz.underlying40)) (opensFW_one rfl (by kernel_rfl) (opensW_str Tryz.underlying9)))))
theorem opw_44 : ∀ F, OpensW F Tryz.prog S (szW Tryz.prog) 44 cd_LRaw (fun n l => l.length ≤ n ∧ ∀ a ∈ l, goodn_Raw n a) := fun F => opensW_slice (dflt := d_Raw) Tryz.underlying44 (of_decide_eq_true (by kernel_rfl)) (by kernel_rfl) cd_Raw_ok (opw_98 F) (fun _ => rfl) (fun _ => rfl) (fun _ _ _ => rfl)
theorem opw_rec46 : ∀ F, OpensW F Tryz.prog S (szW Tryz.prog) 46 cd_AVal (fun _ _ => True) ∧ OpensW F Tryz.prog S (szW Tryz.prog) 96 cd_Pair (fun _ _ => True) ∧ OpensW F Tryz.prog S (szW Tryz.prog) 78 cd_Slot (fun _ _ => True)
  | 0 => ⟨opensW_0, opensW_0, opensW_0⟩
  | F + 1 => by
    obtain ⟨h0, h1, h2⟩ := opw_rec46 F
    exact ⟨opensW_weak (opensW_struct1 Tryz.underlying46 (by kernel_rfl) (fun _ => rfl) (opensFW_cons rfl (by kernel_rfl) (opensW_of (opens_int Tryz.underlying3)) (opensFW_cons rfl (by kernel_rfl) (opensW_of (opens_int Tryz.underlying40)) (opensFW_cons rfl (by kernel_rfl) (opensW_str Tryz.underlying9) (opensFW_cons rfl (by kernel_rfl) (opensW_slice (dflt := d_AVal) Tryz.underlying41 (of_decide_eq_true (by kernel_rfl)) (by kernel_rfl) cd_AVal_ok h0 (fun _ => rfl) (fun _ => rfl) (fun _ _ _ => rfl)) (opensFW_cons rfl (by kernel_rfl) (opensW_slice (dflt := d_Pair) Tryz.underlying42 (of_decide_eq_true (by kernel_rfl)) (by kernel_rfl) cd_Pair_ok h1 (fun _ => rfl) (fun _ => rfl) (fun _ _ _ => rfl)) (opensFW_cons rfl (by kernel_rfl) (opensW_slice (dflt := d_Slot) Tryz.underlying43 (of_decide_eq_true (by kernel_rfl)) (by kernel_rfl) cd_Slot_ok h2 (fun _ => rfl) (fun _ => rfl) (fun _ _ _ => rfl)) (opensFW_one rfl (by kernel_rfl) (opw_44 F))))))))) (fun _ _ _ => trivial),
      opensW_weak (opensW_struct1 Tryz.underlying96 (by kernel_rfl) (fun _ => rfl) (opensFW_cons rfl (by kernel_rfl) h0 (opensFW_one rfl (by kernel_rfl) h0))) (fun _ _ _ => trivial),
      opensW_weak (opensW_struct1 Tryz.underlying78 (by kernel_rfl) (fun _ => rfl) (opensFW_cons rfl (by kernel_rfl) (opensW_of (opens_int Tryz.underlying3)) (opensFW_one rfl (by kernel_rfl) h0))) (fun _ _ _ => trivial)⟩
theorem opw_46 : ∀ F, OpensW F Tryz.prog S (szW Tryz.prog) 46 cd_AVal (fun _ _ => True) := fun F => (opw_rec46 F).1
theorem opw_96 : ∀ F, OpensW F Tryz.prog S (szW Tryz.prog) 96 cd_Pair (fun _ _ => True) := fun F => (opw_rec46 F).2.1
theorem opw_78 : ∀ F, OpensW F Tryz.prog S (szW Tryz.prog) 78 cd_Slot (fun _ _ => True) := fun F => (opw_rec46 F).2.2
def goodn_Note (n : Nat) (b : Note) : Prop := (b.Name.length ≤ n ∧ True)
theorem opw_68 : ∀ F, OpensW F Tryz.prog S (szW Tryz.prog) 68 cd_Note goodn_Note := fun F => opensW_struct Tryz.underlying68 (by kernel_rfl) (fun _ => rfl) (opensFW_cons rfl (by kernel_rfl) (opensW_str Tryz.underlying9) (opensFW_one rfl (by kernel_rfl) (opw_46 F)))
theorem opw_69 : ∀ F, OpensW F Tryz.prog S (szW Tryz.prog) 69 cd_LNote (fun n l => l.length ≤ n ∧ ∀ a ∈ l, goodn_Note n a) := fun F => opensW_slice (dflt := d_Note) Tryz.underlying69 (of_decide_eq_true (by kernel_rfl)) (by kernel_rfl) cd_Note_ok (opw_68 F) (fun _ => rfl) (fun _ => rfl) (fun _ _ _ => rfl)
def goodn_AField (n : Nat) (b : AField) : Prop := (InR .i64 b.Num ∧ (b.Name.length ≤ n ∧ (InR .i64 b.Card ∧ (InR .i64 b.Key ∧ (goodn_AType n b.Type_ ∧ (b.Union.length ≤ n ∧ (True ∧ (True ∧ (b.Notes.length ≤ n ∧ ∀ a ∈ b.Notes, goodn_Note n a)))))))))
theorem opw_71 : ∀ F, OpensW F Tryz.prog S (szW Tryz.prog) 71 cd_AField goodn_AField := fun F => opensW_struct Tryz.underlying71 (by kernel_rfl) (fun _ => rfl) (opensFW_cons rfl (by kernel_rfl) (opensW_of (opens_int Tryz.underlying3)) (opensFW_cons rfl (by kernel_rfl) (opensW_str Tryz.underlying9) (opensFW_cons rfl (by kernel_rfl) (opensW_of (opens_int Tryz.underlying3)) (opensFW_cons rfl (by kernel_rfl) (opensW_of (opens_int Tryz.underlying3)) (opensFW_cons rfl (by kernel_rfl) (opw_66 F) (opensFW_cons rfl (by kernel_rfl) (opensW_str Tryz.underlying9) (opensFW_cons rfl (by kernel_rfl) (opensW_of (opens_bool Tryz.underlying4)) (opensFW_cons rfl (by kernel_rfl) (opw_46 F) (opensFW_one rfl (by kernel_rfl) (opw_69 F))))))))))
theorem opw_72 : ∀ F, OpensW F Tryz.prog S (szW Tryz.prog) 72 cd_LAField (fun n l => l.length ≤ n ∧ ∀ a ∈ l, goodn_AField n a) := fun F => opensW_slice (dflt := d_AField) Tryz.underlying72 (of_decide_eq_true (by kernel_rfl)) (by kernel_rfl) cd_AField_ok (opw_71 F) (fun _ => rfl) (fun _ => rfl) (fun _ _ _ => rfl)
def goodn_Span (n : Nat) (b : Span) : Prop := (InR .i64 b.From ∧ InR .i64 b.To)
theorem opw_219 : ∀ F, OpensW F Tryz.prog S (szW Tryz.prog) 219 cd_Span goodn_Span := fun F => opensW_struct Tryz.underlying219 (by kernel_rfl) (fun _ => rfl) (opensFW_cons rfl (by kernel_rfl) (opensW_of (opens_int Tryz.underlying3)) (opensFW_one rfl (by kernel_rfl) (opensW_of (opens_int Tryz.underlying3))))
theorem opw_73 : ∀ F, OpensW F Tryz.prog S (szW Tryz.prog) 73 cd_LSpan (fun n l => l.length ≤ n ∧ ∀ a ∈ l, goodn_Span n a) := fun F => opensW_slice (dflt := d_Span) Tryz.underlying73 (of_decide_eq_true (by kernel_rfl)) (by kernel_rfl) cd_Span_ok (opw_219 F) (fun _ => rfl) (fun _ => rfl) (fun _ _ _ => rfl)
theorem opw_74 : ∀ F, OpensW F Tryz.prog S (szW Tryz.prog) 74 cd_Lstr (fun n l => l.length ≤ n ∧ ∀ a ∈ l, a.length ≤ n) := fun F => opensW_slice (dflt := []) Tryz.underlying74 (of_decide_eq_true (by kernel_rfl)) (by kernel_rfl) cStr_ok (opensW_str Tryz.underlying9) (fun _ => rfl) (fun _ => rfl) (fun _ _ _ => rfl)
def goodn_Message (n : Nat) (b : Message) : Prop := (b.Name.length ≤ n ∧ ((b.Fields.length ≤ n ∧ ∀ a ∈ b.Fields, goodn_AField n a) ∧ ((b.Reserved.length ≤ n ∧ ∀ a ∈ b.Reserved, goodn_Span n a) ∧ ((b.Gone.length ≤ n ∧ ∀ a ∈ b.Gone, a.length ≤ n) ∧ (b.Notes.length ≤ n ∧ ∀ a ∈ b.Notes, goodn_Note n a)))))
theorem opw_76 : ∀ F, OpensW F Tryz.prog S (szW Tryz.prog) 76 cd_Message goodn_Message := fun F => opensW_struct Tryz.underlying76 (by kernel_rfl) (fun _ => rfl) (opensFW_cons rfl (by kernel_rfl) (opensW_str Tryz.underlying9) (opensFW_cons rfl (by kernel_rfl) (opw_72 F) (opensFW_cons rfl (by kernel_rfl) (opw_73 F) (opensFW_cons rfl (by kernel_rfl) (opw_74 F) (opensFW_one rfl (by kernel_rfl) (opw_69 F))))))
theorem opw_35 : ∀ F, OpensW F Tryz.prog S (szW Tryz.prog) 35 cd_LMessage (fun n l => l.length ≤ n ∧ ∀ a ∈ l, goodn_Message n a) := fun F => opensW_slice (dflt := d_Message) Tryz.underlying35 (of_decide_eq_true (by kernel_rfl)) (by kernel_rfl) cd_Message_ok (opw_76 F) (fun _ => rfl) (fun _ => rfl) (fun _ _ _ => rfl)
def goodn_Item (n : Nat) (b : Item) : Prop := (b.Name.length ≤ n ∧ (InR .i64 b.Num ∧ (b.Notes.length ≤ n ∧ ∀ a ∈ b.Notes, goodn_Note n a)))
theorem opw_143 : ∀ F, OpensW F Tryz.prog S (szW Tryz.prog) 143 cd_Item goodn_Item := fun F => opensW_struct Tryz.underlying143 (by kernel_rfl) (fun _ => rfl) (opensFW_cons rfl (by kernel_rfl) (opensW_str Tryz.underlying9) (opensFW_cons rfl (by kernel_rfl) (opensW_of (opens_int Tryz.underlying3)) (opensFW_one rfl (by kernel_rfl) (opw_69 F))))
theorem opw_139 : ∀ F, OpensW F Tryz.prog S (szW Tryz.prog) 139 cd_LItem (fun n l => l.length ≤ n ∧ ∀ a ∈ l, goodn_Item n a) := fun F => opensW_slice (dflt := d_Item) Tryz.underlying139 (of_decide_eq_true (by kernel_rfl)) (by kernel_rfl) cd_Item_ok (opw_143 F) (fun _ => rfl) (fun _ => rfl) (fun _ _ _ => rfl)
def goodn_Enum (n : Nat) (b : Enum) : Prop := (b.Name.length ≤ n ∧ (True ∧ ((b.Items.length ≤ n ∧ ∀ a ∈ b.Items, goodn_Item n a) ∧ ((b.Reserved.length ≤ n ∧ ∀ a ∈ b.Reserved, goodn_Span n a) ∧ (b.Notes.length ≤ n ∧ ∀ a ∈ b.Notes, goodn_Note n a)))))
theorem opw_141 : ∀ F, OpensW F Tryz.prog S (szW Tryz.prog) 141 cd_Enum goodn_Enum := fun F => opensW_struct Tryz.underlying141 (by kernel_rfl) (fun _ => rfl) (opensFW_cons rfl (by kernel_rfl) (opensW_str Tryz.underlying9) (opensFW_cons rfl (by kernel_rfl) (opensW_of (opens_bool Tryz.underlying4)) (opensFW_cons rfl (by kernel_rfl) (opw_139 F) (opensFW_cons rfl (by kernel_rfl) (opw_73 F) (opensFW_one rfl (by kernel_rfl) (opw_69 F))))))
theorem opw_36 : ∀ F, OpensW F Tryz.prog S (szW Tryz.prog) 36 cd_LEnum (fun n l => l.length ≤ n ∧ ∀ a ∈ l, goodn_Enum n a) := fun F => opensW_slice (dflt := d_Enum) Tryz.underlying36 (of_decide_eq_true (by kernel_rfl)) (by kernel_rfl) cd_Enum_ok (opw_141 F) (fun _ => rfl) (fun _ => rfl) (fun _ _ _ => rfl)
def goodn_AMethod (n : Nat) (b : AMethod) : Prop := (b.Name.length ≤ n ∧ (b.In.length ≤ n ∧ (b.Out.length ≤ n ∧ (InR .i64 b.Shape ∧ (b.Notes.length ≤ n ∧ ∀ a ∈ b.Notes, goodn_Note n a)))))
theorem opw_148 : ∀ F, OpensW F Tryz.prog S (szW Tryz.prog) 148 cd_AMethod goodn_AMethod := fun F => opensW_struct Tryz.underlying148 (by kernel_rfl) (fun _ => rfl) (opensFW_cons rfl (by kernel_rfl) (opensW_str Tryz.underlying9) (opensFW_cons rfl (by kernel_rfl) (opensW_str Tryz.underlying9) (opensFW_cons rfl (by kernel_rfl) (opensW_str Tryz.underlying9) (opensFW_cons rfl (by kernel_rfl) (opensW_of (opens_int Tryz.underlying3)) (opensFW_one rfl (by kernel_rfl) (opw_69 F))))))
theorem opw_144 : ∀ F, OpensW F Tryz.prog S (szW Tryz.prog) 144 cd_LAMethod (fun n l => l.length ≤ n ∧ ∀ a ∈ l, goodn_AMethod n a) := fun F => opensW_slice (dflt := d_AMethod) Tryz.underlying144 (of_decide_eq_true (by kernel_rfl)) (by kernel_rfl) cd_AMethod_ok (opw_148 F) (fun _ => rfl) (fun _ => rfl) (fun _ _ _ => rfl)
def goodn_Service (n : Nat) (b : Service) : Prop := (b.Name.length ≤ n ∧ ((b.Methods.length ≤ n ∧ ∀ a ∈ b.Methods, goodn_AMethod n a) ∧ (b.Notes.length ≤ n ∧ ∀ a ∈ b.Notes, goodn_Note n a)))
theorem opw_146 : ∀ F, OpensW F Tryz.prog S (szW Tryz.prog) 146 cd_Service goodn_Service := fun F => opensW_struct Tryz.underlying146 (by kernel_rfl) (fun _ => rfl) (opensFW_cons rfl (by kernel_rfl) (opensW_str Tryz.underlying9) (opensFW_cons rfl (by kernel_rfl) (opw_144 F) (opensFW_one rfl (by kernel_rfl) (opw_69 F))))
theorem opw_37 : ∀ F, OpensW F Tryz.prog S (szW Tryz.prog) 37 cd_LService (fun n l => l.length ≤ n ∧ ∀ a ∈ l, goodn_Service n a) := fun F => opensW_slice (dflt := d_Service) Tryz.underlying37 (of_decide_eq_true (by kernel_rfl)) (by kernel_rfl) cd_Service_ok (opw_146 F) (fun _ => rfl) (fun _ => rfl) (fun _ _ _ => rfl)
def goodn_Schema (n : Nat) (b : Schema) : Prop := ((b.Messages.length ≤ n ∧ ∀ a ∈ b.Messages, goodn_Message n a) ∧ ((b.Enums.length ≤ n ∧ ∀ a ∈ b.Enums, goodn_Enum n a) ∧ (b.Services.length ≤ n ∧ ∀ a ∈ b.Services, goodn_Service n a)))
theorem opw_39 : ∀ F, OpensW F Tryz.prog S (szW Tryz.prog) 39 cd_Schema goodn_Schema := fun F => opensW_struct Tryz.underlying39 (by kernel_rfl) (fun _ => rfl) (opensFW_cons rfl (by kernel_rfl) (opw_35 F) (opensFW_cons rfl (by kernel_rfl) (opw_36 F) (opensFW_one rfl (by kernel_rfl) (opw_37 F))))
theorem own : ownKnob Tryz.prog.godebug = none := by kernel_rfl
theorem laidOut : laidOutB Tryz.prog = true := by kernel_rfl

theorem big_of (s : Schema) (h : goodn_Schema 140737488351232 s) : bigS s := by
  have le : 140737488351232 ≤ 140737488355328 := by decide
  obtain ⟨⟨_, h1⟩, ⟨_, h2⟩, _, h3⟩ := h
  refine ⟨fun m hm => ?_, fun e he => ?_, fun v hv => ?_⟩
  · obtain ⟨_, ⟨_, k2⟩, k3, k4, k5⟩ := h1 m hm
    refine ⟨Nat.le_trans k3.1 le, Nat.le_trans k4.1 le, Nat.le_trans k5.1 le, fun f hf => ?_⟩
    obtain ⟨_, _, _, _, _, _, _, _, q⟩ := k2 f hf
    exact Nat.le_trans q.1 le
  · obtain ⟨_, _, ⟨_, k3⟩, k4, k5⟩ := h2 e he
    refine ⟨Nat.le_trans k4.1 le, Nat.le_trans k5.1 le, fun i hi => ?_⟩
    obtain ⟨_, _, q⟩ := k3 i hi
    exact Nat.le_trans q.1 le
  · obtain ⟨_, ⟨_, k2⟩, k3⟩ := h3 v hv
    refine ⟨Nat.le_trans k3.1 le, fun m hm => ?_⟩
    obtain ⟨_, _, _, _, q⟩ := k2 m hm
    exact Nat.le_trans q.1 le

set_option maxRecDepth 100000 in
theorem law7_lifted (os : Os) (started : os.Started) (H : Type) (enc : TypeId × Value → H) :
    ReturnsInHanded {} Tryz.checked os 6 .any (fun w args => (Rows.interceptHiddenSpec.pre enc Tryz.prog Tryz.f6 Rows.interceptHiddenRow.domain false w args ∧ laidMetH Tryz.prog laidL w) ∧ sizedMet enc Tryz.prog Tryz.f6 (OpenSpec.ofChange Rows.interceptHiddenSpec) false w args)
      (Rows.interceptHiddenSpec.post enc Tryz.prog Tryz.f6 false true false false) := by
  refine returnsInHanded_of_change_and (C := Tryz.checked) (X := fun w _ => laidMetH Tryz.prog laidL w) (fun _ _ _ hh h => h.of_heap hh) own started (by kernel_rfl) Tryz.func6
    (ChangeSpec.witness_shaped (enc := enc) (C := Tryz.checked) (os := os) (X := fun w _ => laidMetH Tryz.prog laidL w) false (World.laidAll Tryz.prog os laidL) #[.agg #[.slice none 0 0, .slice none 0 0, .slice none 0 0], .string ⟨#[]⟩, .agg #[.int .i64 0, .int .u64 0, .string ⟨#[]⟩, .slice none 0 0, .slice none 0 0, .slice none 0 0, .slice none 0 0]] 8 (World.laidAll_os _ _ _)
      (World.shaped_of_ZipB (by kernel_rfl) (by kernel_rfl)) (by kernel_rfl) (by kernel_rfl) (by kernel_rfl) (laid_world os _)) ?_
  intro W base args ds gs before hval0 hW hc hz hL _
  have hval : ∀ (j : Nat) t v, Tryz.f6.params[j]? = some t → args[j]? = some v → Value.okWide Tryz.prog W .any base t v := hval0
  have hW' := hW
  obtain ⟨p, q, hA0, hV, rfl, hfz, hnd⟩ := hW
  have hA : DataW.TrodAll enc Tryz.prog W 0 (fun _ => true) true Tryz.f6.params.toList args.toList ds p := hA0
  rw [Tryz.params6] at hA hval
  obtain ⟨rfl, rfl⟩ := trodVars_none hV
  obtain ⟨d0, d1, d2, rfl⟩ : ∃ d0 d1 d2, ds = [d0, d1, d2] := by
    obtain ⟨_, _, d0, _, _, _, _, rfl, _, _, r0⟩ := trodAll_cons hA
    obtain ⟨_, _, d1, _, _, _, _, rfl, _, _, r1⟩ := trodAll_cons r0
    obtain ⟨_, _, d2, _, _, _, _, rfl, _, _, r2⟩ := trodAll_cons r1
    obtain ⟨_, rfl, _⟩ := trodAll_nil r2
    exact ⟨d0, d1, d2, rfl⟩
  have hok : CtOk Tryz.prog S 6 (ctN (Go.Vc.args (aCons (aAgg cd_Schema) (aCons (aLf cStr) (a1 (aAgg cd_AVal))))) rsLaw 1 [] _ (fun _ => true)) := e_law7.ok
  have hz2 : (DataW.weightsEach Tryz.prog [39, 9, 46] [d0, d1, d2]).all (· ≤ reachBytes) = true := by
    rw [Tryz.params6] at hz
    exact hz
  have hM : ∀ (j : Nat) t d, [39, 9, 46][j]? = some t → [d0, d1, d2][j]? = some d → (szW Tryz.prog).M t d 140737488351232 := fun j t d h1 h2 k hk => of_decide_eq_true (List.all_eq_true.1 hz2 k (DataW.weights_mem_each (j := j) (t := t) h1 h2 k hk))
  have hcall := law_callsW (Z := szW Tryz.prog) (ts := [39, 9, 46]) 140737488351232 hok (fun ⟨p0, p1, p2⟩ => by cases p2; rfl) (openAW_cons (openVW_agg Tryz.underlying39 opw_39) (openAW_cons (openVW_lf Tryz.underlying9 rfl cStr_ok rfl (fun F => opensW_str Tryz.underlying9)) (openAW_1 (openVW_agg Tryz.underlying46 opw_46)))) (fun a h => big_of a.1 h.1) (vs := args.toList) (gl_ok hL) hM (fun j t v h1 h2 => hval j t v (by simpa using h1) (by simpa using h2)) hA
  rw [Array.toArray_toList] at hcall
  refine hcall.mono ?_
  rintro e W' ⟨rfl, bel⟩
  exact ⟨_, rfl, _, _, _, [], _, [], hW', trodAll_mk1 (shut_bool Tryz.underlying4 _), trodAll_below laidOut bel (by kernel_rfl) hA, rfl, bel.frame _, fun h => by cases h⟩

theorem law7_holds : Rows.InterceptHiddenSaid :=
  OpenClaim.holds_of_wide 6 Tryz.f6 rfl rfl rfl rfl rfl rfl rfl ⟨rfl, rfl, rfl, rfl, rfl⟩ rfl rfl rfl rfl rfl (by kernel_rfl) Tryz.func6 (by kernel_rfl)
    (of_decide_eq_true (by kernel_rfl)) (by unfold Func.isWrapper; first | (rw [if_pos (by decide +kernel)]; kernel_rfl) | (rw [if_neg (by decide +kernel)]; exact ⟨rfl, rfl⟩))
    (fun os started H enc _ => law7_lifted os started H enc)
#print axioms law7_holds
theorem law7_card : Rows.InterceptHiddenCardSaid :=
  Claim7.holds_tied_plain_at .later [] [.data, .data, .pinned] true (true, "6f860d8b6136382534332f7b3db0b18052cc4477c5dff1a22e9d46f1369b26d9") true law7_holds (fun _ h => by cases h) (by kernel_rfl) (fun _ h => by cases h) interceptHidden_row_tie rfl ⟨rfl, rfl⟩ (by kernel_rfl) rfl
    (fun f fn hf hfn => by
      obtain rfl : f = 6 := Option.some.inj ((show Tryz.prog.funcNamed "wireschema/wireschemalaw51.InterceptHidden" = some 6 by kernel_rfl).symm.trans hf) |>.symm
      obtain rfl : fn = Tryz.f6 := (Option.some.inj (Tryz.func6.symm.trans hfn)).symm
      exact ⟨by kernel_rfl, fun j t ht => by
        rw [Tryz.params6] at ht
        have hm : t ∈ [39, 9, 46] := by simpa using Array.mem_of_getElem? ht
        have hall : ([39, 9, 46].all fun u => !Tryz.prog.wantsStandIn u) = true := by kernel_rfl
        exact (show Tryz.prog.wantsStandIn t = false by simpa using List.all_eq_true.1 hall t hm)⟩)
    (by kernel_rfl)
#print axioms law7_card
end Go.Proofs.YtemjcccdcnhmhaaGreatDoor
