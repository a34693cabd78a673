/-
  Intercept: the law InterceptBefores holds for every input, and its card.
-/
import Derived.Test.YtemjcccdcnhmhaaGreatDoorL
import Derived.Test.YtemjcccdcnhmhaaGreatDoorM
import Derived.Test.YtemjcccdcnhmhaaGreatDoorCards
namespace Go.Proofs.YtemjcccdcnhmhaaGreatDoor
open Go.ChangeShapes Go.WideShapes Go.ChangeAt Go.RowKit Go.Joins Go.Vc
set_option linter.unusedVariables false
set_option linter.unusedSimpArgs false
set_option maxRecDepth 100000

def good_Icept (b : Icept) : Prop := (InR .i64 b.Kind ∧ (b.Key.length ≤ 9223372036854775807 ∧ (b.Val.length ≤ 9223372036854775807 ∧ (InR .i64 b.Num ∧ InR .i64 b.Span))))
theorem op_60 : Opens Tryz.prog S 60 cd_Icept good_Icept := opens_struct Tryz.underlying60 (by kernel_rfl) (fun _ => rfl) (opensF_cons rfl (by kernel_rfl) (opens_int Tryz.underlying3) (opensF_cons rfl (by kernel_rfl) (opens_str Tryz.underlying9) (opensF_cons rfl (by kernel_rfl) (opens_str Tryz.underlying9) (opensF_cons rfl (by kernel_rfl) (opens_int Tryz.underlying3) (opensF_one rfl (by kernel_rfl) (opens_int Tryz.underlying3))))))
theorem op_22 : Opens Tryz.prog S 22 cd_LIcept (fun l => l.length ≤ 9223372036854775807 ∧ ∀ a ∈ l, good_Icept a) := opens_slice (dflt := d_Icept) Tryz.underlying22 (by kernel_rfl) cd_Icept_ok op_60 (fun _ => rfl) (fun _ => rfl) (fun _ _ _ => rfl)
theorem op_80 : Opens Tryz.prog S 80 cd_Li64 (fun l => l.length ≤ 9223372036854775807 ∧ ∀ a ∈ l, InR .i64 a) := opens_slice (dflt := 0) Tryz.underlying80 (by kernel_rfl) (cInt_ok _) (opens_int Tryz.underlying3) (fun _ => rfl) (fun _ => rfl) (fun _ _ _ => rfl)
def good_Trace (b : Trace) : Prop := (b.Method.length ≤ 9223372036854775807 ∧ (b.Times.length ≤ 9223372036854775807 ∧ ∀ a ∈ b.Times, InR .i64 a))
theorem op_82 : Opens Tryz.prog S 82 cd_Trace good_Trace := opens_struct Tryz.underlying82 (by kernel_rfl) (fun _ => rfl) (opensF_cons rfl (by kernel_rfl) (opens_str Tryz.underlying9) (opensF_one rfl (by kernel_rfl) op_80))
theorem op_23 : Opens Tryz.prog S 23 cd_LTrace (fun l => l.length ≤ 9223372036854775807 ∧ ∀ a ∈ l, good_Trace a) := opens_slice (dflt := d_Trace) Tryz.underlying23 (by kernel_rfl) cd_Trace_ok op_82 (fun _ => rfl) (fun _ => rfl) (fun _ _ _ => rfl)
def good_Meta (b : AMeta) : Prop := (b.Key.length ≤ 9223372036854775807 ∧ b.Val.length ≤ 9223372036854775807)
theorem op_92 : Opens Tryz.prog S 92 cd_Meta good_Meta := opens_struct Tryz.underlying92 (by kernel_rfl) (fun _ => rfl) (opensF_cons rfl (by kernel_rfl) (opens_str Tryz.underlying9) (opensF_one rfl (by kernel_rfl) (opens_str Tryz.underlying9)))
theorem op_24 : Opens Tryz.prog S 24 cd_LMeta (fun l => l.length ≤ 9223372036854775807 ∧ ∀ a ∈ l, good_Meta a) := opens_slice (dflt := d_Meta) Tryz.underlying24 (by kernel_rfl) cd_Meta_ok op_92 (fun _ => rfl) (fun _ => rfl) (fun _ _ _ => rfl)
def good_Head (b : Head) : Prop := (b.Service.length ≤ 9223372036854775807 ∧ (b.Method.length ≤ 9223372036854775807 ∧ (InR .i64 b.Deadline ∧ (b.Metas.length ≤ 9223372036854775807 ∧ ∀ a ∈ b.Metas, good_Meta a))))
theorem op_26 : Opens Tryz.prog S 26 cd_Head good_Head := opens_struct Tryz.underlying26 (by kernel_rfl) (fun _ => rfl) (opensF_cons rfl (by kernel_rfl) (opens_str Tryz.underlying9) (opensF_cons rfl (by kernel_rfl) (opens_str Tryz.underlying9) (opensF_cons rfl (by kernel_rfl) (opens_int Tryz.underlying3) (opensF_one rfl (by kernel_rfl) op_24))))
theorem own : ownKnob Tryz.prog.godebug = none := by kernel_rfl
theorem laidOut : laidOutB Tryz.prog = true := by kernel_rfl

set_option maxRecDepth 100000 in
theorem law1_lifted (os : Os) (started : os.Started) (H : Type) (enc : TypeId × Value → H) :
    ReturnsInHanded {} Tryz.checked os 3 .any (fun w args => (Rows.interceptBeforesSpec.pre enc Tryz.prog Tryz.f3 Rows.interceptBeforesRow.domain false w args ∧ laidMetH Tryz.prog laidL w) ∧ sizedMet enc Tryz.prog Tryz.f3 (OpenSpec.ofChange Rows.interceptBeforesSpec) false w args)
      (Rows.interceptBeforesSpec.post enc Tryz.prog Tryz.f3 false true false false) := by
  refine returnsInHanded_of_change_and (C := Tryz.checked) (X := fun w _ => laidMetH Tryz.prog laidL w) (fun _ _ _ hh h => h.of_heap hh) own started (by kernel_rfl) Tryz.func3
    (ChangeSpec.witness_shaped (enc := enc) (C := Tryz.checked) (os := os) (X := fun w _ => laidMetH Tryz.prog laidL w) false (World.laidAll Tryz.prog os laidL) #[.slice none 0 0, .slice none 0 0, .int .i64 0, .agg #[.string ⟨#[]⟩, .string ⟨#[]⟩, .int .i64 0, .slice none 0 0]] 8 (World.laidAll_os _ _ _)
      (World.shaped_of_ZipB (by kernel_rfl) (by kernel_rfl)) (by kernel_rfl) (by kernel_rfl) (by kernel_rfl) (laid_world os _)) ?_
  intro W base args ds gs before hval0 hW hc _ hL _
  have hval : ∀ (j : Nat) t v, Tryz.f3.params[j]? = some t → args[j]? = some v → Value.okWide Tryz.prog W .any base t v := hval0
  have hW' := hW
  obtain ⟨p, q, hA0, hV, rfl, hfz, hnd⟩ := hW
  have hA : DataW.TrodAll enc Tryz.prog W 0 (fun _ => true) true Tryz.f3.params.toList args.toList ds p := hA0
  rw [Tryz.params3] at hA hval
  obtain ⟨rfl, rfl⟩ := trodVars_none hV
  obtain ⟨d0, d1, d2, d3, rfl⟩ : ∃ d0 d1 d2 d3, ds = [d0, d1, d2, d3] := by
    obtain ⟨_, _, d0, _, _, _, _, rfl, _, _, r0⟩ := trodAll_cons hA
    obtain ⟨_, _, d1, _, _, _, _, rfl, _, _, r1⟩ := trodAll_cons r0
    obtain ⟨_, _, d2, _, _, _, _, rfl, _, _, r2⟩ := trodAll_cons r1
    obtain ⟨_, _, d3, _, _, _, _, rfl, _, _, r3⟩ := trodAll_cons r2
    obtain ⟨_, rfl, _⟩ := trodAll_nil r3
    exact ⟨d0, d1, d2, d3, rfl⟩
  have hok : CtOk Tryz.prog S 3 (ctN (Go.Vc.args (aCons (aLf cd_LIcept) (aCons (aLf cd_LTrace) (aCons (aLf (cInt .i64)) (a1 (aAgg cd_Head)))))) rsLaw 1 [] _ (fun _ => true)) := e_law1.ok
  have hcall := law_callsG (ts := [22, 23, 3, 26]) hok (fun _ => rfl) (openA_cons (openV_lf Tryz.underlying22 rfl cd_LIcept_ok rfl op_22) (openA_cons (openV_lf Tryz.underlying23 rfl cd_LTrace_ok rfl op_23) (openA_cons (openV_lf Tryz.underlying3 rfl (cInt_ok _) rfl (opens_int Tryz.underlying3)) (openA_1 (openV_agg Tryz.underlying26 op_26))))) (fun _ _ => trivial) (vs := args.toList) (gl_ok hL) (fun j t v h1 h2 => hval j t v (by simpa using h1) (by simpa using h2)) hA
  rw [Array.toArray_toList] at hcall
  refine hcall.mono ?_
  rintro e W' ⟨rfl, bel⟩
  exact ⟨_, rfl, _, _, _, [], _, [], hW', trodAll_mk1 (shut_bool Tryz.underlying4 _), trodAll_below laidOut bel (by kernel_rfl) hA, rfl, bel.frame _, fun h => by cases h⟩

theorem law1_holds : Rows.InterceptBeforesSaid :=
  OpenClaim.holds_of_wide 3 Tryz.f3 rfl rfl rfl rfl rfl rfl rfl ⟨rfl, rfl, rfl, rfl, rfl⟩ rfl rfl rfl rfl rfl (by kernel_rfl) Tryz.func3 (by kernel_rfl)
    (of_decide_eq_true (by kernel_rfl)) (by unfold Func.isWrapper; first | (rw [if_pos (by decide +kernel)]; kernel_rfl) | (rw [if_neg (by decide +kernel)]; exact ⟨rfl, rfl⟩))
    (fun os started H enc _ => law1_lifted os started H enc)
#print axioms law1_holds
theorem law1_card : Rows.InterceptBeforesCardSaid :=
  Claim7.holds_tied_plain_at .later [] [.data, .data, .pinned] true (true, "6f860d8b6136382534332f7b3db0b18052cc4477c5dff1a22e9d46f1369b26d9") true law1_holds (fun _ h => by cases h) (by kernel_rfl) (fun _ h => by cases h) interceptBefores_row_tie rfl ⟨rfl, rfl⟩ (by kernel_rfl) rfl
    (fun f fn hf hfn => by
      obtain rfl : f = 3 := Option.some.inj ((show Tryz.prog.funcNamed "wireschema/wireschemalaw51.InterceptBefores" = some 3 by kernel_rfl).symm.trans hf) |>.symm
      obtain rfl : fn = Tryz.f3 := (Option.some.inj (Tryz.func3.symm.trans hfn)).symm
      exact ⟨by kernel_rfl, fun j t ht => by
        rw [Tryz.params3] at ht
        have hm : t ∈ [22, 23, 3, 26] := by simpa using Array.mem_of_getElem? ht
        have hall : ([22, 23, 3, 26].all fun u => !Tryz.prog.wantsStandIn u) = true := by kernel_rfl
        exact (show Tryz.prog.wantsStandIn t = false by simpa using List.all_eq_true.1 hall t hm)⟩)
    (by kernel_rfl)
#print axioms law1_card
end Go.Proofs.YtemjcccdcnhmhaaGreatDoor
