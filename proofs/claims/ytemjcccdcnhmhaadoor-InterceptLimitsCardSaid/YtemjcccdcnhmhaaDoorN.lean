/-
  Intercept: the laws InterceptChecks and InterceptMetas hold for every input, and their cards.
-/
import Derived.Test.YtemjcccdcnhmhaaDoorL
import Derived.Test.YtemjcccdcnhmhaaDoorM
import Derived.Test.YtemjcccdcnhmhaaDoorCards
namespace Go.Proofs.YtemjcccdcnhmhaaDoor
open Go.ChangeShapes Go.WideShapes Go.ChangeAt Go.RowKit Go.Joins Go.Vc
set_option linter.unusedVariables false
set_option linter.unusedSimpArgs false
set_option maxRecDepth 100000

def good_Icept (b : Icept) : Prop := (InR .i64 b.Kind ∧ (b.Key.length ≤ 9223372036854775807 ∧ (b.Val.length ≤ 9223372036854775807 ∧ (InR .i64 b.Num ∧ InR .i64 b.Span))))
theorem op_43 : Opens Tryd.prog S 43 cd_Icept good_Icept := opens_struct Tryd.underlying43 (by kernel_rfl) (fun _ => rfl) (opensF_cons rfl (by kernel_rfl) (opens_int Tryd.underlying3) (opensF_cons rfl (by kernel_rfl) (opens_str Tryd.underlying9) (opensF_cons rfl (by kernel_rfl) (opens_str Tryd.underlying9) (opensF_cons rfl (by kernel_rfl) (opens_int Tryd.underlying3) (opensF_one rfl (by kernel_rfl) (opens_int Tryd.underlying3))))))
theorem op_22 : Opens Tryd.prog S 22 cd_LIcept (fun l => l.length ≤ 9223372036854775807 ∧ ∀ a ∈ l, good_Icept a) := opens_slice (dflt := d_Icept) Tryd.underlying22 (by kernel_rfl) cd_Icept_ok op_43 (fun _ => rfl) (fun _ => rfl) (fun _ _ _ => rfl)
def good_Meta (b : AMeta) : Prop := (b.Key.length ≤ 9223372036854775807 ∧ b.Val.length ≤ 9223372036854775807)
theorem op_86 : Opens Tryd.prog S 86 cd_Meta good_Meta := opens_struct Tryd.underlying86 (by kernel_rfl) (fun _ => rfl) (opensF_cons rfl (by kernel_rfl) (opens_str Tryd.underlying9) (opensF_one rfl (by kernel_rfl) (opens_str Tryd.underlying9)))
theorem op_31 : Opens Tryd.prog S 31 cd_LMeta (fun l => l.length ≤ 9223372036854775807 ∧ ∀ a ∈ l, good_Meta a) := opens_slice (dflt := d_Meta) Tryd.underlying31 (by kernel_rfl) cd_Meta_ok op_86 (fun _ => rfl) (fun _ => rfl) (fun _ _ _ => rfl)
def good_Head (b : Head) : Prop := (b.Service.length ≤ 9223372036854775807 ∧ (b.Method.length ≤ 9223372036854775807 ∧ (InR .i64 b.Deadline ∧ (b.Metas.length ≤ 9223372036854775807 ∧ ∀ a ∈ b.Metas, good_Meta a))))
theorem op_33 : Opens Tryd.prog S 33 cd_Head good_Head := opens_struct Tryd.underlying33 (by kernel_rfl) (fun _ => rfl) (opensF_cons rfl (by kernel_rfl) (opens_str Tryd.underlying9) (opensF_cons rfl (by kernel_rfl) (opens_str Tryd.underlying9) (opensF_cons rfl (by kernel_rfl) (opens_int Tryd.underlying3) (opensF_one rfl (by kernel_rfl) op_31))))
theorem own : ownKnob Tryd.prog.godebug = none := by kernel_rfl
theorem laidOut : laidOutB Tryd.prog = true := by kernel_rfl

set_option maxRecDepth 100000 in
theorem law3_lifted (os : Os) (started : os.Started) (H : Type) (enc : TypeId × Value → H) :
    ReturnsInHanded {} Tryd.checked os 3 .any (fun w args => (Rows.interceptChecksSpec.pre enc Tryd.prog Tryd.f3 Rows.interceptChecksRow.domain false w args ∧ laidMetH Tryd.prog laidL w) ∧ sizedMet enc Tryd.prog Tryd.f3 (OpenSpec.ofChange Rows.interceptChecksSpec) false w args)
      (Rows.interceptChecksSpec.post enc Tryd.prog Tryd.f3 false true false false) := by
  refine returnsInHanded_of_change_and (C := Tryd.checked) (X := fun w _ => laidMetH Tryd.prog laidL w) (fun _ _ _ hh h => h.of_heap hh) own started (by kernel_rfl) Tryd.func3
    (ChangeSpec.witness_shaped (enc := enc) (C := Tryd.checked) (os := os) (X := fun w _ => laidMetH Tryd.prog laidL w) false (World.laidAll Tryd.prog os laidL) #[.slice none 0 0, .int .i64 0] 8 (World.laidAll_os _ _ _)
      (World.shaped_of_ZipB (by kernel_rfl) (by kernel_rfl)) (by kernel_rfl) (by kernel_rfl) (by kernel_rfl) (laid_world os _)) ?_
  intro W base args ds gs before hval0 hW hc _ hL _
  have hval : ∀ (j : Nat) t v, Tryd.f3.params[j]? = some t → args[j]? = some v → Value.okWide Tryd.prog W .any base t v := hval0
  have hW' := hW
  obtain ⟨p, q, hA0, hV, rfl, hfz, hnd⟩ := hW
  have hA : DataW.TrodAll enc Tryd.prog W 0 (fun _ => true) true Tryd.f3.params.toList args.toList ds p := hA0
  rw [Tryd.params3] at hA hval
  obtain ⟨rfl, rfl⟩ := trodVars_none hV
  obtain ⟨d0, d1, rfl⟩ : ∃ d0 d1, ds = [d0, d1] := by
    obtain ⟨_, _, d0, _, _, _, _, rfl, _, _, r0⟩ := trodAll_cons hA
    obtain ⟨_, _, d1, _, _, _, _, rfl, _, _, r1⟩ := trodAll_cons r0
    obtain ⟨_, rfl, _⟩ := trodAll_nil r1
    exact ⟨d0, d1, rfl⟩
  have hok : CtOk Tryd.prog S 3 (ctN (Go.Vc.args (aCons (aLf cd_LIcept) (a1 (aLf (cInt .i64))))) rsLaw 1 [] _ (fun _ => true)) := e_law3.ok
  have hcall := law_callsG (ts := [22, 3]) hok (fun _ => rfl) (openA_cons (openV_lf Tryd.underlying22 rfl cd_LIcept_ok rfl op_22) (openA_1 (openV_lf Tryd.underlying3 rfl (cInt_ok _) rfl (opens_int Tryd.underlying3)))) (fun _ _ => trivial) (vs := args.toList) (gl_ok hL) (fun j t v h1 h2 => hval j t v (by simpa using h1) (by simpa using h2)) hA
  rw [Array.toArray_toList] at hcall
  refine hcall.mono ?_
  rintro e W' ⟨rfl, bel⟩
  exact ⟨_, rfl, _, _, _, [], _, [], hW', trodAll_mk1 (shut_bool Tryd.underlying4 _), trodAll_below laidOut bel (by kernel_rfl) hA, rfl, bel.frame _, fun h => by cases h⟩

theorem law3_holds : Rows.InterceptChecksSaid :=
  OpenClaim.holds_of_wide 3 Tryd.f3 rfl rfl rfl rfl rfl rfl rfl ⟨rfl, rfl, rfl, rfl, rfl⟩ rfl rfl rfl rfl rfl (by kernel_rfl) Tryd.func3 (by kernel_rfl)
    (of_decide_eq_true (by kernel_rfl)) (by unfold Func.isWrapper; first | (rw [if_pos (by decide +kernel)]; kernel_rfl) | (rw [if_neg (by decide +kernel)]; exact ⟨rfl, rfl⟩))
    (fun os started H enc _ => law3_lifted os started H enc)
#print axioms law3_holds
theorem law3_card : Rows.InterceptChecksCardSaid :=
  Claim7.holds_tied_plain_at .later [] [.data, .data, .pinned] true (true, "addab2420164fee07e1e488aaf554fc6ad771a061e46f2235169362c68177ebc") true law3_holds (fun _ h => by cases h) (by kernel_rfl) (fun _ h => by cases h) interceptChecks_row_tie rfl ⟨rfl, rfl⟩ (by kernel_rfl) rfl
    (fun f fn hf hfn => by
      obtain rfl : f = 3 := Option.some.inj ((show Tryd.prog.funcNamed "wireschema/wireschemalaw51.InterceptChecks" = some 3 by kernel_rfl).symm.trans hf) |>.symm
      obtain rfl : fn = Tryd.f3 := (Option.some.inj (Tryd.func3.symm.trans hfn)).symm
      exact ⟨by kernel_rfl, fun j t ht => by
        rw [Tryd.params3] at ht
        have hm : t ∈ [22, 3] := by simpa using Array.mem_of_getElem? ht
        have hall : ([22, 3].all fun u => !Tryd.prog.wantsStandIn u) = true := by kernel_rfl
        exact (show Tryd.prog.wantsStandIn t = false by simpa using List.all_eq_true.1 hall t hm)⟩)
    (by kernel_rfl)
#print axioms law3_card

set_option maxRecDepth 100000 in
theorem law4_lifted (os : Os) (started : os.Started) (H : Type) (enc : TypeId × Value → H) :
    ReturnsInHanded {} Tryd.checked os 4 .any (fun w args => (Rows.interceptMetasSpec.pre enc Tryd.prog Tryd.f4 Rows.interceptMetasRow.domain false w args ∧ laidMetH Tryd.prog laidL w) ∧ sizedMet enc Tryd.prog Tryd.f4 (OpenSpec.ofChange Rows.interceptMetasSpec) false w args)
      (Rows.interceptMetasSpec.post enc Tryd.prog Tryd.f4 false true false false) := by
  refine returnsInHanded_of_change_and (C := Tryd.checked) (X := fun w _ => laidMetH Tryd.prog laidL w) (fun _ _ _ hh h => h.of_heap hh) own started (by kernel_rfl) Tryd.func4
    (ChangeSpec.witness_shaped (enc := enc) (C := Tryd.checked) (os := os) (X := fun w _ => laidMetH Tryd.prog laidL w) false (World.laidAll Tryd.prog os laidL) #[.agg #[.string ⟨#[]⟩, .string ⟨#[]⟩, .int .i64 0, .slice none 0 0], .string ⟨#[]⟩, .string ⟨#[]⟩] 8 (World.laidAll_os _ _ _)
      (World.shaped_of_ZipB (by kernel_rfl) (by kernel_rfl)) (by kernel_rfl) (by kernel_rfl) (by kernel_rfl) (laid_world os _)) ?_
  intro W base args ds gs before hval0 hW hc _ hL _
  have hval : ∀ (j : Nat) t v, Tryd.f4.params[j]? = some t → args[j]? = some v → Value.okWide Tryd.prog W .any base t v := hval0
  have hW' := hW
  obtain ⟨p, q, hA0, hV, rfl, hfz, hnd⟩ := hW
  have hA : DataW.TrodAll enc Tryd.prog W 0 (fun _ => true) true Tryd.f4.params.toList args.toList ds p := hA0
  rw [Tryd.params4] at hA hval
  obtain ⟨rfl, rfl⟩ := trodVars_none hV
  obtain ⟨d0, d1, d2, rfl⟩ : ∃ d0 d1 d2, ds = [d0, d1, d2] := by
    obtain ⟨_, _, d0, _, _, _, _, rfl, _, _, r0⟩ := trodAll_cons hA
    obtain ⟨_, _, d1, _, _, _, _, rfl, _, _, r1⟩ := trodAll_cons r0
    obtain ⟨_, _, d2, _, _, _, _, rfl, _, _, r2⟩ := trodAll_cons r1
    obtain ⟨_, rfl, _⟩ := trodAll_nil r2
    exact ⟨d0, d1, d2, rfl⟩
  have hok : CtOk Tryd.prog S 4 (ctN (Go.Vc.args (aCons (aAgg cd_Head) (aCons (aLf cStr) (a1 (aLf cStr))))) rsLaw 1 [] _ (fun _ => true)) := e_law4.ok
  have hcall := law_callsG (ts := [33, 9, 9]) hok (fun _ => rfl) (openA_cons (openV_agg Tryd.underlying33 op_33) (openA_cons (openV_lf Tryd.underlying9 rfl cStr_ok rfl (opens_str Tryd.underlying9)) (openA_1 (openV_lf Tryd.underlying9 rfl cStr_ok rfl (opens_str Tryd.underlying9))))) (fun _ _ => trivial) (vs := args.toList) (gl_ok hL) (fun j t v h1 h2 => hval j t v (by simpa using h1) (by simpa using h2)) hA
  rw [Array.toArray_toList] at hcall
  refine hcall.mono ?_
  rintro e W' ⟨rfl, bel⟩
  exact ⟨_, rfl, _, _, _, [], _, [], hW', trodAll_mk1 (shut_bool Tryd.underlying4 _), trodAll_below laidOut bel (by kernel_rfl) hA, rfl, bel.frame _, fun h => by cases h⟩

theorem law4_holds : Rows.InterceptMetasSaid :=
  OpenClaim.holds_of_wide 4 Tryd.f4 rfl rfl rfl rfl rfl rfl rfl ⟨rfl, rfl, rfl, rfl, rfl⟩ rfl rfl rfl rfl rfl (by kernel_rfl) Tryd.func4 (by kernel_rfl)
    (of_decide_eq_true (by kernel_rfl)) (by unfold Func.isWrapper; first | (rw [if_pos (by decide +kernel)]; kernel_rfl) | (rw [if_neg (by decide +kernel)]; exact ⟨rfl, rfl⟩))
    (fun os started H enc _ => law4_lifted os started H enc)
#print axioms law4_holds
theorem law4_card : Rows.InterceptMetasCardSaid :=
  Claim7.holds_tied_plain_at .later [] [.data, .data, .pinned] true (true, "addab2420164fee07e1e488aaf554fc6ad771a061e46f2235169362c68177ebc") true law4_holds (fun _ h => by cases h) (by kernel_rfl) (fun _ h => by cases h) interceptMetas_row_tie rfl ⟨rfl, rfl⟩ (by kernel_rfl) rfl
    (fun f fn hf hfn => by
      obtain rfl : f = 4 := Option.some.inj ((show Tryd.prog.funcNamed "wireschema/wireschemalaw51.InterceptMetas" = some 4 by kernel_rfl).symm.trans hf) |>.symm
      obtain rfl : fn = Tryd.f4 := (Option.some.inj (Tryd.func4.symm.trans hfn)).symm
      exact ⟨by kernel_rfl, fun j t ht => by
        rw [Tryd.params4] at ht
        have hm : t ∈ [33, 9, 9] := by simpa using Array.mem_of_getElem? ht
        have hall : ([33, 9, 9].all fun u => !Tryd.prog.wantsStandIn u) = true := by kernel_rfl
        exact (show Tryd.prog.wantsStandIn t = false by simpa using List.all_eq_true.1 hall t hm)⟩)
    (by kernel_rfl)
#print axioms law4_card
end Go.Proofs.YtemjcccdcnhmhaaDoor
