/-
  The laws BalanceLeast, BalanceSpreads, BalanceLeaves and BalanceRuns of package balance (chapter 50) hold for every input: each returns true, and what was handed in reads as it did before.
-/
import Derived.Test.YtenpaaocemjljaaH
import Derived.Test.YtenpaaocemjljaaRows
import Derived.Test.YtenpaaocemjljaaVdp
import Derived.OpenShut
import Derived.ChangeOld
import Derived.ChangeSlices
import Derived.Lib.SmallJoins
namespace Go.Proofs.Ytenpaaocemjljaa
open Go.ChangeShapes Go.WideShapes Go.ChangeAt Go.RowKit Go.Joins Go.Vc
set_option linter.unusedVariables false
set_option linter.unusedSimpArgs false
set_option maxRecDepth 100000

def good_Backend (b : Backend) : Prop := (b.Name.length ≤ 9223372036854775807 ∧ (InR .i64 b.Load ∧ (InR .i64 b.Busy ∧ (InR .i64 b.Weight ∧ (InR .i64 b.Fails ∧ InR .i64 b.Out)))))
theorem op_32 : Opens Try.prog S 32 cd_Backend good_Backend := opens_struct Try.underlying32 (by kernel_rfl) (fun _ => rfl) (opensF_cons rfl (by kernel_rfl) (opens_str Try.underlying9) (opensF_cons rfl (by kernel_rfl) (opens_int Try.underlying3) (opensF_cons rfl (by kernel_rfl) (opens_int Try.underlying3) (opensF_cons rfl (by kernel_rfl) (opens_int Try.underlying3) (opensF_cons rfl (by kernel_rfl) (opens_int Try.underlying3) (opensF_one rfl (by kernel_rfl) (opens_int Try.underlying3)))))))
theorem op_22 : Opens Try.prog S 22 cd_LBackend (fun l => l.length ≤ 9223372036854775807 ∧ ∀ a ∈ l, good_Backend a) := opens_slice (dflt := d_Backend) Try.underlying22 (by kernel_rfl) cd_Backend_ok op_32 (fun _ => rfl) (fun _ => rfl) (fun _ _ _ => rfl)
def good_law50_Op (b : law50_Op) : Prop := (InR .i64 b.Kind ∧ (InR .i64 b.I ∧ (InR .i64 b.N ∧ InR .i64 b.Now)))
theorem op_42 : Opens Try.prog S 42 cd_law50_Op good_law50_Op := opens_struct Try.underlying42 (by kernel_rfl) (fun _ => rfl) (opensF_cons rfl (by kernel_rfl) (opens_int Try.underlying3) (opensF_cons rfl (by kernel_rfl) (opens_int Try.underlying3) (opensF_cons rfl (by kernel_rfl) (opens_int Try.underlying3) (opensF_one rfl (by kernel_rfl) (opens_int Try.underlying3)))))
theorem op_40 : Opens Try.prog S 40 cd_Llaw50_Op (fun l => l.length ≤ 9223372036854775807 ∧ ∀ a ∈ l, good_law50_Op a) := opens_slice (dflt := d_law50_Op) Try.underlying40 (by kernel_rfl) cd_law50_Op_ok op_42 (fun _ => rfl) (fun _ => rfl) (fun _ _ _ => rfl)
theorem own : ownKnob Try.prog.godebug = none := by kernel_rfl
theorem laidOut : laidOutB Try.prog = true := by kernel_rfl

set_option maxRecDepth 100000 in
theorem balanceLeast_lifted (os : Os) (started : os.Started) (H : Type) (enc : TypeId × Value → H) :
    ReturnsInHanded {} Try.checked os 5 .any (Rows.balanceLeastSpec.pre6 enc Try.prog Try.f5 Rows.balanceLeastRow.domain false) (Rows.balanceLeastSpec.post enc Try.prog Try.f5 false true false false) := by
  refine returnsInHanded_of_change (C := Try.checked) own started (by kernel_rfl) Try.func5
    (ChangeSpec.witness6 (enc := enc) (C := Try.checked) false ⟨#[], #[.slice none 0 0, .int .i64 0], []⟩ 8 (by kernel_rfl) (by kernel_rfl) (by kernel_rfl) (by kernel_rfl)) ?_
  intro W base args ds gs before hval0 hW hcnd _
  have hval : ∀ (j : Nat) t v, Try.f5.params[j]? = some t → args[j]? = some v → Value.okWide Try.prog W .any base t v := hval0
  have hW' := hW
  obtain ⟨p, q, hA0, hV, rfl, hfz, hnd⟩ := hW
  have hA : DataW.TrodAll enc Try.prog W 0 (fun _ => true) true Try.f5.params.toList args.toList ds p := hA0
  rw [Try.params5] at hA hval
  obtain ⟨rfl, rfl⟩ := trodVars_none hV
  obtain ⟨d0, d1, rfl⟩ : ∃ d0 d1, ds = [d0, d1] := by
    obtain ⟨_, _, d0, _, _, _, _, rfl, _, _, r0⟩ := trodAll_cons hA
    obtain ⟨_, _, d1, _, _, _, _, rfl, _, _, r1⟩ := trodAll_cons r0
    obtain ⟨_, rfl, _⟩ := trodAll_nil r1
    exact ⟨d0, d1, rfl⟩
  have hok : CtOk Try.prog S 5 (ctN as_balanceLeast rsLaw 1 [] _ (fun _ => true)) := ct_balanceLeast_ok
  have hcall := law_calls (ts := [22, 3]) hok (fun _ => rfl) (openA_cons (openV_lf Try.underlying22 rfl cd_LBackend_ok rfl op_22) (openA_1 (openV_lf Try.underlying3 rfl (cInt_ok _) rfl (opens_int Try.underlying3)))) (fun _ _ => trivial) (vs := args.toList) (fun j t v h1 h2 => hval j t v (by simpa using h1) (by simpa using h2)) hA
  rw [Array.toArray_toList] at hcall
  refine hcall.mono ?_
  rintro e W' ⟨rfl, bel⟩
  exact ⟨_, rfl, _, _, _, [], _, [], hW', trodAll_mk1 (shut_bool Try.underlying4 _), trodAll_below laidOut bel (by kernel_rfl) hA, rfl, bel.frame _, fun h => by cases h⟩

theorem balanceLeast_holds : Rows.BalanceLeastSaid :=
  OpenClaim.holds_of_wide 5 Try.f5 rfl rfl rfl rfl rfl rfl rfl ⟨rfl, rfl, rfl, rfl, rfl⟩ rfl rfl rfl rfl rfl (by kernel_rfl) Try.func5 (by kernel_rfl)
    (of_decide_eq_true (by kernel_rfl)) (by unfold Func.isWrapper; first | (rw [if_pos (by decide +kernel)]; kernel_rfl) | (rw [if_neg (by decide +kernel)]; exact ⟨rfl, rfl⟩))
    (fun os started H enc _ => balanceLeast_lifted os started H enc)
#print axioms balanceLeast_holds

set_option maxRecDepth 100000 in
theorem balanceSpreads_lifted (os : Os) (started : os.Started) (H : Type) (enc : TypeId × Value → H) :
    ReturnsInHanded {} Try.checked os 6 .any (Rows.balanceSpreadsSpec.pre6 enc Try.prog Try.f6 Rows.balanceSpreadsRow.domain false) (Rows.balanceSpreadsSpec.post enc Try.prog Try.f6 false true false false) := by
  refine returnsInHanded_of_change (C := Try.checked) own started (by kernel_rfl) Try.func6
    (ChangeSpec.witness6 (enc := enc) (C := Try.checked) false ⟨#[], #[.slice none 0 0, .int .i64 0, .int .i64 0], []⟩ 8 (by kernel_rfl) (by kernel_rfl) (by kernel_rfl) (by kernel_rfl)) ?_
  intro W base args ds gs before hval0 hW hcnd _
  have hval : ∀ (j : Nat) t v, Try.f6.params[j]? = some t → args[j]? = some v → Value.okWide Try.prog W .any base t v := hval0
  have hW' := hW
  obtain ⟨p, q, hA0, hV, rfl, hfz, hnd⟩ := hW
  have hA : DataW.TrodAll enc Try.prog W 0 (fun _ => true) true Try.f6.params.toList args.toList ds p := hA0
  rw [Try.params6] at hA hval
  obtain ⟨rfl, rfl⟩ := trodVars_none hV
  obtain ⟨d0, d1, d2, rfl⟩ : ∃ d0 d1 d2, ds = [d0, d1, d2] := by
    obtain ⟨_, _, d0, _, _, _, _, rfl, _, _, r0⟩ := trodAll_cons hA
    obtain ⟨_, _, d1, _, _, _, _, rfl, _, _, r1⟩ := trodAll_cons r0
    obtain ⟨_, _, d2, _, _, _, _, rfl, _, _, r2⟩ := trodAll_cons r1
    obtain ⟨_, rfl, _⟩ := trodAll_nil r2
    exact ⟨d0, d1, d2, rfl⟩
  have hok : CtOk Try.prog S 6 (ctN as_balanceSpreads rsLaw 1 [] _ (fun _ => true)) := ct_balanceSpreads_ok
  have hcall := law_calls (ts := [22, 3, 3]) hok (fun _ => rfl) (openA_cons (openV_lf Try.underlying22 rfl cd_LBackend_ok rfl op_22) (openA_cons (openV_lf Try.underlying3 rfl (cInt_ok _) rfl (opens_int Try.underlying3)) (openA_1 (openV_lf Try.underlying3 rfl (cInt_ok _) rfl (opens_int Try.underlying3))))) (fun _ _ => trivial) (vs := args.toList) (fun j t v h1 h2 => hval j t v (by simpa using h1) (by simpa using h2)) hA
  rw [Array.toArray_toList] at hcall
  refine hcall.mono ?_
  rintro e W' ⟨rfl, bel⟩
  exact ⟨_, rfl, _, _, _, [], _, [], hW', trodAll_mk1 (shut_bool Try.underlying4 _), trodAll_below laidOut bel (by kernel_rfl) hA, rfl, bel.frame _, fun h => by cases h⟩

theorem balanceSpreads_holds : Rows.BalanceSpreadsSaid :=
  OpenClaim.holds_of_wide 6 Try.f6 rfl rfl rfl rfl rfl rfl rfl ⟨rfl, rfl, rfl, rfl, rfl⟩ rfl rfl rfl rfl rfl (by kernel_rfl) Try.func6 (by kernel_rfl)
    (of_decide_eq_true (by kernel_rfl)) (by unfold Func.isWrapper; first | (rw [if_pos (by decide +kernel)]; kernel_rfl) | (rw [if_neg (by decide +kernel)]; exact ⟨rfl, rfl⟩))
    (fun os started H enc _ => balanceSpreads_lifted os started H enc)
#print axioms balanceSpreads_holds

set_option maxRecDepth 100000 in
theorem balanceLeaves_lifted (os : Os) (started : os.Started) (H : Type) (enc : TypeId × Value → H) :
    ReturnsInHanded {} Try.checked os 8 .any (Rows.balanceLeavesSpec.pre6 enc Try.prog Try.f8 Rows.balanceLeavesRow.domain false) (Rows.balanceLeavesSpec.post enc Try.prog Try.f8 false true false false) := by
  refine returnsInHanded_of_change (C := Try.checked) own started (by kernel_rfl) Try.func8
    (ChangeSpec.witness6 (enc := enc) (C := Try.checked) false ⟨#[], #[.slice none 0 0, .int .i64 0, .int .i64 0], []⟩ 8 (by kernel_rfl) (by kernel_rfl) (by kernel_rfl) (by kernel_rfl)) ?_
  intro W base args ds gs before hval0 hW hcnd _
  have hval : ∀ (j : Nat) t v, Try.f8.params[j]? = some t → args[j]? = some v → Value.okWide Try.prog W .any base t v := hval0
  have hW' := hW
  obtain ⟨p, q, hA0, hV, rfl, hfz, hnd⟩ := hW
  have hA : DataW.TrodAll enc Try.prog W 0 (fun _ => true) true Try.f8.params.toList args.toList ds p := hA0
  rw [Try.params8] at hA hval
  obtain ⟨rfl, rfl⟩ := trodVars_none hV
  obtain ⟨d0, d1, d2, rfl⟩ : ∃ d0 d1 d2, ds = [d0, d1, d2] := by
    obtain ⟨_, _, d0, _, _, _, _, rfl, _, _, r0⟩ := trodAll_cons hA
    obtain ⟨_, _, d1, _, _, _, _, rfl, _, _, r1⟩ := trodAll_cons r0
    obtain ⟨_, _, d2, _, _, _, _, rfl, _, _, r2⟩ := trodAll_cons r1
    obtain ⟨_, rfl, _⟩ := trodAll_nil r2
    exact ⟨d0, d1, d2, rfl⟩
  have hok : CtOk Try.prog S 8 (ctN as_balanceLeaves rsLaw 1 [] _ (fun _ => true)) := ct_balanceLeaves_ok
  have hcall := law_calls (ts := [22, 3, 3]) hok (fun _ => rfl) (openA_cons (openV_lf Try.underlying22 rfl cd_LBackend_ok rfl op_22) (openA_cons (openV_lf Try.underlying3 rfl (cInt_ok _) rfl (opens_int Try.underlying3)) (openA_1 (openV_lf Try.underlying3 rfl (cInt_ok _) rfl (opens_int Try.underlying3))))) (fun _ _ => trivial) (vs := args.toList) (fun j t v h1 h2 => hval j t v (by simpa using h1) (by simpa using h2)) hA
  rw [Array.toArray_toList] at hcall
  refine hcall.mono ?_
  rintro e W' ⟨rfl, bel⟩
  exact ⟨_, rfl, _, _, _, [], _, [], hW', trodAll_mk1 (shut_bool Try.underlying4 _), trodAll_below laidOut bel (by kernel_rfl) hA, rfl, bel.frame _, fun h => by cases h⟩

theorem balanceLeaves_holds : Rows.BalanceLeavesSaid :=
  OpenClaim.holds_of_wide 8 Try.f8 rfl rfl rfl rfl rfl rfl rfl ⟨rfl, rfl, rfl, rfl, rfl⟩ rfl rfl rfl rfl rfl (by kernel_rfl) Try.func8 (by kernel_rfl)
    (of_decide_eq_true (by kernel_rfl)) (by unfold Func.isWrapper; first | (rw [if_pos (by decide +kernel)]; kernel_rfl) | (rw [if_neg (by decide +kernel)]; exact ⟨rfl, rfl⟩))
    (fun os started H enc _ => balanceLeaves_lifted os started H enc)
#print axioms balanceLeaves_holds

set_option maxRecDepth 100000 in
theorem balanceRuns_lifted (os : Os) (started : os.Started) (H : Type) (enc : TypeId × Value → H) :
    ReturnsInHanded {} Try.checked os 9 .any (Rows.balanceRunsSpec.pre6 enc Try.prog Try.f9 Rows.balanceRunsRow.domain false) (Rows.balanceRunsSpec.post enc Try.prog Try.f9 false true false false) := by
  refine returnsInHanded_of_change (C := Try.checked) own started (by kernel_rfl) Try.func9
    (ChangeSpec.witness6 (enc := enc) (C := Try.checked) false ⟨#[], #[.slice none 0 0, .slice none 0 0], []⟩ 8 (by kernel_rfl) (by kernel_rfl) (by kernel_rfl) (by kernel_rfl)) ?_
  intro W base args ds gs before hval0 hW hcnd _
  have hval : ∀ (j : Nat) t v, Try.f9.params[j]? = some t → args[j]? = some v → Value.okWide Try.prog W .any base t v := hval0
  have hW' := hW
  obtain ⟨p, q, hA0, hV, rfl, hfz, hnd⟩ := hW
  have hA : DataW.TrodAll enc Try.prog W 0 (fun _ => true) true Try.f9.params.toList args.toList ds p := hA0
  rw [Try.params9] at hA hval
  obtain ⟨rfl, rfl⟩ := trodVars_none hV
  obtain ⟨d0, d1, rfl⟩ : ∃ d0 d1, ds = [d0, d1] := by
    obtain ⟨_, _, d0, _, _, _, _, rfl, _, _, r0⟩ := trodAll_cons hA
    obtain ⟨_, _, d1, _, _, _, _, rfl, _, _, r1⟩ := trodAll_cons r0
    obtain ⟨_, rfl, _⟩ := trodAll_nil r1
    exact ⟨d0, d1, rfl⟩
  have hok : CtOk Try.prog S 9 (ctN as_balanceRuns rsLaw 1 [] _ (fun _ => true)) := ct_balanceRuns_ok
  have hcall := law_calls (ts := [22, 40]) hok (fun _ => rfl) (openA_cons (openV_lf Try.underlying22 rfl cd_LBackend_ok rfl op_22) (openA_1 (openV_lf Try.underlying40 rfl cd_Llaw50_Op_ok rfl op_40))) (fun _ _ => trivial) (vs := args.toList) (fun j t v h1 h2 => hval j t v (by simpa using h1) (by simpa using h2)) hA
  rw [Array.toArray_toList] at hcall
  refine hcall.mono ?_
  rintro e W' ⟨rfl, bel⟩
  exact ⟨_, rfl, _, _, _, [], _, [], hW', trodAll_mk1 (shut_bool Try.underlying4 _), trodAll_below laidOut bel (by kernel_rfl) hA, rfl, bel.frame _, fun h => by cases h⟩

theorem balanceRuns_holds : Rows.BalanceRunsSaid :=
  OpenClaim.holds_of_wide 9 Try.f9 rfl rfl rfl rfl rfl rfl rfl ⟨rfl, rfl, rfl, rfl, rfl⟩ rfl rfl rfl rfl rfl (by kernel_rfl) Try.func9 (by kernel_rfl)
    (of_decide_eq_true (by kernel_rfl)) (by unfold Func.isWrapper; first | (rw [if_pos (by decide +kernel)]; kernel_rfl) | (rw [if_neg (by decide +kernel)]; exact ⟨rfl, rfl⟩))
    (fun os started H enc _ => balanceRuns_lifted os started H enc)
#print axioms balanceRuns_holds
end Go.Proofs.Ytenpaaocemjljaa
