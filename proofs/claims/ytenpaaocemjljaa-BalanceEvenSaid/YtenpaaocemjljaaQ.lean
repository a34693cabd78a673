/-
  The law BalanceEven of package balance (chapter 50) holds for every input: it returns true.
-/
import Derived.Test.YtenpaaocemjljaaH
import Derived.Test.YtenpaaocemjljaaRows
import Derived.Test.YtenpaaocemjljaaVdp
import Derived.OpenShut
import Derived.ChangeOld
import Derived.ChangeSlices
import Derived.Lib.SmallJoins
namespace Go.Proofs.Ytenpaaocemjljaa
open Go.ChangeShapes Go.WideShapes Go.ChangeAt Go.RowKit Go.Joins Go.Vc
set_option linter.unusedVariables false
set_option linter.unusedSimpArgs false
set_option maxRecDepth 100000

theorem own : ownKnob Try.prog.godebug = none := by kernel_rfl
theorem laidOut : laidOutB Try.prog = true := by kernel_rfl

set_option maxRecDepth 100000 in
theorem balanceEven_lifted (os : Os) (started : os.Started) (H : Type) (enc : TypeId × Value → H) :
    ReturnsInHanded {} Try.checked os 7 .any (Rows.balanceEvenSpec.pre6 enc Try.prog Try.f7 Rows.balanceEvenRow.domain false) (Rows.balanceEvenSpec.post enc Try.prog Try.f7 false true false false) := by
  refine returnsInHanded_of_change (C := Try.checked) own started (by kernel_rfl) Try.func7
    (ChangeSpec.witness6 (enc := enc) (C := Try.checked) false ⟨#[], #[.int .u8 0, .int .u8 0, .int .i64 0], []⟩ 8 (by kernel_rfl) (by kernel_rfl) (by kernel_rfl) (by kernel_rfl)) ?_
  intro W base args ds gs before hval0 hW hcnd _
  have hval : ∀ (j : Nat) t v, Try.f7.params[j]? = some t → args[j]? = some v → Value.okWide Try.prog W .any base t v := hval0
  have hW' := hW
  obtain ⟨p, q, hA0, hV, rfl, hfz, hnd⟩ := hW
  have hA : DataW.TrodAll enc Try.prog W 0 (fun _ => true) true Try.f7.params.toList args.toList ds p := hA0
  rw [Try.params7] at hA hval
  obtain ⟨rfl, rfl⟩ := trodVars_none hV
  obtain ⟨d0, d1, d2, rfl⟩ : ∃ d0 d1 d2, ds = [d0, d1, d2] := by
    obtain ⟨_, _, d0, _, _, _, _, rfl, _, _, r0⟩ := trodAll_cons hA
    obtain ⟨_, _, d1, _, _, _, _, rfl, _, _, r1⟩ := trodAll_cons r0
    obtain ⟨_, _, d2, _, _, _, _, rfl, _, _, r2⟩ := trodAll_cons r1
    obtain ⟨_, rfl, _⟩ := trodAll_nil r2
    exact ⟨d0, d1, d2, rfl⟩
  have hok : CtOk Try.prog S 7 (ctN as_balanceEven rsLaw 1 [] _ (fun _ => true)) := ct_balanceEven_ok
  have hcall := law_calls (ts := [5, 5, 3]) hok (fun _ => rfl) (openA_cons (openV_lf Try.underlying5 rfl (cInt_ok _) rfl (opens_int Try.underlying5)) (openA_cons (openV_lf Try.underlying5 rfl (cInt_ok _) rfl (opens_int Try.underlying5)) (openA_1 (openV_lf Try.underlying3 rfl (cInt_ok _) rfl (opens_int Try.underlying3))))) (fun a h => by have h1 := h.1; have h2 := h.2.1; simp only [InR] at h1 h2; show (0 ≤ a.1 ∧ a.1 ≤ 255) ∧ 0 ≤ a.2.1 ∧ a.2.1 ≤ 255; omega) (vs := args.toList) (fun j t v h1 h2 => hval j t v (by simpa using h1) (by simpa using h2)) hA
  rw [Array.toArray_toList] at hcall
  refine hcall.mono ?_
  rintro e W' ⟨rfl, bel⟩
  exact ⟨_, rfl, _, _, _, [], _, [], hW', trodAll_mk1 (shut_bool Try.underlying4 _), trodAll_below laidOut bel (by kernel_rfl) hA, rfl, bel.frame _, fun h => by cases h⟩

theorem balanceEven_holds : Rows.BalanceEvenSaid :=
  OpenClaim.holds_of_wide 7 Try.f7 rfl rfl rfl rfl rfl rfl rfl ⟨rfl, rfl, rfl, rfl, rfl⟩ rfl rfl rfl rfl rfl (by kernel_rfl) Try.func7 (by kernel_rfl)
    (of_decide_eq_true (by kernel_rfl)) (by unfold Func.isWrapper; first | (rw [if_pos (by decide +kernel)]; kernel_rfl) | (rw [if_neg (by decide +kernel)]; exact ⟨rfl, rfl⟩))
    (fun os started H enc _ => balanceEven_lifted os started H enc)
#print axioms balanceEven_holds
end Go.Proofs.Ytenpaaocemjljaa
