/-
  The laws LossyReceives and LossyKeeps of package lossy (chapter 48) hold for every input: each returns true, and what was handed in reads as it did before.
-/
import Derived.Test.YtjmolijohilahaaF
import Derived.Test.YtjmolijohilahaaRows
import Derived.Test.YtjmolijohilahaaVdp
import Derived.OpenShut
import Derived.ChangeOld
import Derived.ChangeSlices
import Derived.Lib.SmallJoins
namespace Go.Proofs.Ytjmolijohilahaa
open Go.ChangeShapes Go.WideShapes Go.ChangeAt Go.RowKit Go.Joins Go.Vc
set_option linter.unusedVariables false
set_option linter.unusedSimpArgs false
set_option maxRecDepth 100000

def good_Packet (b : Packet) : Prop := (InR .i64 b.Seq ∧ (InR .i64 b.Ack ∧ b.Data.length ≤ 9223372036854775807))
theorem op_30 : Opens Try.prog S 30 cd_Packet good_Packet := opens_struct Try.underlying30 (by kernel_rfl) (fun _ => rfl) (opensF_cons rfl (by kernel_rfl) (opens_int Try.underlying3) (opensF_cons rfl (by kernel_rfl) (opens_int Try.underlying3) (opensF_one rfl (by kernel_rfl) (opens_str Try.underlying9))))
theorem op_22 : Opens Try.prog S 22 cd_LPacket (fun l => l.length ≤ 9223372036854775807 ∧ ∀ a ∈ l, good_Packet a) := opens_slice (dflt := d_Packet) Try.underlying22 (by kernel_rfl) cd_Packet_ok op_30 (fun _ => rfl) (fun _ => rfl) (fun _ _ _ => rfl)
def good_Link (b : Link) : Prop := (InR .i64 b.Next ∧ ((b.Wait.length ≤ 9223372036854775807 ∧ ∀ a ∈ b.Wait, good_Packet a) ∧ (InR .i64 b.Expect ∧ ((b.Early.length ≤ 9223372036854775807 ∧ ∀ a ∈ b.Early, good_Packet a) ∧ (InR .i64 b.Again ∧ True)))))
theorem op_24 : Opens Try.prog S 24 cd_Link good_Link := opens_struct Try.underlying24 (by kernel_rfl) (fun _ => rfl) (opensF_cons rfl (by kernel_rfl) (opens_int Try.underlying3) (opensF_cons rfl (by kernel_rfl) op_22 (opensF_cons rfl (by kernel_rfl) (opens_int Try.underlying3) (opensF_cons rfl (by kernel_rfl) op_22 (opensF_cons rfl (by kernel_rfl) (opens_int Try.underlying3) (opensF_one rfl (by kernel_rfl) (opens_bool Try.underlying4)))))))
theorem own : ownKnob Try.prog.godebug = none := by kernel_rfl
theorem laidOut : laidOutB Try.prog = true := by kernel_rfl

set_option maxRecDepth 100000 in
theorem lossyReceives_lifted (os : Os) (started : os.Started) (H : Type) (enc : TypeId × Value → H) :
    ReturnsInHanded {} Try.checked os 5 .any (Rows.lossyReceivesSpec.pre6 enc Try.prog Try.f5 Rows.lossyReceivesRow.domain false) (Rows.lossyReceivesSpec.post enc Try.prog Try.f5 false true false false) := by
  refine returnsInHanded_of_change (C := Try.checked) own started (by kernel_rfl) Try.func5
    (ChangeSpec.witness6 (enc := enc) (C := Try.checked) false ⟨#[], #[.agg #[.int .i64 0, .slice none 0 0, .int .i64 0, .slice none 0 0, .int .i64 0, .bool false], .agg #[.int .i64 0, .int .i64 0, .string ⟨#[]⟩]], []⟩ 8 (by kernel_rfl) (by kernel_rfl) (by kernel_rfl) (by kernel_rfl)) ?_
  intro W base args ds gs before hval0 hW hcnd _
  have hval : ∀ (j : Nat) t v, Try.f5.params[j]? = some t → args[j]? = some v → Value.okWide Try.prog W .any base t v := hval0
  have hW' := hW
  obtain ⟨p, q, hA0, hV, rfl, hfz, hnd⟩ := hW
  have hA : DataW.TrodAll enc Try.prog W 0 (fun _ => true) true Try.f5.params.toList args.toList ds p := hA0
  rw [Try.params5] at hA hval
  obtain ⟨rfl, rfl⟩ := trodVars_none hV
  obtain ⟨d0, d1, rfl⟩ : ∃ d0 d1, ds = [d0, d1] := by
    obtain ⟨_, _, d0, _, _, _, _, rfl, _, _, r0⟩ := trodAll_cons hA
    obtain ⟨_, _, d1, _, _, _, _, rfl, _, _, r1⟩ := trodAll_cons r0
    obtain ⟨_, rfl, _⟩ := trodAll_nil r1
    exact ⟨d0, d1, rfl⟩
  have hok : CtOk Try.prog S 5 (ctN as_lossyReceives rsLaw 1 [] _ (fun _ => true)) := ct_lossyReceives_ok
  have hcall := law_calls (ts := [24, 30]) hok (fun _ => rfl) (openA_cons (openV_agg Try.underlying24 op_24) (openA_1 (openV_agg Try.underlying30 op_30))) (fun a h => ⟨fun q hq => (h.1.2.1.2 q hq).2.2, fun q hq => (h.1.2.2.2.1.2 q hq).2.2⟩) (vs := args.toList) (fun j t v h1 h2 => hval j t v (by simpa using h1) (by simpa using h2)) hA
  rw [Array.toArray_toList] at hcall
  refine hcall.mono ?_
  rintro e W' ⟨rfl, bel⟩
  exact ⟨_, rfl, _, _, _, [], _, [], hW', trodAll_mk1 (shut_bool Try.underlying4 _), trodAll_below laidOut bel (by kernel_rfl) hA, rfl, bel.frame _, fun h => by cases h⟩

theorem lossyReceives_holds : Rows.LossyReceivesSaid :=
  OpenClaim.holds_of_wide 5 Try.f5 rfl rfl rfl rfl rfl rfl rfl ⟨rfl, rfl, rfl, rfl, rfl⟩ rfl rfl rfl rfl rfl (by kernel_rfl) Try.func5 (by kernel_rfl)
    (of_decide_eq_true (by kernel_rfl)) (by unfold Func.isWrapper; first | (rw [if_pos (by decide +kernel)]; kernel_rfl) | (rw [if_neg (by decide +kernel)]; exact ⟨rfl, rfl⟩))
    (fun os started H enc _ => lossyReceives_lifted os started H enc)
#print axioms lossyReceives_holds

set_option maxRecDepth 100000 in
theorem lossyKeeps_lifted (os : Os) (started : os.Started) (H : Type) (enc : TypeId × Value → H) :
    ReturnsInHanded {} Try.checked os 6 .any (Rows.lossyKeepsSpec.pre6 enc Try.prog Try.f6 Rows.lossyKeepsRow.domain false) (Rows.lossyKeepsSpec.post enc Try.prog Try.f6 false true false false) := by
  refine returnsInHanded_of_change (C := Try.checked) own started (by kernel_rfl) Try.func6
    (ChangeSpec.witness6 (enc := enc) (C := Try.checked) false ⟨#[], #[.agg #[.int .i64 0, .slice none 0 0, .int .i64 0, .slice none 0 0, .int .i64 0, .bool false], .string ⟨#[]⟩, .agg #[.int .i64 0, .int .i64 0, .string ⟨#[]⟩]], []⟩ 8 (by kernel_rfl) (by kernel_rfl) (by kernel_rfl) (by kernel_rfl)) ?_
  intro W base args ds gs before hval0 hW hcnd _
  have hval : ∀ (j : Nat) t v, Try.f6.params[j]? = some t → args[j]? = some v → Value.okWide Try.prog W .any base t v := hval0
  have hW' := hW
  obtain ⟨p, q, hA0, hV, rfl, hfz, hnd⟩ := hW
  have hA : DataW.TrodAll enc Try.prog W 0 (fun _ => true) true Try.f6.params.toList args.toList ds p := hA0
  rw [Try.params6] at hA hval
  obtain ⟨rfl, rfl⟩ := trodVars_none hV
  obtain ⟨d0, d1, d2, rfl⟩ : ∃ d0 d1 d2, ds = [d0, d1, d2] := by
    obtain ⟨_, _, d0, _, _, _, _, rfl, _, _, r0⟩ := trodAll_cons hA
    obtain ⟨_, _, d1, _, _, _, _, rfl, _, _, r1⟩ := trodAll_cons r0
    obtain ⟨_, _, d2, _, _, _, _, rfl, _, _, r2⟩ := trodAll_cons r1
    obtain ⟨_, rfl, _⟩ := trodAll_nil r2
    exact ⟨d0, d1, d2, rfl⟩
  have hok : CtOk Try.prog S 6 (ctN as_lossyKeeps rsLaw 1 [] _ (fun _ => true)) := ct_lossyKeeps_ok
  have hcall := law_calls (ts := [24, 9, 30]) hok (fun _ => rfl) (openA_cons (openV_agg Try.underlying24 op_24) (openA_cons (openV_lf Try.underlying9 rfl cStr_ok rfl (opens_str Try.underlying9)) (openA_1 (openV_agg Try.underlying30 op_30)))) (fun a h => ⟨fun q hq => (h.1.2.1.2 q hq).2.2, fun q hq => (h.1.2.2.2.1.2 q hq).2.2⟩) (vs := args.toList) (fun j t v h1 h2 => hval j t v (by simpa using h1) (by simpa using h2)) hA
  rw [Array.toArray_toList] at hcall
  refine hcall.mono ?_
  rintro e W' ⟨rfl, bel⟩
  exact ⟨_, rfl, _, _, _, [], _, [], hW', trodAll_mk1 (shut_bool Try.underlying4 _), trodAll_below laidOut bel (by kernel_rfl) hA, rfl, bel.frame _, fun h => by cases h⟩

theorem lossyKeeps_holds : Rows.LossyKeepsSaid :=
  OpenClaim.holds_of_wide 6 Try.f6 rfl rfl rfl rfl rfl rfl rfl ⟨rfl, rfl, rfl, rfl, rfl⟩ rfl rfl rfl rfl rfl (by kernel_rfl) Try.func6 (by kernel_rfl)
    (of_decide_eq_true (by kernel_rfl)) (by unfold Func.isWrapper; first | (rw [if_pos (by decide +kernel)]; kernel_rfl) | (rw [if_neg (by decide +kernel)]; exact ⟨rfl, rfl⟩))
    (fun os started H enc _ => lossyKeeps_lifted os started H enc)
#print axioms lossyKeeps_holds
end Go.Proofs.Ytjmolijohilahaa
