/-
  Intercept: the law InterceptLimits holds for every input, and its card.
-/
import Derived.Test.YtemjcccdcnhmhaaDoorP
import Derived.Test.YtemjcccdcnhmhaaDoorN
namespace Go.Proofs.YtemjcccdcnhmhaaDoor
open Go.ChangeShapes Go.WideShapes Go.ChangeAt Go.RowKit Go.Joins Go.Vc
set_option linter.unusedVariables false
set_option linter.unusedSimpArgs false
set_option maxRecDepth 100000

theorem op_41 : Opens Tryd.prog S 41 cd_Li64 (fun l => l.length ≤ 9223372036854775807 ∧ ∀ a ∈ l, InR .i64 a) := opens_slice (dflt := 0) Tryd.underlying41 (by kernel_rfl) (cInt_ok _) (opens_int Tryd.underlying3) (fun _ => rfl) (fun _ => rfl) (fun _ _ _ => rfl)

set_option maxRecDepth 100000 in
theorem law5_lifted (os : Os) (started : os.Started) (H : Type) (enc : TypeId × Value → H) :
    ReturnsInHanded {} Tryd.checked os 5 .any (fun w args => (Rows.interceptLimitsSpec.pre enc Tryd.prog Tryd.f5 Rows.interceptLimitsRow.domain false w args ∧ laidMetH Tryd.prog laidL w) ∧ sizedMet enc Tryd.prog Tryd.f5 (OpenSpec.ofChange Rows.interceptLimitsSpec) false w args)
      (Rows.interceptLimitsSpec.post enc Tryd.prog Tryd.f5 false true false false) := by
  refine returnsInHanded_of_change_and (C := Tryd.checked) (X := fun w _ => laidMetH Tryd.prog laidL w) (fun _ _ _ hh h => h.of_heap hh) own started (by kernel_rfl) Tryd.func5
    (ChangeSpec.witness_shaped (enc := enc) (C := Tryd.checked) (os := os) (X := fun w _ => laidMetH Tryd.prog laidL w) false (World.laidAll Tryd.prog os laidL) #[.int .i64 0, .int .i64 0, .slice none 0 0] 8 (World.laidAll_os _ _ _)
      (World.shaped_of_ZipB (by kernel_rfl) (by kernel_rfl)) (by kernel_rfl) (by kernel_rfl) (by kernel_rfl) (laid_world os _)) ?_
  intro W base args ds gs before hval0 hW hc _ hL _
  have hval : ∀ (j : Nat) t v, Tryd.f5.params[j]? = some t → args[j]? = some v → Value.okWide Tryd.prog W .any base t v := hval0
  have hW' := hW
  obtain ⟨p, q, hA0, hV, rfl, hfz, hnd⟩ := hW
  have hA : DataW.TrodAll enc Tryd.prog W 0 (fun _ => true) true Tryd.f5.params.toList args.toList ds p := hA0
  rw [Tryd.params5] at hA hval
  obtain ⟨rfl, rfl⟩ := trodVars_none hV
  obtain ⟨d0, d1, d2, rfl⟩ : ∃ d0 d1 d2, ds = [d0, d1, d2] := by
    obtain ⟨_, _, d0, _, _, _, _, rfl, _, _, r0⟩ := trodAll_cons hA
    obtain ⟨_, _, d1, _, _, _, _, rfl, _, _, r1⟩ := trodAll_cons r0
    obtain ⟨_, _, d2, _, _, _, _, rfl, _, _, r2⟩ := trodAll_cons r1
    obtain ⟨_, rfl, _⟩ := trodAll_nil r2
    exact ⟨d0, d1, d2, rfl⟩
  have hok : CtOk Tryd.prog S 5 (ctN (Go.Vc.args (aCons (aLf (cInt .i64)) (aCons (aLf (cInt .i64)) (a1 (aLf cd_Li64))))) rsLaw 1 [] _ (fun _ => true)) := e_law5.ok
  have hcall := law_callsG (ts := [3, 3, 41]) hok (fun _ => rfl) (openA_cons (openV_lf Tryd.underlying3 rfl (cInt_ok _) rfl (opens_int Tryd.underlying3)) (openA_cons (openV_lf Tryd.underlying3 rfl (cInt_ok _) rfl (opens_int Tryd.underlying3)) (openA_1 (openV_lf Tryd.underlying41 rfl cd_Li64_ok rfl op_41)))) (fun _ _ => trivial) (vs := args.toList) (gl_ok hL) (fun j t v h1 h2 => hval j t v (by simpa using h1) (by simpa using h2)) hA
  rw [Array.toArray_toList] at hcall
  refine hcall.mono ?_
  rintro e W' ⟨rfl, bel⟩
  exact ⟨_, rfl, _, _, _, [], _, [], hW', trodAll_mk1 (shut_bool Tryd.underlying4 _), trodAll_below laidOut bel (by kernel_rfl) hA, rfl, bel.frame _, fun h => by cases h⟩

theorem law5_holds : Rows.InterceptLimitsSaid :=
  OpenClaim.holds_of_wide 5 Tryd.f5 rfl rfl rfl rfl rfl rfl rfl ⟨rfl, rfl, rfl, rfl, rfl⟩ rfl rfl rfl rfl rfl (by kernel_rfl) Tryd.func5 (by kernel_rfl)
    (of_decide_eq_true (by kernel_rfl)) (by unfold Func.isWrapper; first | (rw [if_pos (by decide +kernel)]; kernel_rfl) | (rw [if_neg (by decide +kernel)]; exact ⟨rfl, rfl⟩))
    (fun os started H enc _ => law5_lifted os started H enc)
#print axioms law5_holds
theorem law5_card : Rows.InterceptLimitsCardSaid :=
  Claim7.holds_tied_plain_at .later [] [.data, .data, .pinned] true (true, "addab2420164fee07e1e488aaf554fc6ad771a061e46f2235169362c68177ebc") true law5_holds (fun _ h => by cases h) (by kernel_rfl) (fun _ h => by cases h) interceptLimits_row_tie rfl ⟨rfl, rfl⟩ (by kernel_rfl) rfl
    (fun f fn hf hfn => by
      obtain rfl : f = 5 := Option.some.inj ((show Tryd.prog.funcNamed "wireschema/wireschemalaw51.InterceptLimits" = some 5 by kernel_rfl).symm.trans hf) |>.symm
      obtain rfl : fn = Tryd.f5 := (Option.some.inj (Tryd.func5.symm.trans hfn)).symm
      exact ⟨by kernel_rfl, fun j t ht => by
        rw [Tryd.params5] at ht
        have hm : t ∈ [3, 3, 41] := by simpa using Array.mem_of_getElem? ht
        have hall : ([3, 3, 41].all fun u => !Tryd.prog.wantsStandIn u) = true := by kernel_rfl
        exact (show Tryd.prog.wantsStandIn t = false by simpa using List.all_eq_true.1 hall t hm)⟩)
    (by kernel_rfl)
#print axioms law5_card
end Go.Proofs.YtemjcccdcnhmhaaDoor
