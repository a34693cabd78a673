/-
  Intercept: the law InterceptOrdered holds for every input of bounded bulk, and its card.
-/
import Derived.Test.YtemjcccdcnhmhaaGreatDoorLa
import Derived.Test.YtemjcccdcnhmhaaGreatDoorM
import Derived.Test.YtemjcccdcnhmhaaGreatDoorEng10
import Derived.Test.YtemjcccdcnhmhaaGreatDoorCards
import Derived.Deep.DeepHandedRow
namespace Go.Proofs.YtemjcccdcnhmhaaGreatDoor
open Go.ChangeShapes Go.WideShapes Go.ChangeAt Go.RowKit Go.Joins Go.Vc
set_option linter.unusedVariables false
set_option linter.unusedSimpArgs false
set_option maxRecDepth 100000

theorem bulk_mem {H : Type} {d : DataW H} : ∀ {l : List (DataW H)}, d ∈ l → Rows.uptoBulk d ≤ Rows.uptoBulkAll l
  | x :: l, h => by
    simp only [Rows.uptoBulkAll]
    rcases List.mem_cons.1 h with rfl | h
    · omega
    · have := bulk_mem h; omega
theorem bulk_one {H : Type} (d : DataW H) : 1 ≤ Rows.uptoBulk d := by
  cases d with
  | lit l => cases l <;> simp [Rows.uptoBulk]
  | nil => simp [Rows.uptoBulk]
  | ptr d => simp [Rows.uptoBulk]
  | slice elems spare => simp [Rows.uptoBulk]
  | agg parts => simp [Rows.uptoBulk]
  | iface t d => simp [Rows.uptoBulk]
  | map entries => simp [Rows.uptoBulk]
  | held h => simp [Rows.uptoBulk]
theorem bulk_len {H : Type} : ∀ l : List (DataW H), l.length ≤ Rows.uptoBulkAll l
  | [] => by simp [Rows.uptoBulkAll]
  | x :: l => by have := bulk_one x; have := bulk_len l; simp only [Rows.uptoBulkAll, List.length_cons]; omega
def szB : Sz Tryz.prog where
  M := fun t d n => Rows.uptoBulk d ≤ n
  str := fun h => by simp only [Rows.uptoBulk] at h; omega
  sl := fun {H t e el sp n} _ _ h => by
    simp only [Rows.uptoBulk] at h
    have := bulk_len el
    exact ⟨by omega, fun d hd => by have := bulk_mem hd; omega⟩
  st := fun {H t fs ps n} _ h i f p _ hp => by
    simp only [Rows.uptoBulk] at h
    have := bulk_mem (List.mem_of_getElem? hp)
    omega

def goodn_Icept (n : Nat) (b : Icept) : Prop := (InR .i64 b.Kind ∧ (b.Key.length ≤ n ∧ (b.Val.length ≤ n ∧ (InR .i64 b.Num ∧ InR .i64 b.Span))))
theorem opw_60 : ∀ F, OpensW F Tryz.prog S szB 60 cd_Icept goodn_Icept := fun F => opensW_struct Tryz.underlying60 (by kernel_rfl) (fun _ => rfl) (opensFW_cons rfl (by kernel_rfl) (opensW_of (opens_int Tryz.underlying3)) (opensFW_cons rfl (by kernel_rfl) (opensW_str Tryz.underlying9) (opensFW_cons rfl (by kernel_rfl) (opensW_str Tryz.underlying9) (opensFW_cons rfl (by kernel_rfl) (opensW_of (opens_int Tryz.underlying3)) (opensFW_one rfl (by kernel_rfl) (opensW_of (opens_int Tryz.underlying3)))))))
theorem opw_22 : ∀ F, OpensW F Tryz.prog S szB 22 cd_LIcept (fun n l => l.length ≤ n ∧ ∀ a ∈ l, goodn_Icept n a) := fun F => opensW_slice (dflt := d_Icept) Tryz.underlying22 (of_decide_eq_true (by kernel_rfl)) (by kernel_rfl) cd_Icept_ok (opw_60 F) (fun _ => rfl) (fun _ => rfl) (fun _ _ _ => rfl)
theorem opw_80 : ∀ F, OpensW F Tryz.prog S szB 80 cd_Li64 (fun n l => l.length ≤ n ∧ ∀ a ∈ l, InR .i64 a) := fun F => opensW_slice (dflt := 0) Tryz.underlying80 (of_decide_eq_true (by kernel_rfl)) (by kernel_rfl) (cInt_ok _) (opensW_of (opens_int Tryz.underlying3)) (fun _ => rfl) (fun _ => rfl) (fun _ _ _ => rfl)
def goodn_Trace (n : Nat) (b : Trace) : Prop := (b.Method.length ≤ n ∧ (b.Times.length ≤ n ∧ ∀ a ∈ b.Times, InR .i64 a))
theorem opw_82 : ∀ F, OpensW F Tryz.prog S szB 82 cd_Trace goodn_Trace := fun F => opensW_struct Tryz.underlying82 (by kernel_rfl) (fun _ => rfl) (opensFW_cons rfl (by kernel_rfl) (opensW_str Tryz.underlying9) (opensFW_one rfl (by kernel_rfl) (opw_80 F)))
theorem opw_23 : ∀ F, OpensW F Tryz.prog S szB 23 cd_LTrace (fun n l => l.length ≤ n ∧ ∀ a ∈ l, goodn_Trace n a) := fun F => opensW_slice (dflt := d_Trace) Tryz.underlying23 (of_decide_eq_true (by kernel_rfl)) (by kernel_rfl) cd_Trace_ok (opw_82 F) (fun _ => rfl) (fun _ => rfl) (fun _ _ _ => rfl)
def goodn_Meta (n : Nat) (b : AMeta) : Prop := (b.Key.length ≤ n ∧ b.Val.length ≤ n)
theorem opw_92 : ∀ F, OpensW F Tryz.prog S szB 92 cd_Meta goodn_Meta := fun F => opensW_struct Tryz.underlying92 (by kernel_rfl) (fun _ => rfl) (opensFW_cons rfl (by kernel_rfl) (opensW_str Tryz.underlying9) (opensFW_one rfl (by kernel_rfl) (opensW_str Tryz.underlying9)))
theorem opw_24 : ∀ F, OpensW F Tryz.prog S szB 24 cd_LMeta (fun n l => l.length ≤ n ∧ ∀ a ∈ l, goodn_Meta n a) := fun F => opensW_slice (dflt := d_Meta) Tryz.underlying24 (of_decide_eq_true (by kernel_rfl)) (by kernel_rfl) cd_Meta_ok (opw_92 F) (fun _ => rfl) (fun _ => rfl) (fun _ _ _ => rfl)
def goodn_Head (n : Nat) (b : Head) : Prop := (b.Service.length ≤ n ∧ (b.Method.length ≤ n ∧ (InR .i64 b.Deadline ∧ (b.Metas.length ≤ n ∧ ∀ a ∈ b.Metas, goodn_Meta n a))))
theorem opw_26 : ∀ F, OpensW F Tryz.prog S szB 26 cd_Head goodn_Head := fun F => opensW_struct Tryz.underlying26 (by kernel_rfl) (fun _ => rfl) (opensFW_cons rfl (by kernel_rfl) (opensW_str Tryz.underlying9) (opensFW_cons rfl (by kernel_rfl) (opensW_str Tryz.underlying9) (opensFW_cons rfl (by kernel_rfl) (opensW_of (opens_int Tryz.underlying3)) (opensFW_one rfl (by kernel_rfl) (opw_24 F)))))
theorem own : ownKnob Tryz.prog.godebug = none := by kernel_rfl
theorem laidOut : laidOutB Tryz.prog = true := by kernel_rfl

theorem law6_reads (os : Os) {H : Type} (enc : TypeId × Value → H) : ∃ places, DataW.whole enc Tryz.prog ((World.laidAll Tryz.prog os laidL).forCall (fun _ _ => 0) ⟨#[], #[.slice none 0 0, .slice none 0 0, .slice none 0 0, .int .i64 0, .agg #[.string ⟨#[]⟩, .string ⟨#[]⟩, .int .i64 0, .slice none 0 0]], []⟩).memory Tryz.f5.params.toList Rows.interceptOrderedSpec.vars false (#[.slice none 0 0, .slice none 0 0, .slice none 0 0, .int .i64 0, .agg #[.string ⟨#[]⟩, .string ⟨#[]⟩, .int .i64 0, .slice none 0 0]] : Array Value).toList 8 = some ([.nil, .nil, .nil, .lit (.int .i64 0), .agg [.lit (.string []), .lit (.string []), .lit (.int .i64 0), .nil]], [], places) :=
  ⟨[], by kernel_rfl⟩
set_option maxRecDepth 100000 in
theorem law6_liftedU (os : Os) (started : os.Started) (H : Type) (enc : TypeId × Value → H) (F : Stop.Interp) :
    ReturnsInHanded {} Tryz.checked os 5 .any ((Rows.OpenSpec.upto Rows.interceptOrderedSpec).preRow enc Tryz.prog Tryz.f5 Rows.interceptOrderedUptoRow.domain false Rows.interceptOrderedUptoRow.laid) (((Rows.OpenSpec.upto Rows.interceptOrderedSpec).at F).post enc Tryz.prog Tryz.f5 false true false false) := by
  obtain ⟨places, hx⟩ := law6_reads os enc
  refine returnsInHanded_of_row (C := Tryz.checked) (s := Rows.OpenSpec.upto Rows.interceptOrderedSpec) own started (by kernel_rfl) Tryz.func5
    (witness_row_at (enc := enc) (C := Tryz.checked) false (World.laidAll Tryz.prog os laidL) #[.slice none 0 0, .slice none 0 0, .slice none 0 0, .int .i64 0, .agg #[.string ⟨#[]⟩, .string ⟨#[]⟩, .int .i64 0, .slice none 0 0]] (World.laidAll_os _ _ _) (by kernel_rfl) (by kernel_rfl) (by kernel_rfl)
      (OpenSpec.preRow_of_cond 8 hx (by kernel_rfl) (fun k hk => by cases hk; kernel_rfl) (by kernel_rfl) (laid_world os _))) ?_
  intro W base args ds gs before hval0 hW hc hcond hz hL _ _
  have hval : ∀ (j : Nat) t v, Tryz.f5.params[j]? = some t → args[j]? = some v → Value.okWide Tryz.prog W .any base t v := hval0
  have hW' := hW
  obtain ⟨p, q, hA0, hV, rfl, hfz, hnd⟩ := hW
  have hA : DataW.TrodAll enc Tryz.prog W 0 (fun _ => true) true Tryz.f5.params.toList args.toList ds p := hA0
  rw [Tryz.params5] at hA hval
  obtain ⟨rfl, rfl⟩ := trodVars_none hV
  obtain ⟨d0, d1, d2, d3, d4, rfl⟩ : ∃ d0 d1 d2 d3 d4, ds = [d0, d1, d2, d3, d4] := by
    obtain ⟨_, _, d0, _, _, _, _, rfl, _, _, r0⟩ := trodAll_cons hA
    obtain ⟨_, _, d1, _, _, _, _, rfl, _, _, r1⟩ := trodAll_cons r0
    obtain ⟨_, _, d2, _, _, _, _, rfl, _, _, r2⟩ := trodAll_cons r1
    obtain ⟨_, _, d3, _, _, _, _, rfl, _, _, r3⟩ := trodAll_cons r2
    obtain ⟨_, _, d4, _, _, _, _, rfl, _, _, r4⟩ := trodAll_cons r3
    obtain ⟨_, rfl, _⟩ := trodAll_nil r4
    exact ⟨d0, d1, d2, d3, d4, rfl⟩
  have hok : CtOk Tryz.prog S 5 (ctN (Go.Vc.args (aCons (aLf cd_LIcept) (aCons (aLf cd_LIcept) (aCons (aLf cd_LTrace) (aCons (aLf (cInt .i64)) (a1 (aAgg cd_Head))))))) rsLaw 1 [] _ (fun _ => true)) := e_law6.ok
  have hk : Rows.uptoBulkAll [d0, d1, d2, d3, d4] ≤ 1048576 := of_decide_eq_true (hcond _ rfl)
  have hM : ∀ (j : Nat) t d, [22, 22, 23, 3, 26][j]? = some t → [d0, d1, d2, d3, d4][j]? = some d → szB.M t d 1048576 := fun j t d _ h2 => Nat.le_trans (bulk_mem (List.mem_of_getElem? h2)) hk
  have hcall := law_callsW (Z := szB) (ts := [22, 22, 23, 3, 26]) 1048576 hok (fun _ => rfl) (openAW_cons (openVW_lf Tryz.underlying22 rfl cd_LIcept_ok rfl opw_22) (openAW_cons (openVW_lf Tryz.underlying22 rfl cd_LIcept_ok rfl opw_22) (openAW_cons (openVW_lf Tryz.underlying23 rfl cd_LTrace_ok rfl opw_23) (openAW_cons (openVW_lf Tryz.underlying3 rfl (cInt_ok _) rfl (fun F => opensW_of (opens_int Tryz.underlying3))) (openAW_1 (openVW_agg Tryz.underlying26 opw_26)))))) (fun a h => ⟨h.1.1, h.2.1.1⟩) (vs := args.toList) (gl_ok hL) hM (fun j t v h1 h2 => hval j t v (by simpa using h1) (by simpa using h2)) hA
  rw [Array.toArray_toList] at hcall
  refine hcall.mono ?_
  rintro e W' ⟨rfl, bel⟩
  exact ⟨_, rfl, _, _, _, [], _, [], hW', trodAll_mk1 (shut_bool Tryz.underlying4 _), trodAll_below laidOut bel (by kernel_rfl) hA, rfl, bel.frame _, fun h => by cases h⟩
theorem law6_holdsU : Rows.InterceptOrderedUptoSaid :=
  OpenClaim.holds_of_cond 5 Tryz.f5 rfl rfl rfl rfl rfl rfl rfl ⟨rfl, rfl, rfl, rfl, rfl⟩ rfl rfl rfl rfl rfl (by kernel_rfl) Tryz.func5 (by kernel_rfl)
    (of_decide_eq_true (by kernel_rfl)) (by unfold Func.isWrapper; first | (rw [if_pos (by decide +kernel)]; kernel_rfl) | (rw [if_neg (by decide +kernel)]; exact ⟨rfl, rfl⟩))
    (fun os started H enc _ F => by rw [OpenClaim.pre_eq_preRow]; exact law6_liftedU os started H enc F)
theorem law6_cardU : Rows.InterceptOrderedUptoCardSaid :=
  Claim7.holds_tied_plain_at .later [] _ _ _ _ law6_holdsU (fun _ h => by cases h) (by kernel_rfl) (fun _ h => by cases h) interceptOrderedUpto_row_tie rfl ⟨rfl, rfl⟩ (by kernel_rfl) rfl
    (fun f fn hf hfn => by
      obtain rfl : f = 5 := Option.some.inj ((show Tryz.prog.funcNamed "wireschema/wireschemalaw51.InterceptOrdered" = some 5 by kernel_rfl).symm.trans hf) |>.symm
      obtain rfl : fn = Tryz.f5 := (Option.some.inj (Tryz.func5.symm.trans hfn)).symm
      exact ⟨by kernel_rfl, fun j t ht => by
        rw [Tryz.params5] at ht
        have hm : t ∈ [22, 22, 23, 3, 26] := by simpa using Array.mem_of_getElem? ht
        have hall : ([22, 22, 23, 3, 26].all fun u => !Tryz.prog.wantsStandIn u) = true := by kernel_rfl
        exact (show Tryz.prog.wantsStandIn t = false by simpa using List.all_eq_true.1 hall t hm)⟩)
    (by kernel_rfl)
#print axioms law6_cardU
end Go.Proofs.YtemjcccdcnhmhaaGreatDoor
