/-
  Replay: the law ReplaySums holds for every input of bounded bulk, and its card.
-/
import Derived.Test.YtcdhbdjlamikgaaGreatDoorC
import Derived.Test.YtcdhbdjlamikgaaGreatDoorM
import Derived.Test.YtcdhbdjlamikgaaGreatDoorEng11
import Derived.Test.YtcdhbdjlamikgaaGreatDoorEng21
import Derived.Test.YtcdhbdjlamikgaaGreatDoorCards
import Derived.Deep.DeepHandedRow
namespace Go.Proofs.YtcdhbdjlamikgaaGreatDoor
open Go.ChangeShapes Go.WideShapes Go.ChangeAt Go.RowKit Go.Joins Go.Vc
set_option linter.unusedVariables false
set_option linter.unusedSimpArgs false
set_option maxRecDepth 100000

theorem bulk_mem {H : Type} {d : DataW H} : ∀ {l : List (DataW H)}, d ∈ l → Rows.uptoBulk d ≤ Rows.uptoBulkAll l
  | x :: l, h => by
    simp only [Rows.uptoBulkAll]
    rcases List.mem_cons.1 h with rfl | h
    · omega
    · have := bulk_mem h; omega
theorem bulk_one {H : Type} (d : DataW H) : 1 ≤ Rows.uptoBulk d := by
  cases d with
  | lit l => cases l <;> simp [Rows.uptoBulk]
  | nil => simp [Rows.uptoBulk]
  | ptr d => simp [Rows.uptoBulk]
  | slice elems spare => simp [Rows.uptoBulk]
  | agg parts => simp [Rows.uptoBulk]
  | iface t d => simp [Rows.uptoBulk]
  | map entries => simp [Rows.uptoBulk]
  | held h => simp [Rows.uptoBulk]
theorem bulk_len {H : Type} : ∀ l : List (DataW H), l.length ≤ Rows.uptoBulkAll l
  | [] => by simp [Rows.uptoBulkAll]
  | x :: l => by have := bulk_one x; have := bulk_len l; simp only [Rows.uptoBulkAll, List.length_cons]; omega
def szB : Sz Tryz.prog where
  M := fun t d n => Rows.uptoBulk d ≤ n
  str := fun h => by simp only [Rows.uptoBulk] at h; omega
  sl := fun {H t e el sp n} _ _ h => by
    simp only [Rows.uptoBulk] at h
    have := bulk_len el
    exact ⟨by omega, fun d hd => by have := bulk_mem hd; omega⟩
  st := fun {H t fs ps n} _ h i f p _ hp => by
    simp only [Rows.uptoBulk] at h
    have := bulk_mem (List.mem_of_getElem? hp)
    omega

def goodn_Mismatch (n : Nat) (b : Mismatch) : Prop := (InR .i64 b.Index ∧ (InR .i64 b.Kind ∧ InR .i64 b.Err))
theorem opw_35 : ∀ F, OpensW F Tryz.prog S szB 35 cd_Mismatch goodn_Mismatch := fun F => opensW_struct Tryz.underlying35 (by kernel_rfl) (fun _ => rfl) (opensFW_cons rfl (by kernel_rfl) (opensW_of (opens_int Tryz.underlying3)) (opensFW_cons rfl (by kernel_rfl) (opensW_of (opens_int Tryz.underlying3)) (opensFW_one rfl (by kernel_rfl) (opensW_of (opens_int Tryz.underlying30)))))
theorem opw_22 : ∀ F, OpensW F Tryz.prog S szB 22 cd_LMismatch (fun n l => l.length ≤ n ∧ ∀ a ∈ l, goodn_Mismatch n a) := fun F => opensW_slice (dflt := d_Mismatch) Tryz.underlying22 (of_decide_eq_true (by kernel_rfl)) (by kernel_rfl) cd_Mismatch_ok (opw_35 F) (fun _ => rfl) (fun _ => rfl) (fun _ _ _ => rfl)
theorem opw_37 : ∀ F, OpensW F Tryz.prog S szB 37 cd_Lstr (fun n l => l.length ≤ n ∧ ∀ a ∈ l, a.length ≤ n) := fun F => opensW_slice (dflt := []) Tryz.underlying37 (of_decide_eq_true (by kernel_rfl)) (by kernel_rfl) cStr_ok (opensW_str Tryz.underlying9) (fun _ => rfl) (fun _ => rfl) (fun _ _ _ => rfl)
def goodn_Status (n : Nat) (b : Status) : Prop := (InR .i64 b.Code ∧ b.Text.length ≤ n)
theorem opw_39 : ∀ F, OpensW F Tryz.prog S szB 39 cd_Status goodn_Status := fun F => opensW_struct Tryz.underlying39 (by kernel_rfl) (fun _ => rfl) (opensFW_cons rfl (by kernel_rfl) (opensW_of (opens_int Tryz.underlying3)) (opensFW_one rfl (by kernel_rfl) (opensW_str Tryz.underlying9)))
def goodn_Tape (n : Nat) (b : Tape) : Prop := (b.Method.length ≤ n ∧ ((b.In.length ≤ n ∧ ∀ a ∈ b.In, a.length ≤ n) ∧ ((b.Out.length ≤ n ∧ ∀ a ∈ b.Out, a.length ≤ n) ∧ goodn_Status n b.Status)))
theorem opw_41 : ∀ F, OpensW F Tryz.prog S szB 41 cd_Tape goodn_Tape := fun F => opensW_struct Tryz.underlying41 (by kernel_rfl) (fun _ => rfl) (opensFW_cons rfl (by kernel_rfl) (opensW_str Tryz.underlying9) (opensFW_cons rfl (by kernel_rfl) (opw_37 F) (opensFW_cons rfl (by kernel_rfl) (opw_37 F) (opensFW_one rfl (by kernel_rfl) (opw_39 F)))))
theorem opw_23 : ∀ F, OpensW F Tryz.prog S szB 23 cd_LTape (fun n l => l.length ≤ n ∧ ∀ a ∈ l, goodn_Tape n a) := fun F => opensW_slice (dflt := d_Tape) Tryz.underlying23 (of_decide_eq_true (by kernel_rfl)) (by kernel_rfl) cd_Tape_ok (opw_41 F) (fun _ => rfl) (fun _ => rfl) (fun _ _ _ => rfl)
theorem own : ownKnob Tryz.prog.godebug = none := by kernel_rfl
theorem laidOut : laidOutB Tryz.prog = true := by kernel_rfl

theorem law5_reads (os : Os) {H : Type} (enc : TypeId × Value → H) : ∃ places, DataW.whole enc Tryz.prog ((World.laidAll Tryz.prog os laidL).forCall (fun _ _ => 0) ⟨#[], #[.slice none 0 0, .slice none 0 0, .string ⟨#[]⟩], []⟩).memory Tryz.f3.params.toList Rows.replaySumsSpec.vars false (#[.slice none 0 0, .slice none 0 0, .string ⟨#[]⟩] : Array Value).toList 8 = some ([.nil, .nil, .lit (.string [])], [], places) :=
  ⟨[], by kernel_rfl⟩
set_option maxRecDepth 100000 in
theorem law5_liftedU (os : Os) (started : os.Started) (H : Type) (enc : TypeId × Value → H) (F : Stop.Interp) :
    ReturnsInHanded {} Tryz.checked os 3 .any ((Rows.OpenSpec.upto Rows.replaySumsSpec).preRow enc Tryz.prog Tryz.f3 Rows.replaySumsUptoRow.domain false Rows.replaySumsUptoRow.laid) (((Rows.OpenSpec.upto Rows.replaySumsSpec).at F).post enc Tryz.prog Tryz.f3 false true false false) := by
  obtain ⟨places, hx⟩ := law5_reads os enc
  refine returnsInHanded_of_row (C := Tryz.checked) (s := Rows.OpenSpec.upto Rows.replaySumsSpec) own started (by kernel_rfl) Tryz.func3
    (witness_row_at (enc := enc) (C := Tryz.checked) false (World.laidAll Tryz.prog os laidL) #[.slice none 0 0, .slice none 0 0, .string ⟨#[]⟩] (World.laidAll_os _ _ _) (by kernel_rfl) (by kernel_rfl) (by kernel_rfl)
      (OpenSpec.preRow_of_cond 8 hx (by kernel_rfl) (fun k hk => by cases hk; kernel_rfl) (by kernel_rfl) (laid_world os _))) ?_
  intro W base args ds gs before hval0 hW hc hcond hz hL _ _
  have hval : ∀ (j : Nat) t v, Tryz.f3.params[j]? = some t → args[j]? = some v → Value.okWide Tryz.prog W .any base t v := hval0
  have hW' := hW
  obtain ⟨p, q, hA0, hV, rfl, hfz, hnd⟩ := hW
  have hA : DataW.TrodAll enc Tryz.prog W 0 (fun _ => true) true Tryz.f3.params.toList args.toList ds p := hA0
  rw [Tryz.params3] at hA hval
  obtain ⟨rfl, rfl⟩ := trodVars_none hV
  obtain ⟨d0, d1, d2, rfl⟩ : ∃ d0 d1 d2, ds = [d0, d1, d2] := by
    obtain ⟨_, _, d0, _, _, _, _, rfl, _, _, r0⟩ := trodAll_cons hA
    obtain ⟨_, _, d1, _, _, _, _, rfl, _, _, r1⟩ := trodAll_cons r0
    obtain ⟨_, _, d2, _, _, _, _, rfl, _, _, r2⟩ := trodAll_cons r1
    obtain ⟨_, rfl, _⟩ := trodAll_nil r2
    exact ⟨d0, d1, d2, rfl⟩
  have hok : CtOk Tryz.prog S 3 (ctN (Go.Vc.args (aCons (aLf cd_LMismatch) (aCons (aLf cd_LTape) (a1 (aLf cStr))))) rsLaw 1 [] _ (fun _ => true)) := e_law5.ok
  have hk : Rows.uptoBulkAll [d0, d1, d2] ≤ 1048576 := of_decide_eq_true (hcond _ rfl)
  have hM : ∀ (j : Nat) t d, [22, 23, 9][j]? = some t → [d0, d1, d2][j]? = some d → szB.M t d 1048576 := fun j t d _ h2 => Nat.le_trans (bulk_mem (List.mem_of_getElem? h2)) hk
  have hcall := law_callsW (Z := szB) (ts := [22, 23, 9]) 1048576 hok (fun _ => rfl) (openAW_cons (openVW_lf Tryz.underlying22 rfl cd_LMismatch_ok rfl opw_22) (openAW_cons (openVW_lf Tryz.underlying23 rfl cd_LTape_ok rfl opw_23) (openAW_1 (openVW_lf Tryz.underlying9 rfl cStr_ok rfl (fun F => opensW_str Tryz.underlying9))))) (fun a h => ⟨h.1.1, h.2.1.1, fun t ht => by obtain ⟨_, h1, h2, _⟩ := h.2.1.2 t ht; exact ⟨h1.1, h2.1⟩⟩) (vs := args.toList) (gl_ok hL) hM (fun j t v h1 h2 => hval j t v (by simpa using h1) (by simpa using h2)) hA
  rw [Array.toArray_toList] at hcall
  refine hcall.mono ?_
  rintro e W' ⟨rfl, bel⟩
  exact ⟨_, rfl, _, _, _, [], _, [], hW', trodAll_mk1 (shut_bool Tryz.underlying4 _), trodAll_below laidOut bel (by kernel_rfl) hA, rfl, bel.frame _, fun h => by cases h⟩
set_option maxHeartbeats 0 in
theorem law5_closedU : joinedFacts Tryz.prog 3 Tryz.f3 (Rows.OpenSpec.upto Rows.replaySumsSpec).bare Rows.replaySumsUptoRow = true := by
  unfold joinedFacts
  simp only [Bool.and_eq_true]
  (repeat' apply And.intro) <;> (as_aux_lemma => kernel_rfl)
theorem law5_holdsU : Rows.ReplaySumsUptoSaid :=
  OpenClaim.holds_of_cond 3 Tryz.f3 rfl rfl rfl rfl rfl rfl rfl ⟨rfl, rfl, rfl, rfl, rfl⟩ rfl rfl rfl rfl rfl (by as_aux_lemma => kernel_rfl) Tryz.func3 law5_closedU
    (of_decide_eq_true (by as_aux_lemma => kernel_rfl)) (by unfold Func.isWrapper; first | (rw [if_pos (by decide +kernel)]; kernel_rfl) | (rw [if_neg (by decide +kernel)]; exact ⟨rfl, rfl⟩))
    (fun os started H enc _ F => by rw [OpenClaim.pre_eq_preRow]; exact law5_liftedU os started H enc F)
theorem law5_goesNo : Tryz.prog.funcs.any Func.goes = false := by kernel_rfl
theorem law5_cardU : Rows.ReplaySumsUptoCardSaid :=
  Claim7.holds_tied_plain_at .later [] _ _ _ _ law5_holdsU (fun _ h => by cases h) (by as_aux_lemma => kernel_rfl) (fun _ h => by cases h) replaySumsUpto_row_tie rfl ⟨rfl, rfl⟩ (by as_aux_lemma => kernel_rfl) rfl
    (fun f fn hf hfn => by
      obtain rfl : f = 3 := Option.some.inj ((show Tryz.prog.funcNamed "wireschema/wireschemalaw56.ReplaySums" = some 3 by as_aux_lemma => kernel_rfl).symm.trans hf) |>.symm
      obtain rfl : fn = Tryz.f3 := (Option.some.inj (Tryz.func3.symm.trans hfn)).symm
      exact ⟨by as_aux_lemma => kernel_rfl, fun j t ht => by
        rw [Tryz.params3] at ht
        have hm : t ∈ [22, 23, 9] := by simpa using Array.mem_of_getElem? ht
        have hall : ([22, 23, 9].all fun u => !Tryz.prog.wantsStandIn u) = true := by as_aux_lemma => kernel_rfl
        exact (show Tryz.prog.wantsStandIn t = false by simpa using List.all_eq_true.1 hall t hm)⟩)
    (goesBy_no (P := Tryz.prog) law5_goesNo rfl)
#print axioms law5_cardU
end Go.Proofs.YtcdhbdjlamikgaaGreatDoor
