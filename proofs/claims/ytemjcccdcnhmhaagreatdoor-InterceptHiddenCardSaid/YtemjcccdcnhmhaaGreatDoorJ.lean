/-
  Intercept: awake.
-/
import Derived.Test.YtemjcccdcnhmhaaGreatDoorI
namespace Go.Proofs.YtemjcccdcnhmhaaGreatDoor
open Go.RowKit Go.Vc
set_option linter.unusedVariables false
set_option linter.unusedSimpArgs false
set_option maxRecDepth 100000

noncomputable def awake : Pg Bool :=
  .ob
    (okB [Icept.mk 1 [107] [118] 0 0] []
      (Head.mk [97, 46, 83] [71, 101, 116] 0 []))
    (.ob (0 ≤ 1000 ∧ 1 ≤ 1000)
      (.ob
        (okB [Icept.mk 1 [107] [118] 0 0] []
          (stampV (Head.mk [97, 46, 83] [71, 101, 116] 0 []) [107] [118]).fst)
        (.ob
          (okB [Icept.mk 3 [] [] 1 10, Icept.mk 5 [] [] 100 0] []
            (Head.mk [97, 46, 83] [71, 101, 116] 0 []))
          (.lt
            (beforeP [Icept.mk 3 [] [] 1 10, Icept.mk 5 [] [] 100 0] [] 5
              (Head.mk [97, 46, 83] [71, 101, 116] 0 []))
            fun (v1 : Head × List Trace × Status) =>
            .ob
              (okB [Icept.mk 3 [] [] 1 10, Icept.mk 5 [] [] 100 0] v1.snd.fst
                (Head.mk [97, 46, 83] [71, 101, 116] 0 []))
              (.ix 0 v1.snd.fst.length
                (.ix 0 v1.snd.fst.length
                  (.ix 0 v1.snd.fst.length
                    (.ix 0 (v1.snd.fst.getD 0 d_Trace).Times.length
                      (.lt (nV (AVal.mk 10 0 [] [] [] [Slot.mk 1 (AVal.mk 1 1 [] [] [] [] [])] [])) fun (v2 : Nat) =>
                        .ob (v2 ≤ 1000000)
                          (.ob (v2 ≤ 1000000)
                            (.ob (okIs [Icept.mk 1 [107] [118] 0 0])
                              (.ob (okIs [Icept.mk 0 [] [] 0 0]) (.ret true)))))))))))))
noncomputable def awakeP : Bool := (awake).val

def aI : List Icept := [Icept.mk 3 [] [] 1 10, Icept.mk 5 [] [] 100 0]
def aH : Head := Head.mk [97, 46, 83] [71, 101, 116] 0 []
theorem aw_s : (stampV aH [107] [118]).1.Service.length + (stampV aH [107] [118]).1.Method.length ≤ 1000000 ∧ (stampV aH [107] [118]).1.Metas.length ≤ 100 := by
  obtain ⟨a, b, c⟩ := stampV_facts aH [107] [118]
  refine ⟨?_, ?_⟩
  · rw [a, b]; decide
  · exact Nat.le_trans c (by decide)
theorem aw_b : (beforeP aI [] 5 aH).2.1.length = 1 ∧ (((beforeP aI [] 5 aH).2.1.getD 0 d_Trace).Times.length) = 1 := ⟨by kernel_rfl, by kernel_rfl⟩
theorem aw_okT : okT (beforeP aI [] 5 aH).2.1 := by
  obtain ⟨a, b⟩ := aw_b
  refine ⟨by omega, fun x hx => ?_⟩
  match h : (beforeP aI [] 5 aH).2.1, a with
  | [y], _ =>
    rw [h] at hx b
    rw [List.mem_singleton.mp hx]
    have : y.Times.length = 1 := b
    omega
theorem okIs1 (x : Icept) (h : x.Key.length ≤ 1000) : okIs [x] := fun y hy => by
  cases hy with
  | head => exact h
  | tail _ h => cases h
theorem okIsA : okIs aI := fun y hy => by
  cases hy with
  | head => decide
  | tail _ h => cases h with
    | head => decide
    | tail _ h => cases h
theorem okT0 : okT [] := ⟨by decide, fun x hx => by cases hx⟩

theorem awake_is : Is (awake) :=
  by
  refine is_ob ⟨okT0, okIs1 _ (by decide), by decide, by decide, by decide⟩ (is_ob (by decide) (is_ob ⟨okT0, okIs1 _ (by decide), by decide, aw_s.2, aw_s.1⟩ (is_ob ⟨okT0, okIsA, by decide, by decide, by decide⟩ (is_lt fun v1 hv1 => ?_))))
  have e : v1 = beforeP aI [] 5 aH := hv1
  subst e
  obtain ⟨b1, b2⟩ := aw_b
  refine is_ob ⟨aw_okT, okIsA, by decide, by decide, by decide⟩ (is_ix (by decide) (by omega) (is_ix (by decide) (by omega) (is_ix (by decide) (by omega) (is_ix (by decide) (by omega) (is_lt fun v2 hv2 => ?_)))))
  have e2 : v2 = 2 := hv2.trans (by decide)
  subst e2
  exact is_ob (by decide) (is_ob (by decide) (is_ob (okIs1 _ (by decide)) (is_ob (okIs1 _ (by decide)) is_ret)))
noncomputable def e_awake : Ent Z := entN Z [e_before, e_hide, e_afterI, e_stamp, e_meta_, e_message, e_check] [] (args a0) (argsI (n := 200) rfl) (shr [.slot 0 false [none]] (l1 cBool)) [] Tryz.func8 Tryz.ntmps8 (by kernel_rfl) 1 rfl (fun a => awake) (fun a => none) (fun a e _ => by kernel_rfl) (fun a => true) (fun a h => ⟨awake_is, rfl⟩)
end Go.Proofs.YtemjcccdcnhmhaaGreatDoor
