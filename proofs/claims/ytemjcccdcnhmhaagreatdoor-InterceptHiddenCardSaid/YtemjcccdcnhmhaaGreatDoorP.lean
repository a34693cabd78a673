/-
  Intercept: Hide, what it gives.
-/
import Derived.Test.YtemjcccdcnhmhaaGreatDoorQ
namespace Go.Proofs.YtemjcccdcnhmhaaGreatDoor
open Go.RowKit Go.Vc
set_option linter.unusedVariables false
set_option linter.unusedSimpArgs false
set_option maxRecDepth 100000

theorem dMessage_eq (s : Schema) (name : Str) : dMessageP s name = r14msgP s name := by
  unfold dMessageP dMessage firstMP firstM r14msgP r14msg
  simp only [val_ret, val_as, val_each, val_ix, val_br]
theorem dField_eq (m : Message) (n : Int) : dFieldP m n = r14fldP m n := by
  unfold dFieldP dField firstFP firstF r14fldP r14fld
  simp only [val_ret, val_as, val_each, val_ix, val_br, val_lt, AVal.re_eq]
theorem flag_eq (l : List Note) (name : Str) : flagP l name = r8flagP l name := by
  unfold flagP flag noteFindP noteFind noteIndexP noteIndex r8flagP r8flag r8findP r8find
  simp only [val_ret, val_as, val_each, val_ix, val_br, val_lt, AVal.re_eq]
noncomputable def secF (f : AField) : Bool := r8flagP f.Notes [115, 101, 99, 114, 101, 116] && (f.Card != 1)
mutual
noncomputable def hSs (s : Schema) : Message → List Slot → List Slot
  | _, [] => []
  | m, x :: r => hS s m x ++ hSs s m r
noncomputable def hS (s : Schema) : Message → Slot → List Slot
  | m, .mk n v => bif (r14fldP m n).2 && secF (r14fldP m n).1 then [] else [.mk n (bif (r14fldP m n).2 then hF s (r14fldP m n).1 v else v)]
noncomputable def hF (s : Schema) : AField → AVal → AVal
  | f, .mk k b t l p ss r => bif f.Type_.Kind != 10 then .mk k b t l p ss r else
    bif k == 10 then (bif (r14msgP s f.Type_.Name).2 then .mk k b t l p (hSs s (r14msgP s f.Type_.Name).1 ss) r else .mk k b t l p ss r)
    else bif k == 11 then .mk k b t (hVs s f l) p ss r else bif k == 12 then .mk k b t l (hPs s f p) ss r else .mk k b t l p ss r
noncomputable def hVs (s : Schema) : AField → List AVal → List AVal
  | _, [] => []
  | f, x :: r => hF s f x :: hVs s f r
noncomputable def hPs (s : Schema) : AField → List Pair → List Pair
  | _, [] => []
  | f, x :: r => hP s f x :: hPs s f r
noncomputable def hP (s : Schema) : AField → Pair → Pair
  | f, .mk k v => .mk k (hF s f v)
end
noncomputable def hT (s : Schema) (name : Str) (v : AVal) : AVal := bif (r14msgP s name).2 then .mk v.Kind v.Bits v.Text v.List v.Pairs (hSs s (r14msgP s name).1 v.Slots) v.Raws else v
theorem hS_eq (s : Schema) (m : Message) (x : Slot) : hS s m x = bif (r14fldP m x.Num).2 && secF (r14fldP m x.Num).1 then [] else [.mk x.Num (bif (r14fldP m x.Num).2 then hF s (r14fldP m x.Num).1 x.Val else x.Val)] := by
  cases x; simp only [hS, Slot.Num, Slot.Val]
theorem hP_eq (s : Schema) (f : AField) (x : Pair) : hP s f x = .mk x.Key (hF s f x.Val) := by
  cases x; simp only [hP, Pair.Key, Pair.Val]
theorem hF_eq (s : Schema) (f : AField) (v : AVal) : hF s f v = bif f.Type_.Kind != 10 then v else bif v.Kind == 10 then hT s f.Type_.Name v
    else bif v.Kind == 11 then .mk v.Kind v.Bits v.Text (hVs s f v.List) v.Pairs v.Slots v.Raws else bif v.Kind == 12 then .mk v.Kind v.Bits v.Text v.List (hPs s f v.Pairs) v.Slots v.Raws else v := by
  cases v
  simp only [hF, hT, AVal.Kind, AVal.Bits, AVal.Text, AVal.List, AVal.Pairs, AVal.Slots, AVal.Raws]
theorem hVs_map (s : Schema) (f : AField) : ∀ l, hVs s f l = l.map (hF s f)
  | [] => by simp [hVs]
  | x :: l => by simp [hVs, hVs_map s f l]
theorem hPs_map (s : Schema) (f : AField) : ∀ l, hPs s f l = l.map (hP s f)
  | [] => by simp [hPs]
  | x :: l => by simp [hPs, hPs_map s f l]
theorem hSs_flat (s : Schema) (m : Message) : ∀ l, hSs s m l = l.flatMap (hS s m)
  | [] => by simp [hSs]
  | x :: l => by simp [hSs, hSs_flat s m l]
theorem app_fold {A B : Type} (h : A → List B) : ∀ (l : List A) (u : List B), l.foldl (fun y a => y ++ h a) u = u ++ l.flatMap h
  | [], u => by simp
  | a :: l, u => by simp [List.foldl_cons, app_fold h l]
theorem forE_mem {A Y R : Type} {b b' : Nat → A → Y → Y ⊕ R} {f f' : Nat → Y → R} : ∀ (l : List A) (k : Nat) (y : Y), (∀ j a y, a ∈ l → b j a y = b' j a y) → (∀ k y, f k y = f' k y) → forE b f l k y = forE b' f' l k y
  | [], k, y, _, h => h k y
  | a :: l, k, y, hb, hf => by
    unfold forE
    rw [hb k a y (by simp)]
    cases b' k a y with
    | inl y' => exact forE_mem l (k + 1) y' (fun j c z hc => hb j c z (by simp [hc])) hf
    | inr r => rfl
theorem hides_eq : ∀ fu, (∀ s f v, 2 * nV v + 1 < fu → (hidesV fu).1 s f v = hF s f v) ∧ (∀ s name v, 2 * nV v < fu → (hidesV fu).2 s name v = hT s name v)
  | 0 => ⟨fun s f v h => by omega, fun s name v h => by omega⟩
  | fu + 1 => by
    obtain ⟨ih1, ih2⟩ := hides_eq fu
    refine ⟨fun s f v h => ?_, fun s name v h => ?_⟩
    · show (hidden (hidesV fu).1 (hiddenQ fu) (hidesV fu).2 (hideQ fu) s f v).val = _
      have hv := nV_eq v
      unfold hidden
      simp only [val_br, val_ret, val_ob, val_as, val_cnt, val_ix, AVal.re_eq]
      rw [hF_eq]
      cases f.Type_.Kind != 10 with
      | true => rfl
      | false =>
        cases hk : v.Kind == 10 with
        | true => exact ih2 s f.Type_.Name v (by omega)
        | false =>
          cases hk1 : v.Kind == 11 with
          | true =>
            show forN _ _ _ _ _ = AVal.mk _ _ _ _ _ _ _
            rw [forN_map0 ((hidesV fu).1 s f) d_AVal (fun _ y => AVal.mk v.Kind v.Bits v.Text y v.Pairs v.Slots v.Raws) v.List, hVs_map]
            congr 1
            exact List.map_congr_left fun x hx => ih1 s f x (by have := nVs_mem hx; omega)
          | false =>
            cases hk2 : v.Kind == 12 with
            | true =>
              show forN _ _ _ _ _ = AVal.mk _ _ _ _ _ _ _
              rw [forN_map0 (fun x => Pair.mk x.Key ((hidesV fu).1 s f x.Val)) d_Pair (fun _ y => AVal.mk v.Kind v.Bits v.Text v.List y v.Slots v.Raws) v.Pairs, hPs_map]
              congr 1
              exact List.map_congr_left fun x hx => by
                rw [hP_eq, ih1 s f x.Val (by have := nPs_mem hx; have := nP_eq x; omega)]
            | false => rfl
    · show (hide (hidesV fu).1 (hiddenQ fu) (hidesV fu).2 (hideQ fu) s name v).val = _
      have hv := nV_eq v
      unfold hide hT
      simp only [val_br, val_ret, val_ob, val_as, val_each, val_ix, val_lt, val_cut, AVal.re_eq, dMessage_eq, dField_eq, flag_eq]
      cases (r14msgP s name).2 with
      | false => rfl
      | true =>
        simp only [Bool.not_true, cond_false, cond_true]
        rw [forE_mem (b' := fun _ a y => Sum.inl (y ++ hS s (r14msgP s name).1 a)) (f' := fun _ y => AVal.mk v.Kind v.Bits v.Text v.List v.Pairs y v.Raws) v.Slots 0 [] (fun j a y ha => ?_) (fun _ _ => rfl), forE_fold, app_fold, hSs_flat]
        · rfl
        · have h1 := nSs_mem ha
          have h2 := nS_eq a
          have e := ih1 s (r14fldP (r14msgP s name).1 a.Num).1 a.Val (by omega)
          rw [hS_eq]
          unfold secF
          cases (r14fldP (r14msgP s name).1 a.Num).2 with
          | false => rfl
          | true =>
            cases r8flagP (r14fldP (r14msgP s name).1 a.Num).1.Notes [115, 101, 99, 114, 101, 116] <;> cases (r14fldP (r14msgP s name).1 a.Num).1.Card != 1 <;> simp only [cond_true, cond_false, thenS_inl, thenS_inr, Bool.and_self, Bool.and_true, Bool.and_false, Bool.false_and, e, List.append_nil] <;> rfl
theorem hideP_eq (s : Schema) (name : Str) (v : AVal) : hideP s name v = hT s name v := (hides_eq (2 * nV v + 1)).2 s name v (Nat.lt_succ_self _)
end Go.Proofs.YtemjcccdcnhmhaaGreatDoor
