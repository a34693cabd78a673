/-
  Intercept: the law InterceptHides.
-/
import Derived.Test.YtemjcccdcnhmhaaGreatDoorZ
namespace Go.Proofs.YtemjcccdcnhmhaaGreatDoor
open Go.RowKit Go.Vc
set_option linter.unusedVariables false
set_option linter.unusedSimpArgs false
set_option maxRecDepth 100000

theorem snoc_fold {A B : Type} (g : A → B) : ∀ (l : List A) (u : List B), l.foldl (fun y a => y ++ [g a]) u = u ++ l.map g
  | [], u => by simp
  | a :: l, u => by simp [List.foldl_cons, snoc_fold g l]
theorem mem_getD {A : Type} {l : List A} {a : A} (d : A) (h : a ∈ l) : ∃ i, i < l.length ∧ l.getD i d = a := by
  obtain ⟨i, hi, e⟩ := List.mem_iff_getElem.1 h
  exact ⟨i, hi, by simp [List.getD, hi, e]⟩
theorem hF_other (s : Schema) (f : AField) (v : AVal) (h : f.Type_.Kind ≠ 10) : hF s f v = v := by
  have e : (f.Type_.Kind != 10) = true := by simpa using h
  rw [hF_eq, e, cond_true]
theorem rhides_eq : ∀ fu, (∀ fc s f v lv, 2 * nV v + 1 < fu → 4 * nV v + 1 < fc → ckE fc s f.Type_ v lv true = 0 → (rhidesV fu).1 s f.Type_ v = hF s f v) ∧
    (∀ fc s name v lv, 2 * nV v < fu → 4 * nV v < fc → (r14msgP s name).2 = true → ckM fc s (r14msgP s name).1 v lv true = 0 → (rhidesV fu).2 s name v = hT s name v)
  | 0 => ⟨fun fc s f v lv h => by omega, fun fc s name v lv h => by omega⟩
  | fu + 1 => by
    obtain ⟨ih1, ih2⟩ := rhides_eq fu
    refine ⟨fun fc s f v lv h hc h0 => ?_, fun fc s name v lv h hc hm h0 => ?_⟩
    · obtain ⟨fc, rfl⟩ : ∃ n, fc = n + 1 := ⟨fc - 1, by omega⟩
      show (relem (rhidesV fu).1 (relemQ fu) (rhidesV fu).2 (rhideQ fu) s f.Type_ v).val = _
      unfold relem
      simp only [val_br, val_ret, val_ob, AVal.re_eq]
      by_cases ht : f.Type_.Kind = 10
      · have e : (f.Type_.Kind != 10) = false := by simpa using ht
        obtain ⟨q1, q2⟩ := (el_iff fc s f.Type_ v lv true ht).1 h0
        obtain ⟨fc, rfl⟩ : ∃ n, fc = n + 1 := ⟨fc - 1, by omega⟩
        have hk := ((msg_iff fc s _ v lv true).1 q2).1
        have ek : (v.Kind == 10) = true := by simpa using hk
        rw [hF_eq, e, ek]
        simp only [cond_false, cond_true]
        exact ih2 (fc + 1) s f.Type_.Name v lv (by omega) (by omega) q1 q2
      · have e : (f.Type_.Kind != 10) = true := by simpa using ht
        rw [hF_other s f v ht, e, cond_true]
    · obtain ⟨fc, rfl⟩ : ∃ n, fc = n + 1 := ⟨fc - 1, by omega⟩
      have hv := nV_eq v
      show (rhide (rhidesV fu).1 (relemQ fu) (rhidesV fu).2 (rhideQ fu) s name v).val = _
      unfold rhide hT
      rw [hm, cond_true]
      simp only [val_br, val_ret, val_ob, val_as, val_each, val_ix, val_lt, val_cut, AVal.re_eq]
      obtain ⟨_, _, _, hs, _, _⟩ := (msg_iff fc s _ v lv true).1 h0
      rw [forE_mem (b' := fun _ a y => Sum.inl (y ++ hS s (r14msgP s name).1 a)) (f' := fun _ y => AVal.mk v.Kind v.Bits v.Text v.List v.Pairs y v.Raws) v.Slots 0 [] (fun j a y ha => ?_) (fun _ _ => rfl), forE_fold, app_fold, hSs_flat]
      · rfl
      · have h1 := nSs_mem ha
        have h2 := nS_eq a
        have h3 := nV_eq a.Val
        obtain ⟨i, hi, ea⟩ := mem_getD d_Slot ha
        have hsi := hs i (by omega) (by omega)
        obtain ⟨fc, rfl⟩ : ∃ n, fc = n + 1 := ⟨fc - 1, by omega⟩
        obtain ⟨g1, _, _, g4⟩ := (slot_iff fc s _ v i lv true (by omega)).1 hsi
        rw [Int.toNat_natCast, ea] at g1 g4
        obtain ⟨fc, rfl⟩ : ∃ n, fc = n + 1 := ⟨fc - 1, by omega⟩
        rw [hS_eq, g1]
        unfold secF
        generalize (r14fldP (r14msgP s name).1 a.Num).1 = f at g4 ⊢
        have main : (bif f.Card == 4 then forE (fun (_ : Nat) (a6 : AVal) (y5 : List AVal) => (Sum.inl (y5 ++ [(rhidesV fu).1 s f.Type_ a6]) : List AVal ⊕ (AVal ⊕ (List Slot ⊕ AVal)))) (fun _ y5 => Sum.inl (AVal.mk a.Val.Kind a.Val.Bits a.Val.Text y5 a.Val.Pairs a.Val.Slots a.Val.Raws)) a.Val.List 0 []
            else bif f.Card == 5 then forE (fun (_ : Nat) (a9 : Pair) (y8 : List Pair) => (Sum.inl (y8 ++ [Pair.mk a9.Key ((rhidesV fu).1 s f.Type_ a9.Val)]) : List Pair ⊕ (AVal ⊕ (List Slot ⊕ AVal)))) (fun _ y8 => Sum.inl (AVal.mk a.Val.Kind a.Val.Bits a.Val.Text a.Val.List y8 a.Val.Slots a.Val.Raws)) a.Val.Pairs 0 []
            else Sum.inl ((rhidesV fu).1 s f.Type_ a.Val)) = Sum.inl (hF s f a.Val) := by
          rcases (fld_iff fc s f a.Val (wrp .i64 (lv + 1)) true).1 g4 with ⟨c1, c2, _, c4⟩ | ⟨c1, c2, _, c4⟩ | ⟨c1, c2, c4⟩
          · have e : (f.Card == 4) = true := by simpa using c1
            rw [e, cond_true, forE_fold, snoc_fold]
            have em : a.Val.List.map ((rhidesV fu).1 s f.Type_) = a.Val.List.map (hF s f) := List.map_congr_left fun x hx => by
              obtain ⟨j, hj, ej⟩ := mem_getD d_AVal hx
              have := c4 j hj
              rw [ej] at this
              have h5 := nVs_mem hx
              exact ih1 fc s f x _ (by omega) (by omega) this
            rw [em, List.nil_append]
            by_cases ht : f.Type_.Kind = 10
            · have e1 : (f.Type_.Kind != 10) = false := by simpa using ht
              rw [hF_eq s f a.Val, e1, c2, hVs_map]
              rfl
            · rw [hF_other s f a.Val ht, show a.Val.List.map (hF s f) = a.Val.List from (List.map_congr_left fun x _ => hF_other s f x ht).trans (List.map_id _), AVal.eta]
          · have e : (f.Card == 5) = true := by simpa using c1
            have e0 : (f.Card == 4) = false := by rw [c1]; rfl
            rw [e0, e, cond_false, cond_true, forE_fold, snoc_fold (fun a9 : Pair => Pair.mk a9.Key ((rhidesV fu).1 s f.Type_ a9.Val))]
            have em : a.Val.Pairs.map (fun a9 : Pair => Pair.mk a9.Key ((rhidesV fu).1 s f.Type_ a9.Val)) = a.Val.Pairs.map (hP s f) := List.map_congr_left fun x hx => by
              obtain ⟨j, hj, ej⟩ := mem_getD d_Pair hx
              have := (c4 j hj).2.2
              rw [ej] at this
              have h5 := nPs_mem hx
              have h6 := nP_eq x
              rw [hP_eq, ih1 fc s f x.Val _ (by omega) (by omega) this]
            rw [em, List.nil_append]
            by_cases ht : f.Type_.Kind = 10
            · have e1 : (f.Type_.Kind != 10) = false := by simpa using ht
              rw [hF_eq s f a.Val, e1, c2, hPs_map]
              rfl
            · rw [hF_other s f a.Val ht, show a.Val.Pairs.map (hP s f) = a.Val.Pairs from (List.map_congr_left fun x _ => by rw [hP_eq, hF_other s f x.Val ht, Pair.eta]; rfl).trans (List.map_id _), AVal.eta]
          · have e0 : (f.Card == 4) = false := by simpa using c1
            have e1 : (f.Card == 5) = false := by simpa using c2
            rw [e0, e1, cond_false, cond_false, ih1 fc s f a.Val _ (by omega) (by omega) c4]
        rw [main]
        cases r8flagP f.Notes [115, 101, 99, 114, 101, 116] <;> cases f.Card != 1 <;> simp only [cond_true, cond_false, thenS_inl, thenS_inr, Bool.and_self, Bool.and_true, Bool.and_false, Bool.false_and, List.append_nil]
theorem check_parts (s : Schema) (name : Str) (v : AVal) (h : c17checkP s name v = 0) : (r14msgP s name).2 = true ∧ ckM (4 * nV v + 1) s (r14msgP s name).1 v 1 true = 0 ∧ c17countP v ≤ 4096 := by
  unfold c17checkP c17check c17examP c17exam at h
  simp only [val_ret, val_lt, val_br, AVal.re_eq] at h
  cases h1 : (r14msgP s name).2 with
  | false => rw [h1] at h; cases h
  | true =>
    rw [h1] at h
    simp only [Bool.not_true, cond_false] at h
    by_cases h2 : c17msgP s (r14msgP s name).1 v 1 true = 0
    · have e : (c17msgP s (r14msgP s name).1 v 1 true != 0) = false := by simpa using h2
      rw [e, cond_false] at h
      refine ⟨rfl, h2, ?_⟩
      by_cases h3 : 4096 < c17countP v
      · rw [decide_eq_true h3] at h; cases h
      · omega
    · have e : (c17msgP s (r14msgP s name).1 v 1 true != 0) = true := by simpa using h2
      rw [e, cond_true] at h
      exact absurd h h2
theorem rhideP_eq (s : Schema) (name : Str) (v : AVal) (h : c17checkP s name v = 0) : rhideP s name v = hT s name v := by
  obtain ⟨h1, h2, _⟩ := check_parts s name v h
  exact (rhides_eq (2 * nV v + 1)).2 (4 * nV v + 1) s name v 1 (Nat.lt_succ_self _) (Nat.lt_succ_self _) h1 h2
theorem same_refl : ∀ (fu : Nat) (v : AVal), nV v < fu → c17sV fu v v = true
  | 0, v, h => by omega
  | fu + 1, v, h => by
    show (c17same (c17sV fu) (c17sameQ fu) v v).val = true
    unfold c17same
    have hv := nV_eq v
    simp only [val_br, val_ret, val_ob, val_as, val_each, val_ix, val_cut, AVal.re_eq, bne_self_eq_false, cond_false]
    rw [forE_stay (d := d_AVal) v.List 0 () (fun j y hj => ?_), thenS_inl, forE_stay (d := d_Pair) v.Pairs 0 () (fun j y hj => ?_), thenS_inl, forE_stay (d := d_Slot) v.Slots 0 () (fun j y hj => ?_), thenS_inl, forE_stay (d := d_Raw) v.Raws 0 () (fun j y hj => ?_)]
    · have e : Int.toNat (↑(0 + j) : Int) = j := by omega
      simp only [e]
      simp
    · have e : Int.toNat (↑(0 + j) : Int) = j := by omega
      have h1 := nSs_mem (getD_mem (d := d_Slot) hj)
      have h2 := nS_eq (v.Slots.getD j d_Slot)
      simp only [e, bne_self_eq_false, cond_false, same_refl fu (v.Slots.getD j d_Slot).Val (by omega), Bool.not_true]
    · have e : Int.toNat (↑(0 + j) : Int) = j := by omega
      have h1 := nPs_mem (getD_mem (d := d_Pair) hj)
      have h2 := nP_eq (v.Pairs.getD j d_Pair)
      simp only [e, same_refl fu (v.Pairs.getD j d_Pair).Key (by omega), same_refl fu (v.Pairs.getD j d_Pair).Val (by omega), Bool.not_true, cond_false]
    · have e : Int.toNat (↑(0 + j) : Int) = j := by omega
      have h1 := nVs_mem (getD_mem (d := d_AVal) hj)
      simp only [e, same_refl fu (v.List.getD j d_AVal) (by omega), Bool.not_true, cond_false]
theorem sameP_refl (v : AVal) : c17sameP v v = true := same_refl (nV v + 1) v (Nat.lt_succ_self _)
theorem valued_parts (s : Schema) (name : Str) (v : AVal) (h : valuedP s name v = true) : c18fewP v 500 = true ∧ c17checkP s name v = 0 ∧ c12smallP s = true := by
  unfold valuedP valued at h
  simp only [val_ret, val_br, val_ob, AVal.re_eq] at h
  cases h0 : decide ((↑(List.length name) : Int) ≤ 300) <;> rw [h0] at h <;> simp only [cond_false, cond_true] at h
  · cases h
  cases h1 : c12smallP s <;> rw [h1] at h <;> simp only [cond_false, cond_true] at h
  · cases h
  cases h2 : c12validP s <;> rw [h2] at h <;> simp only [cond_false, cond_true] at h
  · cases h
  cases h3 : c18fewP v 500 <;> rw [h3] at h <;> simp only [cond_false, cond_true] at h
  · cases h
  exact ⟨rfl, by simpa using h, rfl⟩
theorem after_eq (l : List Icept) (s : Schema) (name : Str) (v : AVal) (h : hideP s name v = rhideP s name v) : afterIP l s name v = rafterIP l s name v := by
  unfold afterIP afterI rafterIP rafterI
  simp only [val_ret, val_br, val_ob, val_as, val_each, val_ix, AVal.re_eq, h]
theorem law2_eq (l : List Icept) (s : Schema) (name : Str) (v : AVal) : (law2 l s name v).val = true := by
  unfold law2
  simp only [val_ret, val_br, val_ob, val_lt, AVal.re_eq]
  cases fewP l with
  | false => rfl
  | true =>
    cases hv : valuedP s name v with
    | false => rfl
    | true =>
      obtain ⟨_, h2, _⟩ := valued_parts s name v hv
      have e : hideP s name v = rhideP s name v := by rw [hideP_eq, rhideP_eq s name v h2]
      rw [after_eq l s name v e, e, sameP_refl, sameP_refl]
      rfl

theorem law2_is (l : List Icept) (s : Schema) (name : Str) (v : AVal) (h : bigS s) : Is (law2 l s name v) :=
  by
  refine is_br (fun _ => is_ret) (fun _ => is_ob h (is_br (fun _ => is_ret) (fun hb => is_lt fun v1 hv1 => ?_)))
  have hv : valuedP s name v = true := by simpa using hb
  have hn := few_ok2 v (valued_parts s name v hv).1
  have h1 : v1 ≤ 1000000 := by rw [hv1, AVal.re_eq]; omega
  exact is_ob h1 (is_ob h1 (is_br (fun _ => is_ob h1 (is_ob h1 (is_br (fun _ => is_ret) (fun _ => is_ret)))) (fun _ => is_ret)))
noncomputable def e_law2 : Ent Z := entN Z [e_awake, e_few, e_valued, e_c17same, e_hide, e_rhide, e_afterI, e_rafterI] [] (args (aCons (aLf cd_LIcept) (aCons (aAgg cd_Schema) (aCons (aLf cStr) (a1 (aAgg cd_AVal)))))) (argsI (n := 45) rfl) (shr [.slot 0 false [none]] (l1 cBool)) [] Tryz.func4 Tryz.ntmps4 (by kernel_rfl) 1 rfl (fun a => law2 (a.1) (a.2.1) (a.2.2.1) (a.2.2.2)) (fun a => some (bigS (a.2.1))) (fun a e _ => by kernel_rfl) (fun a => true) (fun a h => ⟨law2_is (a.1) (a.2.1) (a.2.2.1) (a.2.2.2) h, (fun l s name v _ => law2_eq l s name v) (a.1) (a.2.1) (a.2.2.1) (a.2.2.2) h⟩)
end Go.Proofs.YtemjcccdcnhmhaaGreatDoor
