/-
  Intercept: what Hide leaves is valid.
-/
import Derived.Test.YtemjcccdcnhmhaaGreatDoorZb
namespace Go.Proofs.YtemjcccdcnhmhaaGreatDoor
open Go.RowKit Go.Vc
set_option linter.unusedVariables false
set_option linter.unusedSimpArgs false
set_option maxRecDepth 100000

theorem set_any (v : AVal) (num : Int) : c17setP v num = v.Slots.any (fun x => x.Num == num) := by
  unfold c17setP c17set
  simp only [val_each, val_ix, val_br, val_ret]
  rw [forE_anyS (fun x : Slot => x.Num == num) true false v.Slots 0]
  cases v.Slots.any (fun x => x.Num == num) <;> rfl
theorem other_cong (v w : AVal) (h1 : v.Kind = w.Kind) (h2 : v.Bits = w.Bits) (h3 : v.Text = w.Text) (h4 : v.List.length = w.List.length) (h5 : v.Pairs.length = w.Pairs.length) (h6 : v.Slots.length = w.Slots.length) (h7 : v.Raws.length = w.Raws.length) : c17otherP v = c17otherP w := by
  have e4 : decide ((0 : Int) < (↑v.List.length : Int)) = decide ((0 : Int) < (↑w.List.length : Int)) := by rw [h4]
  have e5 : decide ((0 : Int) < (↑v.Pairs.length : Int)) = decide ((0 : Int) < (↑w.Pairs.length : Int)) := by rw [h5]
  have e6 : decide ((0 : Int) < (↑v.Slots.length : Int)) = decide ((0 : Int) < (↑w.Slots.length : Int)) := by rw [h6]
  have e7 : decide ((0 : Int) < (↑v.Raws.length : Int)) = decide ((0 : Int) < (↑w.Raws.length : Int)) := by rw [h7]
  unfold c17otherP c17other
  rw [e4, e5, e6, e7, h1, h2, h3]
theorem other_cong10 (v w : AVal) (h0 : v.Kind = 10) (h1 : v.Kind = w.Kind) (h2 : v.Bits = w.Bits) (h3 : v.Text = w.Text) (h4 : v.List.length = w.List.length) (h5 : v.Pairs.length = w.Pairs.length) (h7 : v.Raws.length = w.Raws.length) : c17otherP v = c17otherP w := by
  have e4 : decide ((0 : Int) < (↑v.List.length : Int)) = decide ((0 : Int) < (↑w.List.length : Int)) := by rw [h4]
  have e5 : decide ((0 : Int) < (↑v.Pairs.length : Int)) = decide ((0 : Int) < (↑w.Pairs.length : Int)) := by rw [h5]
  have e7 : decide ((0 : Int) < (↑v.Raws.length : Int)) = decide ((0 : Int) < (↑w.Raws.length : Int)) := by rw [h7]
  have e : ((10 : Int) != 10) = false := rfl
  unfold c17otherP c17other
  rw [e4, e5, e7, ← h1, h0, h2, h3]
  simp only [val_cut, val_br, val_ret, e, cond_false]
  generalize decide ((0 : Int) < (↑v.Slots.length : Int)) = a
  generalize decide ((0 : Int) < (↑w.Slots.length : Int)) = b
  cases a <;> cases b <;> rfl
theorem getD_map' {A B : Type} {f : A → B} {d : A} {e : B} : ∀ {l : List A} {i : Nat}, i < l.length → (l.map f).getD i e = f (l.getD i d)
  | [], i, h => by simp at h
  | a :: l, 0, _ => rfl
  | a :: l, i + 1, h => getD_map' (l := l) (i := i) (by simpa using h)
noncomputable def reqOk (m : Message) : Prop := ∀ j, j < m.Fields.length → (m.Fields.getD j d_AField).Card = 1 → secF (r14fldP m (m.Fields.getD j d_AField).Num).1 = false
noncomputable def apart (m : Message) (a b : Int) : Prop := a ≠ (r14fldP m b).1.Num ∧ ¬ ((r14fldP m b).1.Union ≠ [] ∧ (r14fldP m a).1.Union = (r14fldP m b).1.Union)
theorem hS_nums (s : Schema) (m : Message) (x : Slot) : ((hS s m x).map Slot.Num).Sublist [x.Num] := by
  rw [hS_eq]
  cases (r14fldP m x.Num).2 <;> cases secF (r14fldP m x.Num).1 <;> simp [Slot.Num]
theorem hSs_nums (s : Schema) (m : Message) : ∀ l : List Slot, ((hSs s m l).map Slot.Num).Sublist (l.map Slot.Num)
  | [] => by simp [hSs]
  | x :: l => by
    have h1 := (hS_nums s m x).append (hSs_nums s m l)
    simpa [hSs] using h1
theorem pair_of {A : Type} {R : A → A → Prop} {d : A} {l : List A} (h : ∀ i j, i < j → j < l.length → R (l.getD i d) (l.getD j d)) : l.Pairwise R := by
  rw [List.pairwise_iff_getElem]
  intro i j hi hj hij
  have := h i j hij hj
  simpa [List.getD, hi, hj] using this
theorem of_pair {A : Type} {R : A → A → Prop} {d : A} {l : List A} (h : l.Pairwise R) {i j : Nat} (hij : i < j) (hj : j < l.length) : R (l.getD i d) (l.getD j d) := by
  rw [List.pairwise_iff_getElem] at h
  have := h i j (by omega) hj hij
  simpa [List.getD, show i < l.length by omega, hj] using this
theorem hP_key (s : Schema) (f : AField) (q : Pair) : (hP s f q).Key = q.Key := by rw [hP_eq]; rfl
theorem hP_val (s : Schema) (f : AField) (q : Pair) : (hP s f q).Val = hF s f q.Val := by rw [hP_eq]; rfl
theorem hF_list (s : Schema) (f : AField) (x : AVal) (h : x.Kind = 11) : hF s f x = .mk x.Kind x.Bits x.Text (x.List.map (hF s f)) x.Pairs x.Slots x.Raws := by
  by_cases ht : f.Type_.Kind = 10
  · rw [hF_eq, bne_f ht, h, ← hVs_map]; rfl
  · rw [hF_other s f x ht, show x.List.map (hF s f) = x.List from (List.map_congr_left fun y _ => hF_other s f y ht).trans (List.map_id _), AVal.eta]
theorem hF_pairs (s : Schema) (f : AField) (x : AVal) (h : x.Kind = 12) : hF s f x = .mk x.Kind x.Bits x.Text x.List (x.Pairs.map (hP s f)) x.Slots x.Raws := by
  by_cases ht : f.Type_.Kind = 10
  · rw [hF_eq, bne_f ht, h, ← hPs_map]; rfl
  · rw [hF_other s f x ht, show x.Pairs.map (hP s f) = x.Pairs from (List.map_congr_left fun y _ => by rw [hP_eq, hF_other s f y.Val ht, Pair.eta]; rfl).trans (List.map_id _), AVal.eta]
theorem hid_check (s : Schema) (U : ∀ name, reqOk (r14msgP s name).1) : ∀ (n : Nat) (v : AVal), nV v ≤ n → ∀ (fc' fc : Nat) (m : Message) (lv : Int), reqOk m → 4 * nV v < fc → ckM fc s m v lv true = 0 →
    ckM fc' s m (.mk v.Kind v.Bits v.Text v.List v.Pairs (hSs s m v.Slots) v.Raws) lv true = 0
  | 0, v, hn, _, _, _, _, _, _, _ => by have := nV_pos v; omega
  | n + 1, v, hn, fc', fc, m, lv, hm, hc, h0 => by
    obtain ⟨fc, rfl⟩ : ∃ k, fc = k + 1 := ⟨fc - 1, by omega⟩
    have hv := nV_eq v
    obtain ⟨a1, a2, a3, hs, a5, a6⟩ := (msg_iff fc s m v lv true).1 h0
    have elem : ∀ (fc' fc : Nat) (f : AField) (y : AVal) (l2 : Int), nV y ≤ n → 4 * nV y + 1 < fc → ckE fc s f.Type_ y l2 true = 0 → ckE fc' s f.Type_ (hF s f y) l2 true = 0 := by
      intro fc' fc f y l2 hy hcy hce
      obtain ⟨fc, rfl⟩ : ∃ k, fc = k + 1 := ⟨fc - 1, by omega⟩
      cases fc' with
      | zero => rfl
      | succ fc' =>
        by_cases ht : f.Type_.Kind = 10
        · obtain ⟨q1, q2⟩ := (el_iff fc s f.Type_ y l2 true ht).1 hce
          have ih := hid_check s U n y hy fc' fc _ l2 (U f.Type_.Name) (by omega) q2
          obtain ⟨fc, rfl⟩ : ∃ k, fc = k + 1 := ⟨fc - 1, by omega⟩
          obtain ⟨k1, k2, k3⟩ := ck_msg10 q2
          have e : hF s f y = .mk y.Kind y.Bits y.Text y.List y.Pairs (hSs s (r14msgP s f.Type_.Name).1 y.Slots) y.Raws := by
            rw [hF_eq, bne_f ht, beq_t k1, cond_false, cond_true, hT_eq s _ y q1]
          rw [e]
          exact (el_iff fc' s f.Type_ _ l2 true ht).2 ⟨q1, ih⟩
        · rw [hF_other s f y ht, el_other fc' fc s f.Type_ y l2 true ht]
          exact hce
    have fld : ∀ (fc' fc : Nat) (f : AField) (x : AVal) (l2 : Int), nV x ≤ n → 4 * nV x + 2 < fc → ckF fc s f x l2 true = 0 → ckF fc' s f (hF s f x) l2 true = 0 := by
      intro fc' fc f x l2 hx hcx hcf
      have hxv := nV_eq x
      obtain ⟨fc, rfl⟩ : ∃ k, fc = k + 1 := ⟨fc - 1, by omega⟩
      cases fc' with
      | zero => rfl
      | succ fc' =>
        rcases (fld_iff fc s f x l2 true).1 hcf with ⟨c1, c2, c3, c4⟩ | ⟨c1, c2, c3, c4⟩ | ⟨c1, c2, c4⟩
        · rw [hF_list s f x c2]
          refine (fld_iff fc' s f _ l2 true).2 (.inl ⟨c1, c2, (other_cong (.mk x.Kind x.Bits x.Text (x.List.map (hF s f)) x.Pairs x.Slots x.Raws) x rfl rfl rfl (List.length_map _) rfl rfl rfl).trans c3, fun j hj => ?_⟩)
          have hj : j < x.List.length := by have : j < (x.List.map (hF s f)).length := hj; simpa using this
          show ckE fc' s f.Type_ ((x.List.map (hF s f)).getD j d_AVal) l2 true = 0
          rw [getD_map' (d := d_AVal) hj]
          have := nVs_mem (getD_mem (d := d_AVal) hj)
          exact elem fc' fc f _ l2 (by omega) (by omega) (c4 j hj)
        · rw [hF_pairs s f x c2]
          refine (fld_iff fc' s f _ l2 true).2 (.inr (.inl ⟨c1, c2, (other_cong (.mk x.Kind x.Bits x.Text x.List (x.Pairs.map (hP s f)) x.Slots x.Raws) x rfl rfl rfl rfl (List.length_map _) rfl rfl).trans c3, fun j hj => ?_⟩))
          have hj : j < x.Pairs.length := by have : j < (x.Pairs.map (hP s f)).length := hj; simpa using this
          show c17scalarP f.Key ((x.Pairs.map (hP s f)).getD j d_Pair).Key = 0 ∧ (true = true → ∀ k : Int, 0 ≤ k → k < j → ¬ (((x.Pairs.map (hP s f)).getD k.toNat d_Pair).Key.Bits = ((x.Pairs.map (hP s f)).getD j d_Pair).Key.Bits ∧ ((x.Pairs.map (hP s f)).getD k.toNat d_Pair).Key.Text = ((x.Pairs.map (hP s f)).getD j d_Pair).Key.Text)) ∧ ckE fc' s f.Type_ ((x.Pairs.map (hP s f)).getD j d_Pair).Val l2 true = 0
          rw [getD_map' (d := d_Pair) hj, hP_key, hP_val]
          obtain ⟨d1, d2, d3⟩ := c4 j hj
          refine ⟨d1, fun _ k hk hkj => ?_, ?_⟩
          · rw [getD_map' (d := d_Pair) (show k.toNat < x.Pairs.length by omega), hP_key]
            exact d2 rfl k hk hkj
          · have h5 := nPs_mem (getD_mem (d := d_Pair) hj)
            have h6 := nP_eq (x.Pairs.getD j d_Pair)
            exact elem fc' fc f _ l2 (by omega) (by omega) d3
        · exact (fld_iff fc' s f _ l2 true).2 (.inr (.inr ⟨c1, c2, elem fc' fc f x l2 hx (by omega) c4⟩))
    have one : ∀ x ∈ v.Slots, (r14fldP m x.Num).2 = true ∧ ∀ fc', ckF fc' s (r14fldP m x.Num).1 (hF s (r14fldP m x.Num).1 x.Val) (wrp .i64 (lv + 1)) true = 0 := by
      intro x hx
      have h1 := nSs_mem hx
      have h2 := nS_eq x
      have h3 := nV_pos x.Val
      obtain ⟨i, hi, ex⟩ := mem_getD d_Slot hx
      have hsi := hs i (by omega) (by omega)
      obtain ⟨fc, rfl⟩ : ∃ k, fc = k + 1 := ⟨fc - 1, by omega⟩
      obtain ⟨g1, _, _, g4⟩ := (slot_iff fc s m v i lv true (by omega)).1 hsi
      rw [Int.toNat_natCast, ex] at g1 g4
      exact ⟨g1, fun fc' => fld fc' fc _ _ _ (by omega) (by omega) g4⟩
    have pw : (v.Slots.map Slot.Num).Pairwise (apart m) := pair_of (d := 0) fun i j hij hj => by
      have hj : j < v.Slots.length := by simpa using hj
      rw [getD_map' (d := d_Slot) hj, getD_map' (d := d_Slot) (show i < v.Slots.length by omega)]
      have hsj := hs j (by omega) (by omega)
      have h1 := nSs_mem (getD_mem (d := d_Slot) hj)
      have h2 := nS_eq (v.Slots.getD j d_Slot)
      have h3 := nV_pos (v.Slots.getD j d_Slot).Val
      obtain ⟨fc, rfl⟩ : ∃ k, fc = k + 1 := ⟨fc - 1, by omega⟩
      obtain ⟨_, g2, g3, _⟩ := (slot_iff fc s m v j lv true (by omega)).1 hsj
      have g2 := g2 i (by omega) (by omega)
      have g3 := g3 i (by omega) (by omega)
      rw [Int.toNat_natCast, Int.toNat_natCast] at g2 g3
      exact ⟨g2, g3⟩
    have pl := pw.sublist (hSs_nums s m v.Slots)
    have sl := hSs_flat s m v.Slots
    cases fc' with
    | zero => rfl
    | succ fc' =>
      refine (msg_iff fc' s m _ lv true).2 ⟨a1, (other_cong10 (.mk v.Kind v.Bits v.Text v.List v.Pairs (hSs s m v.Slots) v.Raws) v a1 rfl rfl rfl rfl rfl rfl).trans a2, a3, fun i hi0 hi => ?_, fun j hj hj1 => ?_, a6⟩
      · have hi : i < (hSs s m v.Slots).length := hi
        cases fc' with
        | zero => rfl
        | succ fc' =>
          refine (slot_iff fc' s m _ i lv true hi0).2 ?_
          show (r14fldP m ((hSs s m v.Slots).getD i.toNat d_Slot).Num).2 = true ∧ (∀ k : Int, 0 ≤ k → k < i → ((hSs s m v.Slots).getD k.toNat d_Slot).Num ≠ (r14fldP m ((hSs s m v.Slots).getD i.toNat d_Slot).Num).1.Num) ∧
            (∀ k : Int, 0 ≤ k → k < i → ¬ ((r14fldP m ((hSs s m v.Slots).getD i.toNat d_Slot).Num).1.Union ≠ [] ∧ (r14fldP m ((hSs s m v.Slots).getD k.toNat d_Slot).Num).1.Union = (r14fldP m ((hSs s m v.Slots).getD i.toNat d_Slot).Num).1.Union)) ∧
            ckF fc' s (r14fldP m ((hSs s m v.Slots).getD i.toNat d_Slot).Num).1 ((hSs s m v.Slots).getD i.toNat d_Slot).Val (wrp .i64 (lv + 1)) true = 0
          have ap : ∀ k : Int, 0 ≤ k → k < i → apart m ((hSs s m v.Slots).getD k.toNat d_Slot).Num ((hSs s m v.Slots).getD i.toNat d_Slot).Num := fun k hk hki => by
            have := of_pair (d := 0) pl (i := k.toNat) (j := i.toNat) (by omega) (by rw [List.length_map]; omega)
            rw [getD_map' (d := d_Slot) (by omega), getD_map' (d := d_Slot) (by omega)] at this
            exact this
          have my : (hSs s m v.Slots).getD i.toNat d_Slot ∈ hSs s m v.Slots := getD_mem (by omega)
          refine ⟨?_, fun k hk hki => (ap k hk hki).1, fun k hk hki => (ap k hk hki).2, ?_⟩
          all_goals
            generalize (hSs s m v.Slots).getD i.toNat d_Slot = y at my
            rw [sl] at my
            obtain ⟨x, hx, hy⟩ := List.mem_flatMap.1 my
            obtain ⟨o1, o2⟩ := one x hx
            rw [hS_one s m x o1] at hy
            cases hsec : secF (r14fldP m x.Num).1 with
            | true => rw [hsec] at hy; simp at hy
            | false =>
              rw [hsec] at hy
              obtain rfl : y = .mk x.Num (hF s (r14fldP m x.Num).1 x.Val) := by simpa using hy
              first
              | exact o1
              | exact o2 fc'
      · have h7 := a5 j hj hj1
        rw [set_any, List.any_eq_true] at h7 ⊢
        obtain ⟨x, hx, hxn⟩ := h7
        have hxn : x.Num = (m.Fields.getD j d_AField).Num := by simpa using hxn
        refine ⟨.mk x.Num (hF s (r14fldP m x.Num).1 x.Val), ?_, by rw [← hxn]; simp [Slot.Num]⟩
        show _ ∈ hSs s m v.Slots
        rw [sl]
        refine List.mem_flatMap.2 ⟨x, hx, ?_⟩
        rw [hS_one s m x (one x hx).1, show secF (r14fldP m x.Num).1 = false by rw [hxn]; exact hm j hj hj1]
        simp

end Go.Proofs.YtemjcccdcnhmhaaGreatDoor
