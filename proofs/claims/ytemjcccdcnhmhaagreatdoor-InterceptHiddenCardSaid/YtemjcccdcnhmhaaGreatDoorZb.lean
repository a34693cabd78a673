/-
  Intercept: what Hide leaves.
-/
import Derived.Test.YtemjcccdcnhmhaaGreatDoorZa
namespace Go.Proofs.YtemjcccdcnhmhaaGreatDoor
open Go.RowKit Go.Vc
set_option linter.unusedVariables false
set_option linter.unusedSimpArgs false
set_option maxRecDepth 100000

mutual
noncomputable def oSs (s : Schema) : Message → List Slot → Bool
  | _, [] => false
  | m, x :: r => oS s m x || oSs s m r
noncomputable def oS (s : Schema) : Message → Slot → Bool
  | m, .mk n v => secF (r14fldP m n).1 || (((r14fldP m n).1.Type_.Kind == 10) && oF s (r14msgP s (r14fldP m n).1.Type_.Name).1 v)
noncomputable def oF (s : Schema) : Message → AVal → Bool
  | m, .mk k b t l p ss r => ((k == 10) && oSs s m ss) || (oVs s m l || oPs s m p)
noncomputable def oVs (s : Schema) : Message → List AVal → Bool
  | _, [] => false
  | m, x :: r => oM s m x || oVs s m r
noncomputable def oM (s : Schema) : Message → AVal → Bool
  | m, .mk k b t l p ss r => oSs s m ss
noncomputable def oPs (s : Schema) : Message → List Pair → Bool
  | _, [] => false
  | m, x :: r => oP s m x || oPs s m r
noncomputable def oP (s : Schema) : Message → Pair → Bool
  | m, .mk k v => oM s m v
end
theorem oS_eq (s : Schema) (m : Message) (x : Slot) : oS s m x = (secF (r14fldP m x.Num).1 || (((r14fldP m x.Num).1.Type_.Kind == 10) && oF s (r14msgP s (r14fldP m x.Num).1.Type_.Name).1 x.Val)) := by
  cases x; simp only [oS, Slot.Num, Slot.Val]
theorem oF_eq (s : Schema) (m : Message) (v : AVal) : oF s m v = (((v.Kind == 10) && oSs s m v.Slots) || (oVs s m v.List || oPs s m v.Pairs)) := by
  cases v; simp only [oF, AVal.Kind, AVal.Slots, AVal.List, AVal.Pairs]
theorem oF_mk (s : Schema) (m : Message) (k b t l p ss r) : oF s m (.mk k b t l p ss r) = (((k == 10) && oSs s m ss) || (oVs s m l || oPs s m p)) := by
  simp only [oF]
theorem oS_mk (s : Schema) (m : Message) (n : Int) (v : AVal) : oS s m (.mk n v) = (secF (r14fldP m n).1 || (((r14fldP m n).1.Type_.Kind == 10) && oF s (r14msgP s (r14fldP m n).1.Type_.Name).1 v)) := by
  simp only [oS]
theorem oM_mk (s : Schema) (m : Message) (k b t l p ss r) : oM s m (.mk k b t l p ss r) = oSs s m ss := by
  simp only [oM]
theorem oP_mk (s : Schema) (m : Message) (k : AVal) (v : AVal) : oP s m (.mk k v) = oM s m v := by
  simp only [oP]
theorem flatMap_one {A : Type} {f : A → List A} : ∀ {l : List A}, (∀ x ∈ l, f x = [x]) → l.flatMap f = l
  | [], _ => rfl
  | x :: l, h => by rw [List.flatMap_cons, h x (by simp), flatMap_one fun y hy => h y (by simp [hy])]; rfl
theorem oM_eq (s : Schema) (m : Message) (v : AVal) : oM s m v = oSs s m v.Slots := by
  cases v; simp only [oM, AVal.Slots]
theorem oP_eq (s : Schema) (m : Message) (x : Pair) : oP s m x = oM s m x.Val := by
  cases x; simp only [oP, Pair.Val]
theorem oSs_any (s : Schema) (m : Message) : ∀ l, oSs s m l = l.any (oS s m)
  | [] => by simp [oSs]
  | x :: l => by simp [oSs, oSs_any s m l]
theorem oVs_any (s : Schema) (m : Message) : ∀ l, oVs s m l = l.any (oM s m)
  | [] => by simp [oVs]
  | x :: l => by simp [oVs, oVs_any s m l]
theorem oPs_any (s : Schema) (m : Message) : ∀ l, oPs s m l = l.any (oP s m)
  | [] => by simp [oPs]
  | x :: l => by simp [oPs, oPs_any s m l]
theorem forE_anyS {A R : Type} (p : A → Bool) (w N : R) : ∀ (l : List A) (k : Nat), forE (fun (_ : Nat) (a : A) (_ : Unit) => bif p a then (Sum.inr w : Unit ⊕ R) else .inl ()) (fun _ _ => N) l k () = bif l.any p then w else N
  | [], _ => rfl
  | a :: l, k => by
    unfold forE
    rw [List.any_cons]
    cases p a with
    | true => rfl
    | false => exact forE_anyS p w N l (k + 1)
theorem any_mem {A : Type} {p q : A → Bool} : ∀ {l : List A}, (∀ a ∈ l, p a = q a) → l.any p = l.any q
  | [], _ => rfl
  | a :: l, h => by rw [List.any_cons, List.any_cons, h a (by simp), any_mem fun b hb => h b (by simp [hb])]
theorem lopens_eq : ∀ (fu : Nat) (s : Schema) (name : Str) (v : AVal), nV v < fu → lopensV fu s name v = oSs s (r14msgP s name).1 v.Slots
  | 0, s, name, v, h => by omega
  | fu + 1, s, name, v, h => by
    have hv := nV_eq v
    show (lopen (lopensV fu) (lopenQ fu) s name v).val = _
    unfold lopen
    simp only [val_br, val_ret, val_ob, val_as, val_each, val_ix, val_lt, val_cut, AVal.re_eq]
    rw [oSs_any, forE_mem (b' := fun _ a _ => bif oS s (r14msgP s name).1 a then Sum.inr true else .inl ()) (f' := fun _ _ => false) v.Slots 0 () (fun j a y ha => ?_) (fun _ _ => rfl), forE_anyS]
    · cases v.Slots.any (oS s (r14msgP s name).1) <;> rfl
    · have h1 := nSs_mem ha
      have h2 := nS_eq a
      have h3 := nV_eq a.Val
      rw [oS_eq]
      unfold secF
      generalize (r14fldP (r14msgP s name).1 a.Num).1 = f
      have eL : forE (fun (_ : Nat) (a7 : AVal) (_ : Unit) => bif lopensV fu s f.Type_.Name a7 then (Sum.inr (Sum.inr (Sum.inr true)) : Unit ⊕ (Unit ⊕ (Unit ⊕ Bool))) else .inl ()) (fun _ _ => Sum.inl ()) a.Val.List 0 () = bif oVs s (r14msgP s f.Type_.Name).1 a.Val.List then Sum.inr (Sum.inr true) else .inl () := by
        rw [forE_anyS, oVs_any, any_mem (q := oM s (r14msgP s f.Type_.Name).1) fun b hb => by rw [oM_eq, lopens_eq fu s f.Type_.Name b (by have := nVs_mem hb; omega)]]
      have eP : forE (fun (_ : Nat) (a11 : Pair) (_ : Unit) => bif lopensV fu s f.Type_.Name a11.Val then (Sum.inr (Sum.inr true) : Unit ⊕ (Unit ⊕ Bool)) else .inl ()) (fun _ _ => Sum.inl ()) a.Val.Pairs 0 () = bif oPs s (r14msgP s f.Type_.Name).1 a.Val.Pairs then Sum.inr true else .inl () := by
        rw [forE_anyS, oPs_any, any_mem (q := oP s (r14msgP s f.Type_.Name).1) fun b hb => by rw [oP_eq, oM_eq, lopens_eq fu s f.Type_.Name b.Val (by have := nPs_mem hb; have := nP_eq b; omega)]]
      rw [eL, eP, lopens_eq fu s f.Type_.Name a.Val (by omega), oF_eq]
      cases r8flagP f.Notes [115, 101, 99, 114, 101, 116] <;> cases f.Card != 1 <;> cases hk : f.Type_.Kind == 10 <;> cases a.Val.Kind == 10 <;> cases oSs s (r14msgP s f.Type_.Name).1 a.Val.Slots <;> cases oVs s (r14msgP s f.Type_.Name).1 a.Val.List <;> cases oPs s (r14msgP s f.Type_.Name).1 a.Val.Pairs <;>
        simp only [bne, hk, cond_true, cond_false, thenS_inl, thenS_inr, Bool.not_true, Bool.not_false, Bool.and_self, Bool.and_true, Bool.and_false, Bool.false_and, Bool.true_and, Bool.or_true, Bool.or_false, Bool.true_or, Bool.false_or]
theorem lopenP_eq (s : Schema) (name : Str) (v : AVal) : lopenP s name v = oSs s (r14msgP s name).1 v.Slots := lopens_eq (nV v + 1) s name v (Nat.lt_succ_self _)
theorem other_10 (v : AVal) (hk : v.Kind = 10) (h : c17otherP v = false) : v.List = [] ∧ v.Pairs = [] := by
  unfold c17otherP c17other at h
  simp only [val_br, val_ret, val_cut] at h
  have e1 : (v.Kind != 11) = true := by rw [hk]; rfl
  have e2 : (v.Kind != 12) = true := by rw [hk]; rfl
  cases hl : v.List with
  | cons x l =>
    have : decide ((0 : Int) < (↑v.List.length : Int)) = true := decide_eq_true (by rw [hl]; simp)
    rw [this, e1] at h
    simp at h
  | nil =>
    have n1 : decide ((0 : Int) < (↑v.List.length : Int)) = false := decide_eq_false (by rw [hl]; simp)
    cases hp : v.Pairs with
    | cons x l =>
      have : decide ((0 : Int) < (↑v.Pairs.length : Int)) = true := decide_eq_true (by rw [hp]; simp)
      rw [n1, this, e2] at h
      simp at h
    | nil => exact ⟨rfl, rfl⟩
theorem other_11 (v : AVal) (hk : v.Kind = 11) (h : c17otherP v = false) : v.Pairs = [] := by
  unfold c17otherP c17other at h
  simp only [val_br, val_ret, val_cut] at h
  have e1 : (v.Kind != 11) = false := by rw [hk]; rfl
  have e2 : (v.Kind != 12) = true := by rw [hk]; rfl
  cases hp : v.Pairs with
  | cons x l =>
    have : decide ((0 : Int) < (↑v.Pairs.length : Int)) = true := decide_eq_true (by rw [hp]; simp)
    rw [this, e1, e2] at h
    cases hd : decide ((0 : Int) < (↑v.List.length : Int)) <;> rw [hd] at h <;> simp at h
  | nil => rfl
theorem other_12 (v : AVal) (hk : v.Kind = 12) (h : c17otherP v = false) : v.List = [] := by
  unfold c17otherP c17other at h
  simp only [val_br, val_ret, val_cut] at h
  have e1 : (v.Kind != 11) = true := by rw [hk]; rfl
  cases hl : v.List with
  | cons x l =>
    have : decide ((0 : Int) < (↑v.List.length : Int)) = true := decide_eq_true (by rw [hl]; simp)
    rw [this, e1] at h
    simp at h
  | nil => rfl
theorem hS_one (s : Schema) (m : Message) (x : Slot) (h1 : (r14fldP m x.Num).2 = true) : hS s m x = bif secF (r14fldP m x.Num).1 then [] else [.mk x.Num (hF s (r14fldP m x.Num).1 x.Val)] := by
  rw [hS_eq, h1]
  cases secF (r14fldP m x.Num).1 <;> rfl
theorem hT_eq (s : Schema) (name : Str) (v : AVal) (h : (r14msgP s name).2 = true) : hT s name v = .mk v.Kind v.Bits v.Text v.List v.Pairs (hSs s (r14msgP s name).1 v.Slots) v.Raws := by
  unfold hT; rw [h]; rfl
theorem bne_f {a b : Int} (h : a = b) : (a != b) = false := by simpa using h
theorem beq_t {a b : Int} (h : a = b) : (a == b) = true := by simpa using h
theorem beq_f {a b : Int} (h : a ≠ b) : (a == b) = false := by simpa using h
/-- What an element, a field, a message says of itself, where it is valid. -/
theorem ck_msg10 {fc : Nat} {s : Schema} {m : Message} {v : AVal} {lv : Int} {keys : Bool} (h : ckM (fc + 1) s m v lv keys = 0) : v.Kind = 10 ∧ v.List = [] ∧ v.Pairs = [] := by
  obtain ⟨k, o, _⟩ := (msg_iff fc s m v lv keys).1 h
  obtain ⟨a, b⟩ := other_10 v k o
  exact ⟨k, a, b⟩
theorem hid_open : ∀ (n : Nat) (v : AVal), nV v ≤ n → ∀ (fc : Nat) (s : Schema) (m : Message) (lv : Int), 4 * nV v < fc → ckM fc s m v lv true = 0 →
    oSs s m (hSs s m v.Slots) = false ∧ (oSs s m v.Slots = false → hSs s m v.Slots = v.Slots)
  | 0, v, hn, _, _, _, _, _, _ => by have := nV_pos v; omega
  | n + 1, v, hn, fc, s, m, lv, hc, h0 => by
    obtain ⟨fc, rfl⟩ : ∃ k, fc = k + 1 := ⟨fc - 1, by omega⟩
    have hv := nV_eq v
    obtain ⟨_, _, _, hs, _, _⟩ := (msg_iff fc s m v lv true).1 h0
    -- each slot
    have each : ∀ x ∈ v.Slots, (∀ y ∈ hS s m x, oS s m y = false) ∧ (oS s m x = false → hS s m x = [x]) := by
      intro x hx
      have h1 := nSs_mem hx
      have h2 := nS_eq x
      have h3 := nV_eq x.Val
      obtain ⟨i, hi, ex⟩ := mem_getD d_Slot hx
      have hsi := hs i (by omega) (by omega)
      obtain ⟨fc, rfl⟩ : ∃ k, fc = k + 1 := ⟨fc - 1, by omega⟩
      obtain ⟨g1, _, _, g4⟩ := (slot_iff fc s m v i lv true (by omega)).1 hsi
      rw [Int.toNat_natCast, ex] at g1 g4
      obtain ⟨fc, rfl⟩ : ∃ k, fc = k + 1 := ⟨fc - 1, by omega⟩
      rw [hS_one s m x g1]
      -- an element that is a message
      have elem : ∀ (f : AField) (y : AVal) (l2 : Int), f.Type_.Kind = 10 → nV y ≤ n → 4 * nV y + 1 < fc → ckE fc s f.Type_ y l2 true = 0 →
          y.Kind = 10 ∧ y.List = [] ∧ y.Pairs = [] ∧ hF s f y = .mk y.Kind y.Bits y.Text y.List y.Pairs (hSs s (r14msgP s f.Type_.Name).1 y.Slots) y.Raws ∧ oSs s (r14msgP s f.Type_.Name).1 (hSs s (r14msgP s f.Type_.Name).1 y.Slots) = false ∧
            (oSs s (r14msgP s f.Type_.Name).1 y.Slots = false → hF s f y = y) := by
        intro f y l2 ht hy hcy hce
        obtain ⟨fc, rfl⟩ : ∃ k, fc = k + 1 := ⟨fc - 1, by omega⟩
        obtain ⟨q1, q2⟩ := (el_iff fc s f.Type_ y l2 true ht).1 hce
        have ih := hid_open n y hy fc s _ l2 (by omega) q2
        obtain ⟨fc, rfl⟩ : ∃ k, fc = k + 1 := ⟨fc - 1, by omega⟩
        obtain ⟨k1, k2, k3⟩ := ck_msg10 q2
        have e : hF s f y = .mk y.Kind y.Bits y.Text y.List y.Pairs (hSs s (r14msgP s f.Type_.Name).1 y.Slots) y.Raws := by
          rw [hF_eq, bne_f ht, beq_t k1, cond_false, cond_true, hT_eq s _ y q1]
        refine ⟨k1, k2, k3, e, ih.1, fun ho => ?_⟩
        rw [e, ih.2 ho, AVal.eta]
      generalize eF : r14fldP m x.Num = F at g1 g4 ⊢
      have body : (∀ z, hF s F.1 x.Val = z → F.1.Type_.Kind = 10 → oF s (r14msgP s F.1.Type_.Name).1 z = false) ∧ (F.1.Type_.Kind = 10 → oF s (r14msgP s F.1.Type_.Name).1 x.Val = false → hF s F.1 x.Val = x.Val) := by
        by_cases ht : F.1.Type_.Kind = 10
        · rcases (fld_iff fc s F.1 x.Val (wrp .i64 (lv + 1)) true).1 g4 with ⟨_, c2, c3, c4⟩ | ⟨_, c2, c3, c4⟩ | ⟨_, _, c4⟩
          · have hp := other_11 x.Val c2 c3
            have e : hF s F.1 x.Val = .mk x.Val.Kind x.Val.Bits x.Val.Text (hVs s F.1 x.Val.List) x.Val.Pairs x.Val.Slots x.Val.Raws := by
              rw [hF_eq, bne_f ht, c2]; rfl
            have all : ∀ y ∈ x.Val.List, y.Kind = 10 ∧ y.List = [] ∧ y.Pairs = [] ∧ hF s F.1 y = .mk y.Kind y.Bits y.Text y.List y.Pairs (hSs s (r14msgP s F.1.Type_.Name).1 y.Slots) y.Raws ∧ oSs s (r14msgP s F.1.Type_.Name).1 (hSs s (r14msgP s F.1.Type_.Name).1 y.Slots) = false ∧
                (oSs s (r14msgP s F.1.Type_.Name).1 y.Slots = false → hF s F.1 y = y) := fun y hy => by
              obtain ⟨j, hj, ej⟩ := mem_getD d_AVal hy
              have := c4 j hj
              rw [ej] at this
              have h5 := nVs_mem hy
              exact elem F.1 y _ ht (by omega) (by omega) this
            refine ⟨fun z hz _ => ?_, fun _ ho => ?_⟩
            · rw [← hz, e, oF_mk, c2, hp, hVs_map, oVs_any, List.any_map]
              have : (x.Val.List.any ((oM s (r14msgP s F.1.Type_.Name).1) ∘ (hF s F.1))) = false := by
                rw [List.any_eq_false]
                intro y hy
                obtain ⟨_, _, _, q4, q5, _⟩ := all y hy
                rw [Function.comp, q4, oM_mk, q5]
                simp
              rw [this]
              rfl
            · rw [oF_eq, c2, hp] at ho
              have ho2 : oVs s (r14msgP s F.1.Type_.Name).1 x.Val.List = false := by
                cases hh : oVs s (r14msgP s F.1.Type_.Name).1 x.Val.List with
                | false => rfl
                | true => rw [hh] at ho; simp at ho
              rw [oVs_any, List.any_eq_false] at ho2
              rw [e, hVs_map, show x.Val.List.map (hF s F.1) = x.Val.List from (List.map_congr_left fun y hy => (all y hy).2.2.2.2.2 (by have := ho2 y hy; rw [oM_eq] at this; simpa using this)).trans (List.map_id _), AVal.eta]
          · have hl := other_12 x.Val c2 c3
            have e : hF s F.1 x.Val = .mk x.Val.Kind x.Val.Bits x.Val.Text x.Val.List (hPs s F.1 x.Val.Pairs) x.Val.Slots x.Val.Raws := by
              rw [hF_eq, bne_f ht, c2]; rfl
            have all : ∀ q ∈ x.Val.Pairs, q.Val.Kind = 10 ∧ q.Val.List = [] ∧ q.Val.Pairs = [] ∧ hF s F.1 q.Val = .mk q.Val.Kind q.Val.Bits q.Val.Text q.Val.List q.Val.Pairs (hSs s (r14msgP s F.1.Type_.Name).1 q.Val.Slots) q.Val.Raws ∧ oSs s (r14msgP s F.1.Type_.Name).1 (hSs s (r14msgP s F.1.Type_.Name).1 q.Val.Slots) = false ∧
                (oSs s (r14msgP s F.1.Type_.Name).1 q.Val.Slots = false → hF s F.1 q.Val = q.Val) := fun q hq => by
              obtain ⟨j, hj, ej⟩ := mem_getD d_Pair hq
              have := (c4 j hj).2.2
              rw [ej] at this
              have h5 := nPs_mem hq
              have h6 := nP_eq q
              exact elem F.1 q.Val _ ht (by omega) (by omega) this
            refine ⟨fun z hz _ => ?_, fun _ ho => ?_⟩
            · rw [← hz, e, oF_mk, c2, hl, hPs_map, oPs_any, List.any_map]
              have : (x.Val.Pairs.any ((oP s (r14msgP s F.1.Type_.Name).1) ∘ (hP s F.1))) = false := by
                rw [List.any_eq_false]
                intro q hq
                obtain ⟨_, _, _, q4, q5, _⟩ := all q hq
                rw [Function.comp, hP_eq, oP_mk, q4, oM_mk, q5]
                simp
              rw [this]
              simp [oVs]
            · rw [oF_eq, c2, hl] at ho
              have ho2 : oPs s (r14msgP s F.1.Type_.Name).1 x.Val.Pairs = false := by
                cases hh : oPs s (r14msgP s F.1.Type_.Name).1 x.Val.Pairs with
                | false => rfl
                | true => rw [hh] at ho; simp at ho
              rw [oPs_any, List.any_eq_false] at ho2
              rw [e, hPs_map, show x.Val.Pairs.map (hP s F.1) = x.Val.Pairs from (List.map_congr_left fun q hq => by
                rw [hP_eq, (all q hq).2.2.2.2.2 (by have := ho2 q hq; rw [oP_eq, oM_eq] at this; simpa using this), Pair.eta]; rfl).trans (List.map_id _), AVal.eta]
          · obtain ⟨k1, k2, k3, q4, q5, q6⟩ := elem F.1 x.Val _ ht (by omega) (by omega) c4
            refine ⟨fun z hz _ => ?_, fun _ ho => ?_⟩
            · rw [← hz, q4, oF_mk, k2, k3, q5]
              simp [oVs, oPs]
            · rw [oF_eq, k1] at ho
              refine q6 ?_
              cases hh : oSs s (r14msgP s F.1.Type_.Name).1 x.Val.Slots with
              | false => rfl
              | true => rw [hh] at ho; simp at ho
        · exact ⟨fun _ _ hk => absurd hk ht, fun hk => absurd hk ht⟩
      cases hsec : secF F.1 with
      | true =>
        refine ⟨fun y hy => by simp at hy, fun ho => ?_⟩
        rw [oS_eq, eF, hsec] at ho
        simp at ho
      | false =>
        refine ⟨fun y hy => ?_, fun ho => ?_⟩
        · obtain rfl : y = .mk x.Num (hF s F.1 x.Val) := by simpa using hy
          rw [oS_mk, eF, hsec]
          by_cases ht : F.1.Type_.Kind = 10
          · rw [body.1 _ rfl ht]; simp
          · rw [beq_f ht]; rfl
        · rw [oS_eq, eF, hsec] at ho
          have e : hF s F.1 x.Val = x.Val := by
            by_cases ht : F.1.Type_.Kind = 10
            · refine body.2 ht ?_
              rw [beq_t ht] at ho
              simpa using ho
            · rw [hF_eq, show (F.1.Type_.Kind != 10) = true by simpa using ht]; rfl
          rw [e]
          show [Slot.mk x.Num x.Val] = [x]
          rw [Slot.eta]
    have e := hSs_flat s m v.Slots
    refine ⟨?_, fun ho => ?_⟩
    · rw [oSs_any, List.any_eq_false]
      intro y hy
      rw [e] at hy
      obtain ⟨x, hx, hy⟩ := List.mem_flatMap.1 hy
      rw [(each x hx).1 y hy]
      simp
    · rw [oSs_any, List.any_eq_false] at ho
      rw [e]
      exact flatMap_one fun x hx => (each x hx).2 (by simpa using ho x hx)
end Go.Proofs.YtemjcccdcnhmhaaGreatDoor
