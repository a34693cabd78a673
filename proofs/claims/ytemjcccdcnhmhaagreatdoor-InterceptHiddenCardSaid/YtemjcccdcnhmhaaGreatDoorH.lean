/-
  Intercept: the reference's Stamp.
-/
import Derived.Test.YtemjcccdcnhmhaaGreatDoorG
namespace Go.Proofs.YtemjcccdcnhmhaaGreatDoor
open Go.RowKit Go.Vc
set_option linter.unusedVariables false
set_option linter.unusedSimpArgs false
set_option maxRecDepth 100000

/-- A round of the reference's Stamp. -/
def stR (has : Bool) (key val : Str) (y : List AMeta × Bool) (a : AMeta) : List AMeta × Bool :=
  bif !y.2 && has && (a.Key == key) then (y.1 ++ [⟨a.Key, val⟩], true) else bif !y.2 && !has && gtS a.Key key then (y.1 ++ [⟨key, val⟩] ++ [a], true) else (y.1 ++ [a], y.2)
theorem stR_done (has : Bool) (key val : Str) : ∀ (l : List AMeta) (u : List AMeta), l.foldl (stR has key val) (u, true) = (u ++ l, true)
  | [], u => by simp
  | a :: l, u => by
    simp only [List.foldl_cons]
    have : stR has key val (u, true) a = (u ++ [a], true) := by unfold stR; rfl
    rw [this, stR_done has key val l]
    simp
theorem stR_has (key val : Str) : ∀ (l : List AMeta) (u : List AMeta), l.foldl (stR true key val) (u, false) = (u ++ addM key val l, l.any (eqK key))
  | [], u => by simp [addM]
  | a :: l, u => by
    simp only [List.foldl_cons, List.any_cons, addM]
    have h0 : eqK key a = (a.Key == key) := rfl
    rw [h0]
    cases h : a.Key == key with
    | true =>
      have : stR true key val (u, false) a = (u ++ [⟨a.Key, val⟩], true) := by unfold stR; rw [h]; rfl
      rw [this, stR_done]
      simp
    | false =>
      have : stR true key val (u, false) a = (u ++ [a], false) := by unfold stR; rw [h]; rfl
      rw [this, stR_has key val l]
      simp
theorem stR_no (key val : Str) : ∀ (l : List AMeta) (u : List AMeta), (bif !(l.foldl (stR false key val) (u, false)).2 then (l.foldl (stR false key val) (u, false)).1 ++ [AMeta.mk key val] else (l.foldl (stR false key val) (u, false)).1) = u ++ insM' key val l
  | [], u => by simp [insM']
  | a :: l, u => by
    simp only [List.foldl_cons, insM']
    have h0 : gtK key a = gtS a.Key key := rfl
    rw [h0]
    cases h : gtS a.Key key with
    | true =>
      have : stR false key val (u, false) a = (u ++ [⟨key, val⟩] ++ [a], true) := by unfold stR; rw [h]; rfl
      rw [this, stR_done]
      simp
    | false =>
      have : stR false key val (u, false) a = (u ++ [a], false) := by unfold stR; rw [h]; rfl
      rw [this, stR_no key val l]
      simp
theorem rstamp_round (h : Head) (key val : Str) (y : List AMeta × Bool) (a : AMeta) : thenS (bif !y.2 then bif (rmetaP h key).2 then bif a.Key == key then (Sum.inl (true, AMeta.mk a.Key val) : (Bool × AMeta) ⊕ ((List AMeta × Bool) ⊕ ((List AMeta × Bool) ⊕ (Head × Int)))) else .inl (y.2, a) else .inl (y.2, a) else .inl (y.2, a))
    (fun y3 => bif !y3.1 then bif !(rmetaP h key).2 then bif !(Op.bytesLess y3.2.Key key || y3.2.Key == key) then (Sum.inl (y.1 ++ [AMeta.mk key val] ++ [y3.2], true) : (List AMeta × Bool) ⊕ ((List AMeta × Bool) ⊕ (Head × Int))) else .inl (y.1 ++ [y3.2], y3.1) else .inl (y.1 ++ [y3.2], y3.1) else .inl (y.1 ++ [y3.2], y3.1)) = .inl (stR (rmetaP h key).2 key val y a) := by
  obtain ⟨u, d⟩ := y
  unfold stR gtS
  cases d <;> cases (rmetaP h key).2 <;> cases hK : a.Key == key <;> simp only [thenS_inl, cond_true, cond_false, Bool.not_true, Bool.not_false, hK] <;> cases Op.bytesLess a.Key key <;> rfl
theorem rstamp_eq (h : Head) (key val : Str) : (rstamp h key val).val = stampV h key val := by
  unfold rstamp stampV
  simp only [val_ob, val_lt, val_br, val_cut, val_ix, val_as, val_ret, val_each, rstamp_round]
  rw [forE_fold (fun y a => stR (rmetaP h key).2 key val y a) (fun _ y => Sum.inl y)]
  simp only [thenS_inl]
  have hm : (bif !(h.Metas.foldl (fun y a => stR (rmetaP h key).2 key val y a) ([], false)).2 then (h.Metas.foldl (fun y a => stR (rmetaP h key).2 key val y a) ([], false)).1 ++ [AMeta.mk key val]
      else (h.Metas.foldl (fun y a => stR (rmetaP h key).2 key val y a) ([], false)).1) = nextM h.Metas key val := by
    unfold nextM
    rw [rmeta_has]
    cases hh : h.Metas.any (eqK key) with
    | true =>
      have := stR_has key val h.Metas []
      rw [hh] at this
      rw [this]
      rfl
    | false => exact stR_no key val h.Metas []
  cases rentryP key val != 0 with
  | true => rfl
  | false =>
    simp only [cond_false]
    rw [← hm]
    cases (h.Metas.foldl (fun y a => stR (rmetaP h key).2 key val y a) ([], false)).2 <;> rfl
theorem insM_len (key val : Str) : ∀ l : List AMeta, (insM' key val l).length = l.length + 1
  | [] => rfl
  | x :: t => by
    unfold insM'
    cases gtK key x with
    | true => rfl
    | false => simp [insM_len key val t]
theorem addM_len (key val : Str) : ∀ l : List AMeta, (addM key val l).length = l.length
  | [] => rfl
  | x :: t => by
    unfold addM
    cases eqK key x with
    | true => rfl
    | false => simp [addM_len key val t]
theorem nextM_len (l : List AMeta) (key val : Str) : (nextM l key val).length ≤ l.length + 1 := by
  unfold nextM
  cases l.any (eqK key) with
  | true => rw [cond_true, addM_len]; omega
  | false => rw [cond_false, insM_len]; omega
def okH (h : Head) : Prop := h.Metas.length ≤ 1000 ∧ h.Service.length + h.Method.length ≤ 1000000
theorem stR_len (has : Bool) (key val : Str) (y : List AMeta × Bool) (a : AMeta) : (stR has key val y a).1.length ≤ y.1.length + 2 := by
  unfold stR
  cases !y.2 && has && (a.Key == key) <;> cases !y.2 && !has && gtS a.Key key <;> simp
theorem stRs_len (has : Bool) (key val : Str) : ∀ (l : List AMeta) (y : List AMeta × Bool), (l.foldl (stR has key val) y).1.length ≤ y.1.length + 2 * l.length
  | [], y => by simp
  | a :: l, y => by
    have h1 := stRs_len has key val l (stR has key val y a)
    have h2 := stR_len has key val y a
    simp only [List.foldl_cons, List.length_cons]
    omega
theorem okH_1 {h : Head} (k : okH h) : h.Metas.length ≤ 1000 := k.1

theorem stamp_is (hd : Head) (key : Str) (val : Str) (h : hd.Metas.length ≤ 1000 ∧ key.length ≤ 1000) : Is (stamp hd key val) :=
  by
  have e1 := ixOf_lt (eqK key) hd.Metas
  have e2 := ixOf_lt (gtK key) hd.Metas
  unfold eqK at e1
  unfold gtK at e2
  exact is_ob (by omega) (is_lt fun v2 hv2 => is_bne (fun _ => is_ret) (fun _ => is_ob (by omega) (is_cut (is_lt fun v3 hv3 => is_brd (fun _ => is_ix (by omega) (by omega) (is_ob (by omega) (is_ret)))
    (fun _ => is_lt fun v4 hv4 => is_brd (fun _ => is_as fun _ => is_ob ⟨by omega, by omega, by omega, room_of (by omega) (by omega)⟩ (is_ret)) (fun _ => is_ob ⟨by omega, by omega, by omega, room_of (by omega) (by omega)⟩ (is_ret)))) (fun y1 hy1 => is_brd (fun _ => is_ret) (fun _ => is_ret)))))
noncomputable def e_stamp : Ent Z := entN Z [e_entry, e_cloneM, e_ixEq, e_ixGt, e_stEq, e_stGt, e_insM] [jS 100012 (shp (fun sl => [.slot 9 false [some 92]]) (l1 cd_LMeta))] (args (aCons (aAgg cd_Head) (aCons (aLf cStr) (a1 (aLf cStr))))) (argsI (n := 52) rfl) (shr [.slot 0 true [none, none, none, none], .slot 1 false [none]] (lCons cd_Head (l1 (cInt .i64)))) [] Tryz.func25 Tryz.ntmps25 (by kernel_rfl) 2 rfl (fun a => stamp (a.1) (a.2.1) (a.2.2)) (fun a => some ((a.1).Metas.length ≤ 1000 ∧ (a.2.1).length ≤ 1000)) (fun a e _ => by kernel_rfl) (fun a => stampV (a.1) (a.2.1) (a.2.2)) (fun a h => ⟨stamp_is (a.1) (a.2.1) (a.2.2) h, (fun hd key val _ => stamp_eq hd key val) (a.1) (a.2.1) (a.2.2) h⟩)

theorem rstamp_is (hd : Head) (key : Str) (val : Str) (h : hd.Metas.length ≤ 1000) : Is (rstamp hd key val) :=
  by
  refine is_lt fun v7 hv7 => is_bne (fun _ => is_ret) (fun _ => is_cut (is_eachI (fun k y => y.1.length ≤ 2 * k) (Nat.le_refl _) (.inl rfl) (fun i1 y2 hlt _ hI => ⟨is_ix (by omega) (by omega) (is_lt fun v8 hv8 => is_cut (is_br (fun _ => is_br (fun _ => is_br (fun _ => is_ret) (fun _ => is_ret)) (fun _ => is_ret)) (fun _ => is_ret)) (fun y3 hy3 => ?_)), fun y' hy' => ?_⟩) (fun y2 _ _ => is_ret)) (fun y5 hy5 => ?_))
  · have hI : y2.1.length ≤ 2 * i1 := hI
    exact is_lt fun v9 hv9 => is_br (fun _ => is_br (fun _ => is_br (fun _ => is_ob (room_of (by omega) (by omega)) (is_lt fun v10 hv10 => is_ob (by subst hv10; exact room_of (by simp; omega) (by simp; omega)) (is_ret))) (fun _ => is_ob (room_of (by omega) (by omega)) (is_ret))) (fun _ => is_ob (room_of (by omega) (by omega)) (is_ret))) (fun _ => is_ob (room_of (by omega) (by omega)) (is_ret))
  · simp only [val_ob, val_lt, val_br, val_cut, val_ix, val_ret, rstamp_round] at hy'
    injection hy' with hy'
    subst hy'
    have := stR_len (rmetaP hd key).2 key val y2 (hd.Metas.getD i1 d_Meta)
    have hI : y2.1.length ≤ 2 * i1 := hI
    show _ ≤ 2 * (i1 + 1)
    omega
  · simp only [val_ob, val_lt, val_br, val_cut, val_ix, val_ret, val_each, rstamp_round] at hy5
    rw [forE_fold (fun y a => stR (rmetaP hd key).2 key val y a) (fun _ y => Sum.inl y)] at hy5
    injection hy5 with hy5
    have := stRs_len (rmetaP hd key).2 key val hd.Metas ([], false)
    rw [hy5] at this
    simp only [List.length_nil] at this
    exact is_cut (is_br (fun _ => is_ob (room_of (by omega) (by omega)) (is_ret)) (fun _ => is_ret)) (fun y6 hy6 => is_brd (fun _ => is_ret) (fun _ => is_ret))
noncomputable def e_rstamp : Ent Z := entN Z [e_rmeta, e_rentry] [jS 8 (shp (fun sl => [.slot 13 false [none], .slot 11 false [some 92], .slot 12 false [none]]) (lCons (cInt .i64) (lCons cd_LMeta (l1 cBool)))), jS 100014 (shp (fun sl => [.slot 12 false [none], .cells (pid (sl 14)) [none, none]]) (lCons cBool (l1 cd_Meta))), jS 100018 (shp (fun sl => [.slot 11 false [some 92], .slot 12 false [none]]) (lCons cd_LMeta (l1 cBool))), jS 100020 (shp (fun sl => [.slot 11 false [some 92]]) (l1 cd_LMeta))] (args (aCons (aAgg cd_Head) (aCons (aLf cStr) (a1 (aLf cStr))))) (argsI (n := 90) rfl) (shr [.slot 0 true [none, none, none, none], .slot 1 false [none]] (lCons cd_Head (l1 (cInt .i64)))) [] Tryz.func36 Tryz.ntmps36 (by kernel_rfl) 2 rfl (fun a => rstamp (a.1) (a.2.1) (a.2.2)) (fun a => some ((a.1).Metas.length ≤ 1000)) (fun a e _ => by kernel_rfl) (fun a => stampV (a.1) (a.2.1) (a.2.2)) (fun a h => ⟨rstamp_is (a.1) (a.2.1) (a.2.2) h, (fun hd key val _ => rstamp_eq hd key val) (a.1) (a.2.1) (a.2.2) h⟩)
end Go.Proofs.YtemjcccdcnhmhaaGreatDoor
