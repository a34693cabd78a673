/-
  Intercept: Hide.
-/
import Derived.Test.YtemjcccdcnhmhaaGreatDoorE
namespace Go.Proofs.YtemjcccdcnhmhaaGreatDoor
open Go.RowKit Go.Vc
set_option linter.unusedVariables false
set_option linter.unusedSimpArgs false
set_option maxRecDepth 100000

mutual
def nV : AVal → Nat
  | .mk _ _ _ l p s _ => nVs l + nPs p + nSs s + 1
def nVs : List AVal → Nat
  | [] => 0
  | x :: l => nV x + nVs l
def nP : Pair → Nat
  | .mk k v => nV k + nV v
def nPs : List Pair → Nat
  | [] => 0
  | x :: l => nP x + nPs l
def nS : Slot → Nat
  | .mk _ v => nV v
def nSs : List Slot → Nat
  | [] => 0
  | x :: l => nS x + nSs l
end
theorem nV_pos (v : AVal) : 1 ≤ nV v := by cases v; simp [nV]
theorem nVs_mem : ∀ {l : List AVal} {x : AVal}, x ∈ l → nV x ≤ nVs l
  | y :: l, x, h => by
    rcases List.mem_cons.1 h with rfl | h
    · simp [nVs]
    · have := nVs_mem h; simp [nVs]; omega
theorem nPs_mem : ∀ {l : List Pair} {x : Pair}, x ∈ l → nP x ≤ nPs l
  | y :: l, x, h => by
    rcases List.mem_cons.1 h with rfl | h
    · simp [nPs]
    · have := nPs_mem h; simp [nPs]; omega
theorem nSs_mem : ∀ {l : List Slot} {x : Slot}, x ∈ l → nS x ≤ nSs l
  | y :: l, x, h => by
    rcases List.mem_cons.1 h with rfl | h
    · simp [nSs]
    · have := nSs_mem h; simp [nSs]; omega
theorem nVs_len : ∀ l : List AVal, l.length ≤ nVs l
  | [] => by simp
  | x :: l => by have := nVs_len l; have := nV_pos x; simp [nVs]; omega
theorem nPs_len : ∀ l : List Pair, l.length ≤ nPs l
  | [] => by simp
  | x :: l => by have := nPs_len l; cases x with | mk k v => have := nV_pos k; simp [nPs, nP]; omega
theorem nSs_len : ∀ l : List Slot, l.length ≤ nSs l
  | [] => by simp
  | x :: l => by have := nSs_len l; cases x with | mk k v => have := nV_pos v; simp [nSs, nS]; omega
theorem nV_eq (v : AVal) : nV v = nVs v.List + nPs v.Pairs + nSs v.Slots + 1 := by cases v; simp [nV, AVal.List, AVal.Pairs, AVal.Slots]
theorem nP_eq (x : Pair) : nP x = nV x.Key + nV x.Val := by cases x; simp [nP, Pair.Key, Pair.Val]
theorem nS_eq (x : Slot) : nS x = nV x.Val := by cases x; simp [nS, Slot.Val]

noncomputable def hidden (hiddenR : Schema → AField → AVal → AVal) (hiddenQ : Schema → AField → AVal → Prop) (hideR : Schema → Str → AVal → AVal) (hideQ : Schema → Str → AVal → Prop) (s : Schema) (f : AField) (v : AVal) : Pg AVal :=
  .br (f.Type_.Kind != 10) (.ret v.re)
    (.br (v.Kind == 10) (.ob (hideQ s f.Type_.Name v.re) (.ret (hideR s f.Type_.Name v.re).re))
      (.br (v.Kind == 11)
        (.ob (v.List.length ≤ 1000000)
          (.as (v.List.length ≤ 9223372036854775807)
            (.cnt ixP 0 (↑v.List.length : Int)
              (fun (i1 : Int) (y2 : List AVal) =>
                .ix i1 y2.length
                  (.ob (i1.toNat < y2.length)
                    (.ob (hiddenQ s (AField.mk f.Num f.Name f.Card f.Key f.Type_ f.Union f.HasDefault f.Default.re f.Notes) (y2.getD i1.toNat d_AVal).re)
                      (.ix i1 y2.length
                        (.ob (i1.toNat < y2.length)
                          (.ret
                            (.inl
                              (y2.set i1.toNat
                                (hiddenR s (AField.mk f.Num f.Name f.Card f.Key f.Type_ f.Union f.HasDefault f.Default.re f.Notes) (y2.getD i1.toNat d_AVal).re).re))))))))
              (fun (i1 : Int) (y2 : List AVal) => .ret (AVal.mk v.Kind v.Bits v.Text y2 v.Pairs v.Slots v.Raws)) v.List)))
        (.br (v.Kind == 12)
          (.ob (v.Pairs.length ≤ 1000000)
            (.as (v.Pairs.length ≤ 9223372036854775807)
              (.cnt ixP 0 (↑v.Pairs.length : Int)
                (fun (i3 : Int) (y4 : List Pair) =>
                  .ix i3 y4.length
                    (.ob (i3.toNat < y4.length)
                      (.ob (hiddenQ s (AField.mk f.Num f.Name f.Card f.Key f.Type_ f.Union f.HasDefault f.Default.re f.Notes) (y4.getD i3.toNat d_Pair).Val.re)
                        (.ix i3 y4.length
                          (.ob (i3.toNat < y4.length)
                            (.ret
                              (.inl
                                (y4.set i3.toNat
                                  (Pair.mk (y4.getD i3.toNat d_Pair).Key.re
                                    (hiddenR s (AField.mk f.Num f.Name f.Card f.Key f.Type_ f.Union f.HasDefault f.Default.re f.Notes) (y4.getD i3.toNat d_Pair).Val.re).re)))))))))
                (fun (i3 : Int) (y4 : List Pair) => .ret (AVal.mk v.Kind v.Bits v.Text v.List y4 v.Slots v.Raws)) v.Pairs)))
          (.ret v.re))))
noncomputable def hide (hiddenR : Schema → AField → AVal → AVal) (hiddenQ : Schema → AField → AVal → Prop) (hideR : Schema → Str → AVal → AVal) (hideQ : Schema → Str → AVal → Prop) (s : Schema) (name : Str) (v : AVal) : Pg AVal :=
  .lt (dMessageP s name) fun (v5 : Message × Bool) =>
    .br (!v5.snd) (.ret v.re)
      (.as (v.Slots.length ≤ 9223372036854775807)
        (.each false ixP v.Slots d_Slot
          (fun (i1 : Int) (a4 : Slot) (y2 : List Slot) =>
            .ix i1 v.Slots.length
              (.lt (dFieldP v5.fst a4.Num) fun (v6 : AField × Bool) =>
                .cut
                  (fun (y3 : Unit) =>
                    .br v6.snd
                      (.ob
                        (hiddenQ s (AField.mk v6.fst.Num v6.fst.Name v6.fst.Card v6.fst.Key v6.fst.Type_ v6.fst.Union v6.fst.HasDefault v6.fst.Default.re v6.fst.Notes) a4.Val.re)
                        (.ob (roomP (y2.length + 1) 136)
                          (.ret
                            (.inl
                              (y2 ++
                                [Slot.mk a4.Num
                                    (hiddenR s (AField.mk v6.fst.Num v6.fst.Name v6.fst.Card v6.fst.Key v6.fst.Type_ v6.fst.Union v6.fst.HasDefault v6.fst.Default.re v6.fst.Notes)
                                        a4.Val.re).re])))))
                      (.ob (roomP (y2.length + 1) 136) (.ret (.inl (y2 ++ [Slot.mk a4.Num a4.Val.re])))))
                  (.br v6.snd
                    (.br (flagP v6.fst.Notes [115, 101, 99, 114, 101, 116])
                      (.br (v6.fst.Card != 1) (.ret (.inr (.inl y2))) (.ret (.inl ()))) (.ret (.inl ())))
                    (.ret (.inl ())))))
          (fun (i1 : Int) (y2 : List Slot) => .ret (AVal.mk v.Kind v.Bits v.Text v.List v.Pairs y2 v.Raws)) []))

def hiddenQ (fu : Nat) (s : Schema) (f : AField) (v : AVal) : Prop := 2 * nV v + 1 < fu ∧ nV v ≤ 1000000
def hideQ (fu : Nat) (s : Schema) (name : Str) (v : AVal) : Prop := 2 * nV v < fu ∧ nV v ≤ 1000000
noncomputable def hidesV : Nat → (Schema → AField → AVal → AVal) × (Schema → Str → AVal → AVal)
  | 0 => (fun _ _ _ => default, fun _ _ _ => default)
  | fu + 1 => (fun s f v => (hidden ((hidesV fu).1) (hiddenQ fu) ((hidesV fu).2) (hideQ fu) s f v).val, fun s name v => (hide ((hidesV fu).1) (hiddenQ fu) ((hidesV fu).2) (hideQ fu) s name v).val)
noncomputable def hiddenP (s : Schema) (f : AField) (v : AVal) : AVal := (hidesV (2 * nV v + 2)).1 s f v
noncomputable def hideP (s : Schema) (name : Str) (v : AVal) : AVal := (hidesV (2 * nV v + 1)).2 s name v
theorem hidden_is (fu : Nat) (s : Schema) (f : AField) (v : AVal) (h : hiddenQ (fu + 1) s f v) : Is (hidden ((hidesV fu).1) (hiddenQ fu) ((hidesV fu).2) (hideQ fu) s f v) :=
  by
  obtain ⟨h1, h2⟩ := h
  have hv := nV_eq v
  have hl := nVs_len v.List
  have hp := nPs_len v.Pairs
  refine is_bne (fun _ => is_ret) (fun _ => is_beq (fun _ => is_ob ⟨by rw [AVal.re_eq]; omega, by rw [AVal.re_eq]; exact h2⟩ (is_ret)) (fun _ => is_beq (fun _ => is_ob (by omega) (is_as fun _ => is_cntI (fun i y => y.length = v.List.length ∧ ∀ k : Nat, i.toNat ≤ k → y.getD k d_AVal = v.List.getD k d_AVal) ⟨rfl, fun _ _ => rfl⟩ (by omega) (by omega) (fun i y2 hi1 hi2 hI => ⟨?_, fun y' hy' => ?_⟩) (fun i y2 _ _ _ => is_ret)))
    (fun _ => is_beq (fun _ => is_ob (by omega) (is_as fun _ => is_cntI (fun i y => y.length = v.Pairs.length ∧ ∀ k : Nat, i.toNat ≤ k → y.getD k d_Pair = v.Pairs.getD k d_Pair) ⟨rfl, fun _ _ => rfl⟩ (by omega) (by omega) (fun i y2 hi1 hi2 hI => ⟨?_, fun y' hy' => ?_⟩) (fun i y2 _ _ _ => is_ret))) (fun _ => is_ret))))
  · have hm := nVs_mem (getD_mem (d := d_AVal) (show i.toNat < v.List.length by omega))
    rw [← hI.2 i.toNat (Nat.le_refl _)] at hm
    exact is_ix (by omega) (by omega) (is_ob (by omega) (is_ob ⟨by rw [AVal.re_eq]; omega, by rw [AVal.re_eq]; omega⟩ (is_ix (by omega) (by omega) (is_ob (by omega) is_ret))))
  · simp only [val_ix, val_ob, val_ret, Sum.inl.injEq] at hy'
    subst hy'
    refine ⟨by rw [List.length_set]; exact hI.1, fun k hk => ?_⟩
    rw [← hI.2 k (by omega)]
    simp only [List.getD, List.getElem?_set_ne (show i.toNat ≠ k by omega)]
  · have hm := nPs_mem (getD_mem (d := d_Pair) (show i.toNat < v.Pairs.length by omega))
    rw [← hI.2 i.toNat (Nat.le_refl _), nP_eq] at hm
    exact is_ix (by omega) (by omega) (is_ob (by omega) (is_ob ⟨by rw [AVal.re_eq]; omega, by rw [AVal.re_eq]; omega⟩ (is_ix (by omega) (by omega) (is_ob (by omega) is_ret))))
  · simp only [val_ix, val_ob, val_ret, Sum.inl.injEq] at hy'
    subst hy'
    refine ⟨by rw [List.length_set]; exact hI.1, fun k hk => ?_⟩
    rw [← hI.2 k (by omega)]
    simp only [List.getD, List.getElem?_set_ne (show i.toNat ≠ k by omega)]
theorem hide_is (fu : Nat) (s : Schema) (name : Str) (v : AVal) (h : hideQ (fu + 1) s name v) : Is (hide ((hidesV fu).1) (hiddenQ fu) ((hidesV fu).2) (hideQ fu) s name v) :=
  by
  obtain ⟨h1, h2⟩ := h
  have hv := nV_eq v
  have hl := nSs_len v.Slots
  refine is_lt fun v5 hv5 => is_br (fun _ => is_ret) (fun _ => is_as fun _ => is_eachI (fun k y => y.length ≤ k) (Nat.le_refl _) (.inr (by omega)) (fun i1 y2 hlt _ hI => ⟨?_, fun y' hy' => ?_⟩) (fun y2 _ _ => is_ret))
  · have hI : y2.length ≤ i1 := hI
    have hm := nSs_mem (getD_mem (d := d_Slot) hlt)
    rw [nS_eq] at hm
    exact is_ix (by omega) (by omega) (is_lt fun v6 hv6 => is_cut (is_br (fun _ => is_br (fun _ => is_bne (fun _ => is_ret) (fun _ => is_ret)) (fun _ => is_ret)) (fun _ => is_ret)) (fun y3 _ => is_br (fun _ => is_ob ⟨by rw [AVal.re_eq]; omega, by rw [AVal.re_eq]; omega⟩ (is_ob (room_of (by omega) (by omega)) is_ret)) (fun _ => is_ob (room_of (by omega) (by omega)) is_ret)))
  · have hI : y2.length ≤ i1 := hI
    show y'.length ≤ i1 + 1
    revert hy'
    simp only [val_ix, val_lt, val_cut, val_br, val_ob, val_ret]
    generalize dFieldP v5.1 (v.Slots.getD i1 d_Slot).Num = q
    cases q.2 <;> cases flagP q.1.Notes [115, 101, 99, 114, 101, 116] <;> cases q.1.Card != 1 <;> simp only [cond_true, cond_false, thenS_inl, thenS_inr] <;> intro e <;> injection e with e <;> subst e <;> (try simp only [List.length_append, List.length_singleton]) <;> omega

theorem hides_ok : ∀ fu, CtOk Z.P Z.S 48 (ctN (args (aCons (aAgg cd_Schema) (aCons (aAgg cd_AField) (a1 (aAgg cd_AVal))))) (shr [.slot 0 true [none, none, none, none, none, none, none]] (l1 cd_AVal)) 1 [] (fun a => some (hiddenQ fu (a.1) (a.2.1) (a.2.2))) (fun a => (hidesV fu).1 (a.1) (a.2.1) (a.2.2))) ∧ CtOk Z.P Z.S 16 (ctN (args (aCons (aAgg cd_Schema) (aCons (aLf cStr) (a1 (aAgg cd_AVal))))) (shr [.slot 0 true [none, none, none, none, none, none, none]] (l1 cd_AVal)) 1 [] (fun a => some (hideQ fu (a.1) (a.2.1) (a.2.2))) (fun a => (hidesV fu).2 (a.1) (a.2.1) (a.2.2)))
  | 0 => ⟨ct_zero Tryz.func48 (by kernel_rfl) (fun a h => absurd h.1 (Nat.not_lt_zero _)),
    ct_zero Tryz.func16 (by kernel_rfl) (fun a h => absurd h.1 (Nat.not_lt_zero _))⟩
  | fu + 1 => by
    obtain ⟨h0, h1⟩ := hides_ok fu
    exact ⟨ct_ofN (fun _ _ => envL_ok (l := [e_cloneV, e_cloneP, ⟨48, _, h0⟩, ⟨16, _, h1⟩])) (J := [jS 9 (shp (fun sl => [.slot 35 false [none], .row (pid (sl 33)) 46]) (lCons (cInt .i64) (l1 cd_LAVal))), jS 16 (shp (fun sl => [.slot 58 false [none], .row (pid (sl 56)) 96]) (lCons (cInt .i64) (l1 cd_LPair)))]) (argsI (n := 75) rfl) inferInstance Tryz.func48 Tryz.ntmps48 (by kernel_rfl) 1 rfl (fun a => hidden ((hidesV fu).1) (hiddenQ fu) ((hidesV fu).2) (hideQ fu) (a.1) (a.2.1) (a.2.2)) _ (fun a e _ => by kernel_rfl) _ (fun a h => ⟨hidden_is fu (a.1) (a.2.1) (a.2.2) h, rfl⟩),
      ct_ofN (fun _ _ => envL_ok (l := [e_dMessage, e_dField, e_flag, ⟨48, _, h0⟩, ⟨16, _, h1⟩])) (J := [jS 6 (shp (fun sl => [.slot 26 false [none], .slot 9 false [some 78]]) (lCons (cInt .i64) (l1 cd_LSlot))), jS 100010 (shp (fun sl => []) l0)]) (argsI (n := 63) rfl) inferInstance Tryz.func16 Tryz.ntmps16 (by kernel_rfl) 1 rfl (fun a => hide ((hidesV fu).1) (hiddenQ fu) ((hidesV fu).2) (hideQ fu) (a.1) (a.2.1) (a.2.2)) _ (fun a e _ => by kernel_rfl) _ (fun a h => ⟨hide_is fu (a.1) (a.2.1) (a.2.2) h, rfl⟩)⟩
noncomputable def e_hidden : Ent Z := ⟨48, ctN (args (aCons (aAgg cd_Schema) (aCons (aAgg cd_AField) (a1 (aAgg cd_AVal))))) (shr [.slot 0 true [none, none, none, none, none, none, none]] (l1 cd_AVal)) 1 [] (fun a => some (nV (a.2.2) ≤ 1000000)) (fun a => hiddenP (a.1) (a.2.1) (a.2.2)), ctFam_ok (fun n => ((hides_ok n).1)) _ _ (fun a h => ⟨2 * nV (a.2.2) + 2, ⟨Nat.lt_succ_self _, h⟩, rfl⟩)⟩
noncomputable def e_hide : Ent Z := ⟨16, ctN (args (aCons (aAgg cd_Schema) (aCons (aLf cStr) (a1 (aAgg cd_AVal))))) (shr [.slot 0 true [none, none, none, none, none, none, none]] (l1 cd_AVal)) 1 [] (fun a => some (nV (a.2.2) ≤ 1000000)) (fun a => hideP (a.1) (a.2.1) (a.2.2)), ctFam_ok (fun n => ((hides_ok n).2)) _ _ (fun a h => ⟨2 * nV (a.2.2) + 1, ⟨Nat.lt_succ_self _, h⟩, rfl⟩)⟩

end Go.Proofs.YtemjcccdcnhmhaaGreatDoor
