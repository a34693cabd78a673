/-
  Intercept: the law InterceptHidden, plainly.
-/
import Derived.Test.YtemjcccdcnhmhaaGreatDoorZe
namespace Go.Proofs.YtemjcccdcnhmhaaGreatDoor
open Go.RowKit Go.Vc
set_option linter.unusedVariables false
set_option linter.unusedSimpArgs false
set_option maxRecDepth 100000

mutual
theorem nm_V : ∀ v : AVal, nV v ≤ mV v
  | .mk _ _ _ l p s r => by have := nm_Vs l; have := nm_Ps p; have := nm_Ss s; simp only [nV, mV]; omega
theorem nm_Vs : ∀ l : List AVal, nVs l ≤ mVs l
  | [] => by simp [nVs]
  | x :: l => by have := nm_V x; have := nm_Vs l; simp only [nVs, mVs]; omega
theorem nm_P : ∀ x : Pair, nP x ≤ mP x
  | .mk k v => by have := nm_V k; have := nm_V v; simp only [nP, mP]; omega
theorem nm_Ps : ∀ l : List Pair, nPs l ≤ mPs l
  | [] => by simp [nPs]
  | x :: l => by have := nm_P x; have := nm_Ps l; simp only [nPs, mPs]; omega
theorem nm_S : ∀ x : Slot, nS x ≤ mS x
  | .mk _ v => by have := nm_V v; simp only [nS, mS]; omega
theorem nm_Ss : ∀ l : List Slot, nSs l ≤ mSs l
  | [] => by simp [nSs]
  | x :: l => by have := nm_S x; have := nm_Ss l; simp only [nSs, mSs]; omega
end
theorem valued_valid (s : Schema) (name : Str) (v : AVal) (h : valuedP s name v = true) : c12validP s = true := by
  unfold valuedP valued at h
  simp only [val_ret, val_br, val_ob, AVal.re_eq] at h
  cases h0 : decide ((↑(List.length name) : Int) ≤ 300) <;> rw [h0] at h <;> simp only [cond_false, cond_true] at h
  · cases h
  cases h1 : c12smallP s <;> rw [h1] at h <;> simp only [cond_false, cond_true] at h
  · cases h
  cases h2 : c12validP s <;> rw [h2] at h <;> simp only [cond_false, cond_true] at h
  · cases h
theorem hidden_size (s : Schema) (name : Str) (v : AVal) (h : valuedP s name v = true) : mV (hideP s name v) ≤ 500 := by
  obtain ⟨hf, hc, _⟩ := valued_parts s name v h
  obtain ⟨h1, _, _⟩ := check_parts s name v hc
  have h5 := few_mok v hf
  have h6 := (m_hF (nV v) v (Nat.le_refl _)).2 s (r14msgP s name).1
  have h7 := mV_eq v
  rw [hideP_eq, hT_eq s name v h1, mV_eq (.mk ..)]
  show mVs v.List + mPs v.Pairs + mSs (hSs s (r14msgP s name).1 v.Slots) + v.Raws.length + 1 ≤ 500
  omega
theorem law7_eq (s : Schema) (name : Str) (v : AVal) : (law7 s name v).val = true := by
  unfold law7
  simp only [val_ret, val_br, val_ob, val_lt, val_cut, AVal.re_eq]
  cases hv : valuedP s name v with
  | false => rfl
  | true =>
    obtain ⟨hf, hc, _⟩ := valued_parts s name v hv
    obtain ⟨h1, h2, _⟩ := check_parts s name v hc
    have hr := req_ok s (valued_valid s name v hv)
    have hz := hidden_size s name v hv
    obtain ⟨o1, o2⟩ := hid_open (nV v) v (Nat.le_refl _) (4 * nV v + 1) s (r14msgP s name).1 1 (by omega) h2
    have ck := fun fc' => hid_check s hr (nV v) v (Nat.le_refl _) fc' (4 * nV v + 1) (r14msgP s name).1 1 (hr name) (by omega) h2
    have ew : hideP s name v = .mk v.Kind v.Bits v.Text v.List v.Pairs (hSs s (r14msgP s name).1 v.Slots) v.Raws := by rw [hideP_eq, hT_eq s name v h1]
    generalize hw : hideP s name v = w at ew hz ⊢
    have c0 : c17checkP s name w = 0 := by
      unfold c17checkP c17check c17examP c17exam
      simp only [val_ret, val_lt, val_br, AVal.re_eq, h1, Bool.not_true, cond_false]
      have e1 : c17msgP s (r14msgP s name).1 w 1 true = 0 := by
        show ckM (4 * nV w + 1) s (r14msgP s name).1 w 1 true = 0
        have := ck (4 * nV w + 1)
        rw [← ew] at this
        exact this
      have e2 : c17countP w = mV w := count_eq (nV w + 1) w (Nat.lt_succ_self _) hz
      rw [e1, e2, decide_eq_false (show ¬ ((4096 : Int) < (mV w : Int)) by omega)]
      rfl
    have lw : lopenP s name w = false := by
      rw [lopenP_eq, ew]
      exact o1
    have hh : hideP s name w = w := by
      obtain ⟨_, p2⟩ := hid_open (nV w) w (Nat.le_refl _) (4 * nV w + 1) s (r14msgP s name).1 1 (by omega) (by have := ck (4 * nV w + 1); rw [← ew] at this; exact this)
      rw [lopenP_eq] at lw
      rw [hideP_eq, hT_eq s name w h1, p2 lw, AVal.eta]
    rw [c0, lw, hh, sameP_refl]
    cases hl : lopenP s name v with
    | true => rfl
    | false =>
      rw [lopenP_eq] at hl
      have : w = v := by rw [ew, o2 hl, AVal.eta]
      rw [this, sameP_refl]
      rfl


theorem law7_is (s : Schema) (name : Str) (v : AVal) (h : bigS s) : Is (law7 s name v) :=
  by
  refine is_ob h (is_br (fun _ => is_ret) (fun hb => ?_))
  have hv : valuedP s name v = true := by simpa using hb
  have hn := few_ok2 v (valued_parts s name v hv).1
  have h1 : nV v.re ≤ 1000000 := by rw [AVal.re_eq]; omega
  refine is_ob h1 (is_lt fun v2 hv2 => ?_)
  have h2 : nV v2.re ≤ 1000000 := by
    rw [hv2, AVal.re_eq, AVal.re_eq]
    have := nm_V (hideP s name v)
    have := hidden_size s name v hv
    omega
  exact is_cut (is_br (fun _ => is_br (fun _ => is_ret) (fun _ => is_ret)) (fun _ => is_ret)) (fun y1 hy1 => is_beq (fun _ => is_br (fun _ => is_ob h2 (is_br (fun _ => is_ret) (fun _ => is_ret))) (fun _ => is_ret)) (fun _ => is_ret))
noncomputable def e_law7 : Ent Z := entN Z [e_awake, e_valued, e_c17same, e_hide, e_lopen, e_c17check] [jS 100006 (shp (fun sl => []) l0)] (args (aCons (aAgg cd_Schema) (aCons (aLf cStr) (a1 (aAgg cd_AVal))))) (argsI (n := 52) rfl) (shr [.slot 0 false [none]] (l1 cBool)) [] Tryz.func6 Tryz.ntmps6 (by kernel_rfl) 1 rfl (fun a => law7 (a.1) (a.2.1) (a.2.2)) (fun a => some (bigS (a.1))) (fun a e _ => by kernel_rfl) (fun a => true) (fun a h => ⟨law7_is (a.1) (a.2.1) (a.2.2) h, (fun s name v _ => law7_eq s name v) (a.1) (a.2.1) (a.2.2) h⟩)
end Go.Proofs.YtemjcccdcnhmhaaGreatDoor
