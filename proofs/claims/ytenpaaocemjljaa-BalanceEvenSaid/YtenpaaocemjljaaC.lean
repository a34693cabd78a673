/-
  Balance: Check.
-/
import Derived.Test.YtenpaaocemjljaaB
namespace Go.Proofs.Ytenpaaocemjljaa
open Go.RowKit Go.Vc
set_option linter.unusedVariables false
set_option linter.unusedSimpArgs false
set_option maxRecDepth 100000


theorem bl_total : ∀ a b : Str, (Op.bytesLess a b || a == b) = !Op.bytesLess b a
  | [], [] => rfl
  | [], _ :: _ => rfl
  | _ :: _, [] => rfl
  | a :: x, b :: y => by
    have ih := bl_total x y
    simp only [Op.bytesLess]
    by_cases h1 : a < b
    · have h2 : ¬ b < a := fun h => absurd (UInt8.lt_trans h1 h) (UInt8.lt_irrefl a)
      have h3 : b ≠ a := fun h => by rw [h] at h1; exact absurd h1 (UInt8.lt_irrefl a)
      simp [h1, h2, h3]
    · by_cases h2 : b < a
      · have h3 : a ≠ b := fun h => by rw [h] at h2; exact absurd h2 (UInt8.lt_irrefl b)
        simp [h1, h2, h3]
      · have h3 : a = b := by
          rw [UInt8.lt_iff_toNat_lt] at h1 h2
          exact UInt8.toNat_inj.1 (by omega)
        subst h3
        simp only [h1, decide_false, Bool.false_or, beq_self_eq_true, Bool.true_and]
        rw [← ih]
        simp
def Fine (b : Backend) : Prop := (0 ≤ b.Load ∧ b.Load ≤ 1000000) ∧ (0 ≤ b.Busy ∧ b.Busy ≤ 1000000) ∧ (0 ≤ b.Fails ∧ b.Fails ≤ 1000000) ∧ (1 ≤ b.Weight ∧ b.Weight ≤ 100) ∧ 0 ≤ b.Out ∧ b.Out ≤ 2199023255552
instance (b : Backend) : Decidable (Fine b) := by unfold Fine; infer_instance
def chkAt (l : List Backend) (i : Nat) : Option Int :=
  if nameB (l.getD i d_Backend).Name = false then some 8
  else if 0 < i ∧ Op.bytesLess (l.getD (i - 1) d_Backend).Name (l.getD i d_Backend).Name = false then some 11
  else if Fine (l.getD i d_Backend) then none else some 1
def chk (l : List Backend) : Int := if l.length ≤ 8 then firstR (chkAt l) 0 l.length 0 else 3


def as_check : ArgShp D := args (a1 (aLf cd_LBackend))
theorem as_check_ok : ArgOk S as_check 0 72 := args_ok (a1_ok (aLf_ok cd_LBackend_ok)) rfl
def rs_check : Shp D := shr [.slot 0 false [none]] (l1 (cInt .i64))
theorem rs_check_ok : ShpOk S rs_check := shr_ok (l1_ok (cInt_ok _))
def jt_check : List (Nat × Shp D) := [(4, shp (fun sl => [.slot 10 false [none]]) (l1 (cInt .i64)))]
def j_check : Nat → Option (Shp D) := lk jt_check
theorem j_check_ok : ∀ i sh, j_check i = some sh → ShpOk S sh := by
  intro i sh h
  have := lk_mem h
  simp only [jt_check, List.mem_cons, Prod.mk.injEq, List.not_mem_nil, or_false] at this
  rcases this with ⟨_, rfl⟩
  · exact shp_ok (l1_ok (cInt_ok _))
noncomputable def gt_check : List (Nat × Ct D) := [(27, ct_named), (28, ct_count)]
noncomputable def g_check : FuncId → Option (Ct D) := lk gt_check
theorem g_check_ok : ∀ f ct, g_check f = some ct → CtOk Try.prog S f ct := by
  intro f ct h
  have := lk_mem h
  simp only [gt_check, List.mem_cons, Prod.mk.injEq, List.not_mem_nil, or_false] at this
  rcases this with ⟨rfl, rfl⟩ | ⟨rfl, rfl⟩
  · exact ct_named_ok
  · exact ct_count_ok
noncomputable def check_s1 (l : List Backend) (x1 : Int) : Option (Int ⊕ Int) :=
  bif decide (x1 < (↑l.length : Int)) then
    need ((0 : Int) ≤ x1 ∧ x1 < (↑l.length : Int))
      (bif !nameB (l.getD x1.toNat d_Backend).Name then some (Sum.inr (8 : Int))
      else
        bif decide ((0 : Int) < x1) then
          need (InR IntKind.i64 (x1 - (1 : Int)))
            (need ((0 : Int) ≤ x1 - (1 : Int) ∧ x1 - (1 : Int) < (↑l.length : Int))
              (bif
                  Op.bytesLess (l.getD x1.toNat d_Backend).Name (l.getD (x1 - (1 : Int)).toNat d_Backend).Name ||
                    (l.getD x1.toNat d_Backend).Name == (l.getD (x1 - (1 : Int)).toNat d_Backend).Name then
                some (Sum.inr (11 : Int))
              else
                bif !(decide ((0 : Int) ≤ (l.getD x1.toNat d_Backend).Load) && decide ((l.getD x1.toNat d_Backend).Load ≤ (1000000 : Int))) then some (Sum.inr (1 : Int))
                else
                  bif !(decide ((0 : Int) ≤ (l.getD x1.toNat d_Backend).Busy) && decide ((l.getD x1.toNat d_Backend).Busy ≤ (1000000 : Int))) then some (Sum.inr (1 : Int))
                  else
                    bif !(decide ((0 : Int) ≤ (l.getD x1.toNat d_Backend).Fails) && decide ((l.getD x1.toNat d_Backend).Fails ≤ (1000000 : Int))) then some (Sum.inr (1 : Int))
                    else
                      bif decide ((l.getD x1.toNat d_Backend).Weight < (1 : Int)) then some (Sum.inr (1 : Int))
                      else
                        bif decide ((100 : Int) < (l.getD x1.toNat d_Backend).Weight) then some (Sum.inr (1 : Int))
                        else
                          bif decide ((l.getD x1.toNat d_Backend).Out < (0 : Int)) then some (Sum.inr (1 : Int))
                          else
                            bif decide ((2199023255552 : Int) < (l.getD x1.toNat d_Backend).Out) then some (Sum.inr (1 : Int))
                            else need (InR IntKind.i64 (x1 + (1 : Int))) (some (Sum.inl (x1 + (1 : Int))))))
        else
          bif !(decide ((0 : Int) ≤ (l.getD x1.toNat d_Backend).Load) && decide ((l.getD x1.toNat d_Backend).Load ≤ (1000000 : Int))) then some (Sum.inr (1 : Int))
          else
            bif !(decide ((0 : Int) ≤ (l.getD x1.toNat d_Backend).Busy) && decide ((l.getD x1.toNat d_Backend).Busy ≤ (1000000 : Int))) then some (Sum.inr (1 : Int))
            else
              bif !(decide ((0 : Int) ≤ (l.getD x1.toNat d_Backend).Fails) && decide ((l.getD x1.toNat d_Backend).Fails ≤ (1000000 : Int))) then some (Sum.inr (1 : Int))
              else
                bif decide ((l.getD x1.toNat d_Backend).Weight < (1 : Int)) then some (Sum.inr (1 : Int))
                else
                  bif decide ((100 : Int) < (l.getD x1.toNat d_Backend).Weight) then some (Sum.inr (1 : Int))
                  else
                    bif decide ((l.getD x1.toNat d_Backend).Out < (0 : Int)) then some (Sum.inr (1 : Int))
                    else
                      bif decide ((2199023255552 : Int) < (l.getD x1.toNat d_Backend).Out) then some (Sum.inr (1 : Int))
                      else need (InR IntKind.i64 (x1 + (1 : Int))) (some (Sum.inl (x1 + (1 : Int)))))
  else some (Sum.inr (0 : Int))
noncomputable def check (l : List Backend) : Option Int :=
  bif decide ((8 : Int) < (↑l.length : Int)) then some (3 : Int) else loopU (check_s1 l) (0 : Int)
theorem check_run (l : List Backend) : check l = (evC T S g_check 72 j_check (Try.f12.body.getD .skip) rs_check.X (St.init (as_check.enc (l)).1 (as_check.enc (l)).2) (retL T S Try.f12.results.toList rs_check 0 [])).run := by kernel_rfl

def as_rcheck : ArgShp D := args (a1 (aLf cd_LBackend))
theorem as_rcheck_ok : ArgOk S as_rcheck 0 83 := args_ok (a1_ok (aLf_ok cd_LBackend_ok)) rfl
def rs_rcheck : Shp D := shr [.slot 0 false [none]] (l1 (cInt .i64))
theorem rs_rcheck_ok : ShpOk S rs_rcheck := shr_ok (l1_ok (cInt_ok _))
def jt_rcheck : List (Nat × Shp D) := [(4, shp (fun sl => [.slot 3 false [none]]) (l1 (cInt .i64))), (100011, shp (fun sl => []) l0)]
def j_rcheck : Nat → Option (Shp D) := lk jt_rcheck
theorem j_rcheck_ok : ∀ i sh, j_rcheck i = some sh → ShpOk S sh := by
  intro i sh h
  have := lk_mem h
  simp only [jt_rcheck, List.mem_cons, Prod.mk.injEq, List.not_mem_nil, or_false] at this
  rcases this with ⟨_, rfl⟩ | ⟨_, rfl⟩
  · exact shp_ok (l1_ok (cInt_ok _))
  · exact shp_ok l0_ok
noncomputable def gt_rcheck : List (Nat × Ct D) := [(29, ct_isName)]
noncomputable def g_rcheck : FuncId → Option (Ct D) := lk gt_rcheck
theorem g_rcheck_ok : ∀ f ct, g_rcheck f = some ct → CtOk Try.prog S f ct := by
  intro f ct h
  have := lk_mem h
  simp only [gt_rcheck, List.mem_cons, Prod.mk.injEq, List.not_mem_nil, or_false] at this
  rcases this with ⟨rfl, rfl⟩
  · exact ct_isName_ok
noncomputable def rcheck_s1 (l : List Backend) (x1 : Int) : Option (Unit ⊕ Int ⊕ Int) :=
  bif decide ((0 : Int) < x1) then
    need (InR IntKind.i64 (x1 - (1 : Int)))
      (need ((0 : Int) ≤ x1 - (1 : Int) ∧ x1 - (1 : Int) < (↑l.length : Int))
        (bif !Op.bytesLess (l.getD (x1 - (1 : Int)).toNat d_Backend).Name (l.getD x1.toNat d_Backend).Name then some (Sum.inr (Sum.inr (11 : Int))) else some (Sum.inl ())))
  else some (Sum.inl ())
noncomputable def rcheck_s2 (l : List Backend) (x1 : Int) (y2 : Unit) : Option (Int ⊕ Int) :=
  bif decide ((l.getD x1.toNat d_Backend).Load < (0 : Int)) then some (Sum.inr (1 : Int))
  else
    bif decide ((1000000 : Int) < (l.getD x1.toNat d_Backend).Load) then some (Sum.inr (1 : Int))
    else
      bif decide ((l.getD x1.toNat d_Backend).Busy < (0 : Int)) then some (Sum.inr (1 : Int))
      else
        bif decide ((1000000 : Int) < (l.getD x1.toNat d_Backend).Busy) then some (Sum.inr (1 : Int))
        else
          bif decide ((l.getD x1.toNat d_Backend).Fails < (0 : Int)) then some (Sum.inr (1 : Int))
          else
            bif decide ((1000000 : Int) < (l.getD x1.toNat d_Backend).Fails) then some (Sum.inr (1 : Int))
            else
              bif decide ((l.getD x1.toNat d_Backend).Weight < (1 : Int)) then some (Sum.inr (1 : Int))
              else
                bif decide ((100 : Int) < (l.getD x1.toNat d_Backend).Weight) then some (Sum.inr (1 : Int))
                else
                  bif decide ((l.getD x1.toNat d_Backend).Out < (0 : Int)) then some (Sum.inr (1 : Int))
                  else
                    bif decide ((2199023255552 : Int) < (l.getD x1.toNat d_Backend).Out) then some (Sum.inr (1 : Int))
                    else need (InR IntKind.i64 (x1 + (1 : Int))) (some (Sum.inl (x1 + (1 : Int))))
noncomputable def rcheck_s3 (l : List Backend) (x1 : Int) : Option (Int ⊕ Int) :=
  bif decide (x1 < (↑l.length : Int)) then
    need ((0 : Int) ≤ x1 ∧ x1 < (↑l.length : Int)) (bif !nameB (l.getD x1.toNat d_Backend).Name then some (Sum.inr (8 : Int)) else bindS (rcheck_s1 l x1) (rcheck_s2 l x1))
  else some (Sum.inr (0 : Int))
noncomputable def rcheck (l : List Backend) : Option Int :=
  bif decide ((8 : Int) < (↑l.length : Int)) then some (3 : Int) else loopU (rcheck_s3 l) (0 : Int)
theorem rcheck_run (l : List Backend) : rcheck l = (evC T S g_rcheck 83 j_rcheck (Try.f13.body.getD .skip) rs_rcheck.X (St.init (as_rcheck.enc (l)).1 (as_rcheck.enc (l)).2) (retL T S Try.f13.results.toList rs_rcheck 0 [])).run := by kernel_rfl


theorem args_of (b : Backend) {R : Type} (x y : Option R) :
    (bif !(decide (0 ≤ b.Load) && decide (b.Load ≤ 1000000)) then x else bif !(decide (0 ≤ b.Busy) && decide (b.Busy ≤ 1000000)) then x else bif !(decide (0 ≤ b.Fails) && decide (b.Fails ≤ 1000000)) then x
      else bif decide (b.Weight < 1) then x else bif decide (100 < b.Weight) then x else bif decide (b.Out < 0) then x else bif decide (2199023255552 < b.Out) then x else y) = if Fine b then y else x := by
  by_cases hf : Fine b
  · rw [if_pos hf]
    unfold Fine at hf
    simp only [Bool.cond_eq_ite, decide_eq_true_eq, Bool.not_eq_true', Bool.and_eq_false_iff, decide_eq_false_iff_not]
    repeat' split
    all_goals first | rfl | (exfalso; omega)
  · rw [if_neg hf]
    unfold Fine at hf
    simp only [Bool.cond_eq_ite, decide_eq_true_eq, Bool.not_eq_true', Bool.and_eq_false_iff, decide_eq_false_iff_not]
    repeat' split
    all_goals first | rfl | (exfalso; omega)
theorem args_of' (b : Backend) {R : Type} (x y : Option R) :
    (bif decide (b.Load < 0) then x else bif decide (1000000 < b.Load) then x else bif decide (b.Busy < 0) then x else bif decide (1000000 < b.Busy) then x else bif decide (b.Fails < 0) then x else bif decide (1000000 < b.Fails) then x
      else bif decide (b.Weight < 1) then x else bif decide (100 < b.Weight) then x else bif decide (b.Out < 0) then x else bif decide (2199023255552 < b.Out) then x else y) = if Fine b then y else x := by
  by_cases hf : Fine b
  · rw [if_pos hf]
    unfold Fine at hf
    simp only [Bool.cond_eq_ite, decide_eq_true_eq]
    repeat' split
    all_goals first | rfl | (exfalso; omega)
  · rw [if_neg hf]
    unfold Fine at hf
    simp only [Bool.cond_eq_ite, decide_eq_true_eq]
    repeat' split
    all_goals first | rfl | (exfalso; omega)
theorem check_at (l : List Backend) (i : Nat) (hi : i < l.length) (hl : l.length ≤ 8) : check_s1 l i = some (orGo (chkAt l i) ((i + 1 : Nat) : Int)) := by
  have hi' : (i : Int) < l.length := by omega
  have h0 : (0 : Int) ≤ i := by omega
  have hr : InR .i64 ((i : Int) + 1) := by simp only [InR]; omega
  unfold check_s1 chkAt
  simp only [hi', h0, hr, and_self, need_true, decide_true, cond_true, Int.toNat_natCast, args_of]
  generalize l.getD i d_Backend = b
  cases nameB b.Name with
  | false => rfl
  | true =>
    by_cases hp : 0 < i
    · have hp' : (0 : Int) < i := by omega
      have e : ((i : Int) - 1).toNat = i - 1 := by omega
      have h1 : InR .i64 ((i : Int) - 1) := by simp only [InR]; omega
      have h2 : 0 ≤ (i : Int) - 1 := by omega
      have h3 : (i : Int) - 1 < l.length := by omega
      simp only [hp, hp', e, h1, h2, h3, and_self, need_true, decide_true, cond_true, bl_total, true_and]
      generalize (l.getD (i - 1) d_Backend).Name = q
      cases Op.bytesLess q b.Name with
      | false => rfl
      | true =>
        by_cases hf : Fine b
        · simp [hf, orGo]
        · simp [hf, orGo]
    · have hp' : ¬ (0 : Int) < i := by omega
      simp only [hp, hp', decide_false, cond_false, false_and, if_false]
      by_cases hf : Fine b
      · simp [hf, orGo]
      · simp [hf, orGo]
theorem rcheck_at (l : List Backend) (i : Nat) (hi : i < l.length) (hl : l.length ≤ 8) : rcheck_s3 l i = some (orGo (chkAt l i) ((i + 1 : Nat) : Int)) := by
  have hi' : (i : Int) < l.length := by omega
  have h0 : (0 : Int) ≤ i := by omega
  have hr : InR .i64 ((i : Int) + 1) := by simp only [InR]; omega
  unfold rcheck_s3 chkAt rcheck_s1 rcheck_s2
  simp only [hi', h0, hr, and_self, need_true, decide_true, cond_true, Int.toNat_natCast, args_of']
  generalize l.getD i d_Backend = b
  cases nameB b.Name with
  | false => rfl
  | true =>
    by_cases hp : 0 < i
    · have hp' : (0 : Int) < i := by omega
      have e : ((i : Int) - 1).toNat = i - 1 := by omega
      have h1 : InR .i64 ((i : Int) - 1) := by simp only [InR]; omega
      have h2 : 0 ≤ (i : Int) - 1 := by omega
      have h3 : (i : Int) - 1 < l.length := by omega
      simp only [hp, hp', e, h1, h2, h3, and_self, need_true, decide_true, cond_true, true_and]
      generalize (l.getD (i - 1) d_Backend).Name = q
      cases Op.bytesLess q b.Name with
      | false => rfl
      | true =>
        by_cases hf : Fine b
        · simp [hf, bindS, orGo]
        · simp [hf, bindS, orGo]
    · have hp' : ¬ (0 : Int) < i := by omega
      simp only [hp, hp', decide_false, cond_false, false_and, if_false]
      by_cases hf : Fine b
      · simp [hf, bindS, orGo]
      · simp [hf, bindS, orGo]
theorem check_eq (l : List Backend) : check l = some (chk l) := by
  unfold check chk
  by_cases h : l.length ≤ 8
  · have h' : ¬ (8 : Int) < l.length := by omega
    simp only [h, h', decide_false, cond_false, if_true]
    exact loop_first0 (fun i hi => check_at l i hi h) (by unfold check_s1; simp)
  · have h' : (8 : Int) < l.length := by omega
    simp [h, h']
theorem rcheck_eq (l : List Backend) : rcheck l = some (chk l) := by
  unfold rcheck chk
  by_cases h : l.length ≤ 8
  · have h' : ¬ (8 : Int) < l.length := by omega
    simp only [h, h', decide_false, cond_false, if_true]
    exact loop_first0 (fun i hi => rcheck_at l i hi h) (by unfold rcheck_s3; simp)
  · have h' : (8 : Int) < l.length := by omega
    simp [h, h']
/-- Backends that are valid. -/
structure Valid (l : List Backend) : Prop where
  len : l.length ≤ 8
  fine : ∀ b ∈ l, Fine b
theorem chk_valid {l : List Backend} (h : chk l = 0) : Valid l ∧ ∀ i, i < l.length → chkAt l i = none := by
  unfold chk at h
  split at h
  · rename_i hl
    have key := firstR_end (f := chkAt l) (r0 := 0) (fun j hj => by
      unfold chkAt at hj
      repeat' split at hj
      all_goals first | (injection hj with hj; exact absurd hj (by decide)) | cases hj) l.length 0 h
    have at_ : ∀ i, i < l.length → chkAt l i = none := fun i hi => key i (by omega) (by omega)
    refine ⟨⟨hl, fun b hb => ?_⟩, at_⟩
    obtain ⟨i, hi, rfl⟩ := List.getElem_of_mem hb
    have := at_ i hi
    unfold chkAt at this
    rw [show l.getD i d_Backend = l[i] by simp [List.getD, hi]] at this
    repeat' split at this
    all_goals first | assumption | cases this
  · cases h
theorem valid_chk {l : List Backend} (hl : l.length ≤ 8) (h : ∀ i, i < l.length → chkAt l i = none) : chk l = 0 := by
  unfold chk
  rw [if_pos hl]
  exact firstR_none _ _ fun j _ hj => h j (by omega)


noncomputable def ct_check : Ct D := ctN as_check rs_check 1 [] (fun a => none) (fun a => (fun (l : List Backend) => (chk l : Int)) (a))
theorem ct_check_ok : CtOk Try.prog S 12 ct_check :=
  fn_okN mixed T_ok g_check_ok S_ok j_check_ok Try.func12 rfl (by kernel_rfl) Try.ntmps12 rfl (by kernel_rfl) as_check_ok rs_check_ok (fun a => none) (fun a => (fun (l : List Backend) => (chk l : Int)) (a))
    (fun a h => (check_run (a)).symm.trans (check_eq (a)))

noncomputable def ct_rcheck : Ct D := ctN as_rcheck rs_rcheck 1 [] (fun a => none) (fun a => (fun (l : List Backend) => (chk l : Int)) (a))
theorem ct_rcheck_ok : CtOk Try.prog S 13 ct_rcheck :=
  fn_okN mixed T_ok g_rcheck_ok S_ok j_rcheck_ok Try.func13 rfl (by kernel_rfl) Try.ntmps13 rfl (by kernel_rfl) as_rcheck_ok rs_rcheck_ok (fun a => none) (fun a => (fun (l : List Backend) => (chk l : Int)) (a))
    (fun a h => (rcheck_run (a)).symm.trans (rcheck_eq (a)))
end Go.Proofs.Ytenpaaocemjljaa
