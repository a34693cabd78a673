/-
  Balance: Spread, and the laws.
-/
import Derived.Test.YtenpaaocemjljaaF
namespace Go.Proofs.Ytenpaaocemjljaa
open Go.RowKit Go.Vc
set_option linter.unusedVariables false
set_option linter.unusedSimpArgs false
set_option maxRecDepth 100000


/-! The order of Pick -/
theorem cross {a b c u v w : Int} (hu : 0 < u) (hv : 0 < v) (hw : 0 < w) (h1 : a * v ≤ b * u) (h2 : b * w ≤ c * v) : a * w ≤ c * u ∧ (a * v < b * u ∨ b * w < c * v → a * w < c * u) := by
  have q1 : a * v * w ≤ b * u * w := Int.mul_le_mul_of_nonneg_right h1 (by omega)
  have q2 : b * w * u ≤ c * v * u := Int.mul_le_mul_of_nonneg_right h2 (by omega)
  have e1 : a * w * v = a * v * w := by rw [Int.mul_assoc, Int.mul_comm w v, Int.mul_assoc]
  have e2 : b * u * w = b * w * u := by rw [Int.mul_assoc, Int.mul_comm u w, Int.mul_assoc]
  have e3 : c * u * v = c * v * u := by rw [Int.mul_assoc, Int.mul_comm u v, Int.mul_assoc]
  refine ⟨Int.le_of_mul_le_mul_right (a := v) (by omega) hv, fun h => ?_⟩
  refine Int.lt_of_mul_lt_mul_right (a := v) ?_ (by omega)
  rcases h with h | h
  · have := Int.mul_lt_mul_of_pos_right h hw
    omega
  · have := Int.mul_lt_mul_of_pos_right h hu
    omega
theorem less_iff (a b : Backend) : lessB a b = true ↔ (a.Busy + a.Load) * b.Weight < (b.Busy + b.Load) * a.Weight ∨ ((a.Busy + a.Load) * b.Weight = (b.Busy + b.Load) * a.Weight ∧ a.Busy < b.Busy) := by
  unfold lessB
  simp only [Bool.or_eq_true, Bool.and_eq_true, decide_eq_true_eq, beq_iff_eq]
theorem less_trans {a b c : Backend} (ha : Fine a) (hb : Fine b) (hc : Fine c) (h1 : lessB a b = true) (h2 : lessB b c = true) : lessB a c = true := by
  rw [less_iff] at *
  unfold Fine at ha hb hc
  have key := cross (a := a.Busy + a.Load) (b := b.Busy + b.Load) (c := c.Busy + c.Load) (u := a.Weight) (v := b.Weight) (w := c.Weight) (by omega) (by omega) (by omega) (by omega) (by omega)
  generalize (a.Busy + a.Load) * b.Weight = x1 at *
  generalize (b.Busy + b.Load) * a.Weight = x2 at *
  generalize (b.Busy + b.Load) * c.Weight = x3 at *
  generalize (c.Busy + c.Load) * b.Weight = x4 at *
  generalize (a.Busy + a.Load) * c.Weight = x5 at *
  generalize (c.Busy + c.Load) * a.Weight = x6 at *
  omega
theorem less_irrefl (a : Backend) : lessB a a = false := by
  cases h : lessB a a with
  | false => rfl
  | true => rw [less_iff] at h; omega
theorem pickB_trans {now : Int} {a b c : Backend} (ha : Fine a) (hb : Fine b) (hc : Fine c) (h1 : pickB now a b = true) (h2 : pickB now b c = true) : pickB now a c = true := by
  unfold pickB at *
  have ht := @less_trans a b c ha hb hc
  revert h1 h2 ht
  cases decide (a.Out ≤ now) <;> cases decide (b.Out ≤ now) <;> cases decide (c.Out ≤ now) <;> cases lessB a b <;> cases lessB b c <;> cases lessB a c <;> simp
theorem pickB_irrefl (now : Int) (a : Backend) : pickB now a a = false := by
  unfold pickB
  rw [bne_self_eq_false]
  exact less_irrefl a
/-- What is chosen is least. -/
theorem pick_least (l : List Backend) (now : Int) (h : ∀ k, k < l.length → Fine (l.getD k d_Backend)) : ∀ k, k ≤ l.length → 0 < k → let A := foldI (pickI (pickB now) l) k 0 (-1); 0 ≤ A ∧ A < k ∧ ∀ j, j < k → pickB now (l.getD j d_Backend) (l.getD A.toNat d_Backend) = false
  | 0, _, h0 => absurd h0 (by omega)
  | k + 1, hk, _ => by
    dsimp only
    rw [foldI_succ, Nat.zero_add]
    by_cases h0 : 0 < k
    · obtain ⟨a1, a2, a3⟩ := pick_least l now h k (by omega) h0
      generalize foldI (pickI (pickB now) l) k 0 (-1) = A at *
      have hA : ¬ A < 0 := by omega
      have hA' : A.toNat < l.length := by omega
      cases hx : pickB now (l.getD k d_Backend) (l.getD A.toNat d_Backend) with
      | true =>
        have e : pickI (pickB now) l k A = k := by simp only [pickI, hA, hx, decide_false, cond_false, cond_true]
        rw [e]
        refine ⟨by omega, by omega, fun j hj => ?_⟩
        rw [show ((k : Int)).toNat = k by omega]
        by_cases hjk : j = k
        · subst hjk
          exact pickB_irrefl _ _
        · cases hy : pickB now (l.getD j d_Backend) (l.getD k d_Backend) with
          | false => rfl
          | true =>
            have := pickB_trans (h j (by omega)) (h k (by omega)) (h _ hA') hy hx
            rw [a3 j (by omega)] at this
            cases this
      | false =>
        have e : pickI (pickB now) l k A = A := by simp only [pickI, hA, hx, decide_false, cond_false]
        rw [e]
        refine ⟨a1, by omega, fun j hj => ?_⟩
        by_cases hjk : j = k
        · subst hjk
          exact hx
        · exact a3 j (by omega)
    · have hk0 : k = 0 := by omega
      subst hk0
      have e : pickI (pickB now) l 0 (foldI (pickI (pickB now) l) 0 0 (-1)) = 0 := rfl
      rw [e]
      refine ⟨by omega, by omega, fun j hj => ?_⟩
      have : j = 0 := by omega
      subst this
      exact pickB_irrefl _ _
theorem pickR_least {l : List Backend} (now : Int) (h : Valid l) (h0 : 0 < l.length) : 0 ≤ pickR l now ∧ pickR l now < l.length ∧ ∀ j, j < l.length → pickB (min (max now 0) 1099511627776) (l.getD j d_Backend) (l.getD (pickR l now).toNat d_Backend) = false :=
  pick_least l (min (max now 0) 1099511627776) (fun k hk => h.at hk) l.length (by omega) h0
theorem pickR_nil (now : Int) : pickR [] now = -1 := rfl


def as_spread : ArgShp D := args (aCons (aLf cd_LBackend) (aCons (aLf (cInt .i64)) (a1 (aLf (cInt .i64)))))
theorem as_spread_ok : ArgOk S as_spread 0 32 := args_ok (aCons_ok (aLf_ok cd_LBackend_ok) (aCons_ok (aLf_ok (cInt_ok _)) (a1_ok (aLf_ok (cInt_ok _))))) rfl
def rs_spread : Shp D := shr [.slot 0 false [none]] (l1 cd_Li64)
theorem rs_spread_ok : ShpOk S rs_spread := shr_ok (l1_ok cd_Li64_ok)
def jt_spread : List (Nat × Shp D) := [(3, shp (fun sl => [.slot 0 false [none], .slot 14 false [none], .row (pid (sl 7)) 3]) (lCons cd_LBackend (lCons (cInt .i64) (l1 cd_Li64))))]
def j_spread : Nat → Option (Shp D) := lk jt_spread
theorem j_spread_ok : ∀ i sh, j_spread i = some sh → ShpOk S sh := by
  intro i sh h
  have := lk_mem h
  simp only [jt_spread, List.mem_cons, Prod.mk.injEq, List.not_mem_nil, or_false] at this
  rcases this with ⟨_, rfl⟩
  · exact shp_ok (lCons_ok cd_LBackend_ok (lCons_ok (cInt_ok _) (l1_ok cd_Li64_ok)))
noncomputable def gt_spread : List (Nat × Ct D) := [(15, ct_pick), (21, ct_begin), (30, ct_bound)]
noncomputable def g_spread : FuncId → Option (Ct D) := lk gt_spread
theorem g_spread_ok : ∀ f ct, g_spread f = some ct → CtOk Try.prog S f ct := by
  intro f ct h
  have := lk_mem h
  simp only [gt_spread, List.mem_cons, Prod.mk.injEq, List.not_mem_nil, or_false] at this
  rcases this with ⟨rfl, rfl⟩ | ⟨rfl, rfl⟩ | ⟨rfl, rfl⟩
  · exact ct_pick_ok
  · exact ct_begin_ok
  · exact ct_bound_ok
noncomputable def spread_s1 (now : Int) (n : Int) (x1 : List Backend × Int × List Int) : Option (List Backend × Int × List Int ⊕ List Int) :=
  bif decide (x1.snd.fst < min (max n (0 : Int)) (1000 : Int)) then
    need (Valid x1.fst)
      (bif decide (pickR x1.fst now < (0 : Int)) then some (Sum.inr x1.snd.snd)
      else
        need ((0 : Int) ≤ pickR x1.fst now ∧ pickR x1.fst now < (↑x1.snd.snd.length : Int))
          (need ((pickR x1.fst now).toNat < x1.snd.snd.length)
            (need (InR IntKind.i64 (x1.snd.snd.getD (pickR x1.fst now).toNat (0 : Int) + (1 : Int)))
              (need ((0 : Int) ≤ pickR x1.fst now ∧ pickR x1.fst now < (↑x1.snd.snd.length : Int))
                (need ((pickR x1.fst now).toNat < x1.snd.snd.length)
                  (need (Valid x1.fst)
                    (need (InR IntKind.i64 (x1.snd.fst + (1 : Int)))
                      (some
                        (Sum.inl
                          (chg x1.fst (pickR x1.fst now) incB, x1.snd.fst + (1 : Int),
                            x1.snd.snd.set (pickR x1.fst now).toNat (x1.snd.snd.getD (pickR x1.fst now).toNat (0 : Int) + (1 : Int))))))))))))
  else some (Sum.inr x1.snd.snd)
noncomputable def spread (l : List Backend) (now : Int) (n : Int) : Option (List Int) :=
  need
    ((↑l.length : Int) = (↑l.length : Int) ∧
      (0 : Int) ≤ (↑l.length : Int) ∧ (↑l.length : Int) * (↑(8 : Nat) : Int) ≤ (281474976710656 : Int) ∧ (↑l.length : Int) ≤ (1099511627776 : Int))
    (loopU (spread_s1 now n) (l, (0 : Int), List.replicate (↑l.length : Int).toNat (0 : Int)))
theorem spread_run (l : List Backend) (now : Int) (n : Int) : spread l now n = (evC T S g_spread 32 j_spread (Try.f18.body.getD .skip) rs_spread.X (St.init (as_spread.enc (l, now, n)).1 (as_spread.enc (l, now, n)).2) (retL T S Try.f18.results.toList rs_spread 0 [])).run := by kernel_rfl

def as_rspread : ArgShp D := args (aCons (aLf cd_LBackend) (aCons (aLf (cInt .i64)) (a1 (aLf (cInt .i64)))))
theorem as_rspread_ok : ArgOk S as_rspread 0 37 := args_ok (aCons_ok (aLf_ok cd_LBackend_ok) (aCons_ok (aLf_ok (cInt_ok _)) (a1_ok (aLf_ok (cInt_ok _))))) rfl
def rs_rspread : Shp D := shr [.slot 0 false [none]] (l1 cd_Li64)
theorem rs_rspread_ok : ShpOk S rs_rspread := shr_ok (l1_ok cd_Li64_ok)
def jt_rspread : List (Nat × Shp D) := [(3, shp (fun sl => [.slot 0 false [none], .slot 8 false [none], .row (pid (sl 7)) 3]) (lCons cd_LBackend (lCons (cInt .i64) (l1 cd_Li64)))), (100005, shp (fun sl => []) l0)]
def j_rspread : Nat → Option (Shp D) := lk jt_rspread
theorem j_rspread_ok : ∀ i sh, j_rspread i = some sh → ShpOk S sh := by
  intro i sh h
  have := lk_mem h
  simp only [jt_rspread, List.mem_cons, Prod.mk.injEq, List.not_mem_nil, or_false] at this
  rcases this with ⟨_, rfl⟩ | ⟨_, rfl⟩
  · exact shp_ok (lCons_ok cd_LBackend_ok (lCons_ok (cInt_ok _) (l1_ok cd_Li64_ok)))
  · exact shp_ok l0_ok
noncomputable def gt_rspread : List (Nat × Ct D) := [(16, ct_rpick), (22, ct_rbegin)]
noncomputable def g_rspread : FuncId → Option (Ct D) := lk gt_rspread
theorem g_rspread_ok : ∀ f ct, g_rspread f = some ct → CtOk Try.prog S f ct := by
  intro f ct h
  have := lk_mem h
  simp only [gt_rspread, List.mem_cons, Prod.mk.injEq, List.not_mem_nil, or_false] at this
  rcases this with ⟨rfl, rfl⟩ | ⟨rfl, rfl⟩
  · exact ct_rpick_ok
  · exact ct_rbegin_ok
noncomputable def rspread_s1 (n : Int) (x1 : List Backend × Int × List Int) : Option (Unit ⊕ List Backend × Int × List Int ⊕ List Int) :=
  bif decide (x1.snd.fst < min n (1000 : Int)) then bif decide ((0 : Int) < (↑x1.fst.length : Int)) then some (Sum.inl ()) else some (Sum.inr (Sum.inr x1.snd.snd))
  else some (Sum.inr (Sum.inr x1.snd.snd))
noncomputable def rspread_s2 (now : Int) (x1 : List Backend × Int × List Int) (y2 : Unit) : Option (List Backend × Int × List Int ⊕ List Int) :=
  need (Valid x1.fst)
    (need (Valid x1.fst)
      (need ((0 : Int) ≤ pickR x1.fst now ∧ pickR x1.fst now < (↑x1.snd.snd.length : Int))
        (need ((pickR x1.fst now).toNat < x1.snd.snd.length)
          (need (InR IntKind.i64 (x1.snd.snd.getD (pickR x1.fst now).toNat (0 : Int) + (1 : Int)))
            (need ((0 : Int) ≤ pickR x1.fst now ∧ pickR x1.fst now < (↑x1.snd.snd.length : Int))
              (need ((pickR x1.fst now).toNat < x1.snd.snd.length)
                (need (InR IntKind.i64 (x1.snd.fst + (1 : Int)))
                  (some
                    (Sum.inl
                      (chg x1.fst (pickR x1.fst now) incB, x1.snd.fst + (1 : Int),
                        x1.snd.snd.set (pickR x1.fst now).toNat (x1.snd.snd.getD (pickR x1.fst now).toNat (0 : Int) + (1 : Int))))))))))))
noncomputable def rspread_s3 (now : Int) (n : Int) (x1 : List Backend × Int × List Int) : Option (List Backend × Int × List Int ⊕ List Int) :=
  bindS (rspread_s1 n x1) (rspread_s2 now x1)
noncomputable def rspread (l : List Backend) (now : Int) (n : Int) : Option (List Int) :=
  need
    ((↑l.length : Int) = (↑l.length : Int) ∧
      (0 : Int) ≤ (↑l.length : Int) ∧ (↑l.length : Int) * (↑(8 : Nat) : Int) ≤ (281474976710656 : Int) ∧ (↑l.length : Int) ≤ (1099511627776 : Int))
    (loopU (rspread_s3 now n) (l, (0 : Int), List.replicate (↑l.length : Int).toNat (0 : Int)))
theorem rspread_run (l : List Backend) (now : Int) (n : Int) : rspread l now n = (evC T S g_rspread 37 j_rspread (Try.f19.body.getD .skip) rs_rspread.X (St.init (as_rspread.enc (l, now, n)).1 (as_rspread.enc (l, now, n)).2) (retL T S Try.f19.results.toList rs_rspread 0 [])).run := by kernel_rfl


/-! Spread -/
def sprS (now : Int) (a : List Backend × List Int) : List Backend × List Int := (chg a.1 (pickR a.1 now) incB, a.2.set (pickR a.1 now).toNat (a.2.getD (pickR a.1 now).toNat 0 + 1))
def sprF (l : List Backend) (now n : Int) : List Backend × List Int := if l.length = 0 then (l, []) else foldI (fun _ => sprS now) (min (max n 0) 1000).toNat 0 (l, List.replicate l.length 0)
structure SprI (l : List Backend) (k : Nat) (a : List Backend × List Int) : Prop where
  v : Valid a.1
  l1 : a.1.length = l.length
  l2 : a.2.length = l.length
  b : ∀ j, j < l.length → 0 ≤ a.2.getD j 0 ∧ a.2.getD j 0 ≤ k
theorem setI_getD (l : List Int) (n k : Nat) (b : Int) (hk : k < l.length) : (l.set n b).getD k 0 = if k = n then b else l.getD k 0 := by
  have h1 : k < (l.set n b).length := by simpa using hk
  rw [getD_some h1, getD_some hk, List.getElem_set]
  by_cases e : n = k
  · simp [e]
  · rw [if_neg e, if_neg fun h => e h.symm]
theorem sprI_step {l : List Backend} {k : Nat} {a : List Backend × List Int} (now : Int) (h : SprI l k a) : SprI l (k + 1) (sprS now a) := by
  refine ⟨h.v.chg _ fun b hb => fine_inc hb, (chg_len _ _ _).trans h.l1, (List.length_set ..).trans h.l2, fun j hj => ?_⟩
  have hb := h.b j hj
  simp only [sprS]
  rw [setI_getD _ _ _ _ (by rw [h.l2]; exact hj)]
  split
  · rename_i e
    rw [← e]
    omega
  · omega
theorem sprI_zero {l : List Backend} (h : Valid l) : SprI l 0 (l, List.replicate l.length 0) := by
  refine ⟨h, rfl, by simp, fun j hj => ?_⟩
  rw [getD_some (by simpa using hj)]
  simp
theorem spread_room {l : List Backend} (h : Valid l) : (l.length : Int) = (l.length : Int) ∧ (0 : Int) ≤ (l.length : Int) ∧ (l.length : Int) * ((8 : Nat) : Int) ≤ 281474976710656 ∧ (l.length : Int) ≤ 1099511627776 := by
  have := h.len
  omega
theorem loop_none {X R : Type} {step : X → Option (X ⊕ R)} {x : X} {r : R} (h : step x = some (.inr r)) : loopU step x = some r := by rw [loopU_eq, h]
theorem spread_eq (l : List Backend) (now n : Int) (h : Valid l) : spread l now n = some (sprF l now n).2 := by
  unfold spread sprF
  rw [need_pos (spread_room h)]
  by_cases h0 : l.length = 0
  · rw [if_pos h0]
    have : l = [] := List.length_eq_zero_iff.1 h0
    subst this
    refine loop_none ?_
    unfold spread_s1
    by_cases hn : 0 < min (max n 0) 1000
    · simp [hn, h, pickR_nil]
    · simp [hn]
  · rw [if_neg h0]
    have key := loop_acc (step := spread_s1 now n) (fun (a : List Backend × List Int) k => (a.1, k, a.2)) (fun k a => SprI l k a) (fun _ => sprS now) (n := (min (max n 0) 1000).toNat) (r := fun a => a.2)
      (fun k a hk ha => ⟨?_, sprI_step now ha⟩) (fun a ha => ?_) (min (max n 0) 1000).toNat 0 (l, List.replicate l.length 0) (by omega) (sprI_zero h)
    · exact key
    · have hk' : (k : Int) < min (max n 0) 1000 := by omega
      obtain ⟨p1, p2, _⟩ := pickR_least now ha.v (by have := ha.l1; omega)
      have q1 : ¬ pickR a.1 now < 0 := by omega
      have q2 : pickR a.1 now < (a.2.length : Int) := by have := ha.l1; have := ha.l2; omega
      have q3 : (pickR a.1 now).toNat < a.2.length := by omega
      have hb := ha.b (pickR a.1 now).toNat (by have := ha.l2; omega)
      have q4 : InR .i64 (a.2.getD (pickR a.1 now).toNat 0 + 1) := by simp only [InR]; omega
      have q5 : InR .i64 ((k : Int) + 1) := by simp only [InR]; omega
      unfold spread_s1
      simp only [hk', ha.v, p1, q1, q2, q3, q4, q5, and_self, need_true, decide_true, decide_false, cond_true, cond_false]
      rfl
    · have hk' : ¬ (((min (max n 0) 1000).toNat : Nat) : Int) < min (max n 0) 1000 := by omega
      unfold spread_s1
      simp only [hk', decide_false, cond_false]
theorem rspread_eq (l : List Backend) (now n : Int) (h : Valid l) : rspread l now n = some (sprF l now n).2 := by
  unfold rspread sprF
  rw [need_pos (spread_room h)]
  by_cases h0 : l.length = 0
  · rw [if_pos h0]
    have : l = [] := List.length_eq_zero_iff.1 h0
    subst this
    refine loop_none ?_
    unfold rspread_s3 rspread_s1
    by_cases hn : 0 < min n 1000
    · simp [hn, bindS]
    · simp [hn, bindS]
  · rw [if_neg h0]
    have key := loop_acc (step := rspread_s3 now n) (fun (a : List Backend × List Int) k => (a.1, k, a.2)) (fun k a => SprI l k a) (fun _ => sprS now) (n := (min (max n 0) 1000).toNat) (r := fun a => a.2)
      (fun k a hk ha => ⟨?_, sprI_step now ha⟩) (fun a ha => ?_) (min (max n 0) 1000).toNat 0 (l, List.replicate l.length 0) (by omega) (sprI_zero h)
    · exact key
    · have hk' : (k : Int) < min n 1000 := by omega
      have hl := ha.l1
      obtain ⟨p1, p2, _⟩ := pickR_least now ha.v (by omega)
      have hl0 : (0 : Int) < (a.1.length : Int) := by omega
      have q2 : pickR a.1 now < (a.2.length : Int) := by have := ha.l2; omega
      have q3 : (pickR a.1 now).toNat < a.2.length := by omega
      have hb := ha.b (pickR a.1 now).toNat (by have := ha.l2; omega)
      have q4 : InR .i64 (a.2.getD (pickR a.1 now).toNat 0 + 1) := by simp only [InR]; omega
      have q5 : InR .i64 ((k : Int) + 1) := by simp only [InR]; omega
      unfold rspread_s3 rspread_s1
      simp only [hk', hl0, decide_true, cond_true]
      show rspread_s2 now (a.1, (k : Int), a.2) () = _
      unfold rspread_s2
      simp only [ha.v, p1, q2, q3, q4, q5, and_self, need_true]
      rfl
    · have hk' : ¬ (((min (max n 0) 1000).toNat : Nat) : Int) < min n 1000 := by omega
      unfold rspread_s3 rspread_s1
      simp only [hk', decide_false, cond_false]
      rfl


noncomputable def ct_spread : Ct D := ctN as_spread rs_spread 1 [] (fun a => some ((fun (l : List Backend) (now : Int) (n : Int) => (Valid l : Prop)) (a.1) (a.2.1) (a.2.2))) (fun a => (fun (l : List Backend) (now : Int) (n : Int) => ((sprF l now n).2 : List Int)) (a.1) (a.2.1) (a.2.2))
theorem ct_spread_ok : CtOk Try.prog S 18 ct_spread :=
  fn_okN mixed T_ok g_spread_ok S_ok j_spread_ok Try.func18 rfl (by kernel_rfl) Try.ntmps18 rfl (by kernel_rfl) as_spread_ok rs_spread_ok (fun a => some ((fun (l : List Backend) (now : Int) (n : Int) => (Valid l : Prop)) (a.1) (a.2.1) (a.2.2))) (fun a => (fun (l : List Backend) (now : Int) (n : Int) => ((sprF l now n).2 : List Int)) (a.1) (a.2.1) (a.2.2))
    (fun a h => (spread_run (a.1) (a.2.1) (a.2.2)).symm.trans (spread_eq (a.1) (a.2.1) (a.2.2) h))

noncomputable def ct_rspread : Ct D := ctN as_rspread rs_rspread 1 [] (fun a => some ((fun (l : List Backend) (now : Int) (n : Int) => (Valid l : Prop)) (a.1) (a.2.1) (a.2.2))) (fun a => (fun (l : List Backend) (now : Int) (n : Int) => ((sprF l now n).2 : List Int)) (a.1) (a.2.1) (a.2.2))
theorem ct_rspread_ok : CtOk Try.prog S 19 ct_rspread :=
  fn_okN mixed T_ok g_rspread_ok S_ok j_rspread_ok Try.func19 rfl (by kernel_rfl) Try.ntmps19 rfl (by kernel_rfl) as_rspread_ok rs_rspread_ok (fun a => some ((fun (l : List Backend) (now : Int) (n : Int) => (Valid l : Prop)) (a.1) (a.2.1) (a.2.2))) (fun a => (fun (l : List Backend) (now : Int) (n : Int) => ((sprF l now n).2 : List Int)) (a.1) (a.2.1) (a.2.2))
    (fun a h => (rspread_run (a.1) (a.2.1) (a.2.2)).symm.trans (rspread_eq (a.1) (a.2.1) (a.2.2) h))

def as_balanceLeast : ArgShp D := args (aCons (aLf cd_LBackend) (a1 (aLf (cInt .i64))))
theorem as_balanceLeast_ok : ArgOk S as_balanceLeast 0 86 := args_ok (aCons_ok (aLf_ok cd_LBackend_ok) (a1_ok (aLf_ok (cInt_ok _)))) rfl
def rs_balanceLeast : Shp D := shr [.slot 0 false [none]] (l1 cBool)
theorem rs_balanceLeast_ok : ShpOk S rs_balanceLeast := shr_ok (l1_ok cBool_ok)
def jt_balanceLeast : List (Nat × Shp D) := [(10, shp (fun sl => [.slot 48 false [none]]) (l1 (cInt .i64))), (100003, shp (fun sl => []) l0), (100008, shp (fun sl => []) l0)]
def j_balanceLeast : Nat → Option (Shp D) := lk jt_balanceLeast
theorem j_balanceLeast_ok : ∀ i sh, j_balanceLeast i = some sh → ShpOk S sh := by
  intro i sh h
  have := lk_mem h
  simp only [jt_balanceLeast, List.mem_cons, Prod.mk.injEq, List.not_mem_nil, or_false] at this
  rcases this with ⟨_, rfl⟩ | ⟨_, rfl⟩ | ⟨_, rfl⟩
  · exact shp_ok (l1_ok (cInt_ok _))
  · exact shp_ok l0_ok
  · exact shp_ok l0_ok
noncomputable def gt_balanceLeast : List (Nat × Ct D) := [(13, ct_rcheck), (14, ct_awake), (15, ct_pick), (17, ct_pless)]
noncomputable def g_balanceLeast : FuncId → Option (Ct D) := lk gt_balanceLeast
theorem g_balanceLeast_ok : ∀ f ct, g_balanceLeast f = some ct → CtOk Try.prog S f ct := by
  intro f ct h
  have := lk_mem h
  simp only [gt_balanceLeast, List.mem_cons, Prod.mk.injEq, List.not_mem_nil, or_false] at this
  rcases this with ⟨rfl, rfl⟩ | ⟨rfl, rfl⟩ | ⟨rfl, rfl⟩ | ⟨rfl, rfl⟩
  · exact ct_rcheck_ok
  · exact ct_awake_ok
  · exact ct_pick_ok
  · exact ct_pless_ok
noncomputable def balanceLeast_s1 (l : List Backend) (now : Int) (x3 : Int) : Option (Int ⊕ Bool) :=
  bif decide (x3 < (↑l.length : Int)) then
    bif decide (now < (l.getD (pickR l now).toNat d_Backend).Out) then
      need ((0 : Int) ≤ x3 ∧ x3 < (↑l.length : Int))
        (bif decide ((l.getD x3.toNat d_Backend).Out ≤ now) then some (Sum.inr false)
        else
          bif decide (now < (l.getD (pickR l now).toNat d_Backend).Out) then
            need ((0 : Int) ≤ x3 ∧ x3 < (↑l.length : Int))
              (need ((0 : Int) ≤ pickR l now ∧ pickR l now < (↑l.length : Int))
                (need (Fine (l.getD x3.toNat d_Backend) ∧ Fine (l.getD (pickR l now).toNat d_Backend))
                  (bif fewB (l.getD x3.toNat d_Backend) (l.getD (pickR l now).toNat d_Backend) then some (Sum.inr false)
                  else need (InR IntKind.i64 (x3 + (1 : Int))) (some (Sum.inl (x3 + (1 : Int)))))))
          else
            need ((0 : Int) ≤ x3 ∧ x3 < (↑l.length : Int))
              (bif decide ((l.getD x3.toNat d_Backend).Out ≤ now) then
                need ((0 : Int) ≤ x3 ∧ x3 < (↑l.length : Int))
                  (need ((0 : Int) ≤ pickR l now ∧ pickR l now < (↑l.length : Int))
                    (need (Fine (l.getD x3.toNat d_Backend) ∧ Fine (l.getD (pickR l now).toNat d_Backend))
                      (bif fewB (l.getD x3.toNat d_Backend) (l.getD (pickR l now).toNat d_Backend) then some (Sum.inr false)
                      else need (InR IntKind.i64 (x3 + (1 : Int))) (some (Sum.inl (x3 + (1 : Int)))))))
              else need (InR IntKind.i64 (x3 + (1 : Int))) (some (Sum.inl (x3 + (1 : Int))))))
    else
      bif decide (now < (l.getD (pickR l now).toNat d_Backend).Out) then
        need ((0 : Int) ≤ x3 ∧ x3 < (↑l.length : Int))
          (need ((0 : Int) ≤ pickR l now ∧ pickR l now < (↑l.length : Int))
            (need (Fine (l.getD x3.toNat d_Backend) ∧ Fine (l.getD (pickR l now).toNat d_Backend))
              (bif fewB (l.getD x3.toNat d_Backend) (l.getD (pickR l now).toNat d_Backend) then some (Sum.inr false)
              else need (InR IntKind.i64 (x3 + (1 : Int))) (some (Sum.inl (x3 + (1 : Int)))))))
      else
        need ((0 : Int) ≤ x3 ∧ x3 < (↑l.length : Int))
          (bif decide ((l.getD x3.toNat d_Backend).Out ≤ now) then
            need ((0 : Int) ≤ x3 ∧ x3 < (↑l.length : Int))
              (need ((0 : Int) ≤ pickR l now ∧ pickR l now < (↑l.length : Int))
                (need (Fine (l.getD x3.toNat d_Backend) ∧ Fine (l.getD (pickR l now).toNat d_Backend))
                  (bif fewB (l.getD x3.toNat d_Backend) (l.getD (pickR l now).toNat d_Backend) then some (Sum.inr false)
                  else need (InR IntKind.i64 (x3 + (1 : Int))) (some (Sum.inl (x3 + (1 : Int)))))))
          else need (InR IntKind.i64 (x3 + (1 : Int))) (some (Sum.inl (x3 + (1 : Int)))))
  else some (Sum.inr true)
noncomputable def balanceLeast_s2 (l : List Backend) (now : Int) : Option (Unit ⊕ Bool) :=
  bif decide (pickR l now < (0 : Int)) then some (Sum.inr false) else bif decide ((↑l.length : Int) ≤ pickR l now) then some (Sum.inr false) else some (Sum.inl ())
noncomputable def balanceLeast_s3 (l : List Backend) (now : Int) (y2 : Unit) : Option Bool :=
  need ((0 : Int) ≤ pickR l now ∧ pickR l now < (↑l.length : Int)) (loopU (balanceLeast_s1 l now) (0 : Int))
noncomputable def balanceLeast_s4 (l : List Backend) (now : Int) : Option (Unit ⊕ Bool) :=
  bif chk l != (0 : Int) then some (Sum.inr true)
  else bif decide (now < (0 : Int)) then some (Sum.inr true) else bif decide ((1099511627776 : Int) < now) then some (Sum.inr true) else some (Sum.inl ())
noncomputable def balanceLeast_s5 (l : List Backend) (now : Int) (y1 : Unit) : Option Bool :=
  need (Valid l) (bif (↑l.length : Int) == (0 : Int) then bif pickR l now == (-1 : Int) then some true else some false else bindS (balanceLeast_s2 l now) (balanceLeast_s3 l now))
noncomputable def balanceLeast (l : List Backend) (now : Int) : Option Bool :=
  bindS (balanceLeast_s4 l now) (balanceLeast_s5 l now)
theorem balanceLeast_run (l : List Backend) (now : Int) : balanceLeast l now = (evC T S g_balanceLeast 86 j_balanceLeast (Try.f5.body.getD .skip) rs_balanceLeast.X (St.init (as_balanceLeast.enc (l, now)).1 (as_balanceLeast.enc (l, now)).2) (retL T S Try.f5.results.toList rs_balanceLeast 0 [])).run := by kernel_rfl

def as_balanceLeaves : ArgShp D := args (aCons (aLf cd_LBackend) (aCons (aLf (cInt .i64)) (a1 (aLf (cInt .i64)))))
theorem as_balanceLeaves_ok : ArgOk S as_balanceLeaves 0 86 := args_ok (aCons_ok (aLf_ok cd_LBackend_ok) (aCons_ok (aLf_ok (cInt_ok _)) (a1_ok (aLf_ok (cInt_ok _))))) rfl
def rs_balanceLeaves : Shp D := shr [.slot 0 false [none]] (l1 cBool)
theorem rs_balanceLeaves_ok : ShpOk S rs_balanceLeaves := shr_ok (l1_ok cBool_ok)
def jt_balanceLeaves : List (Nat × Shp D) := [(5, shp (fun sl => [.slot 7 false [none], .slot 33 false [none]]) (lCons cBool (l1 (cInt .i64)))), (10, shp (fun sl => [.slot 0 false [none], .slot 52 false [none]]) (lCons cd_LBackend (l1 (cInt .i64)))), (100003, shp (fun sl => []) l0), (100009, shp (fun sl => [.slot 7 false [none]]) (l1 cBool)), (100013, shp (fun sl => [.slot 0 false [none]]) (l1 cd_LBackend)), (100015, shp (fun sl => []) l0)]
def j_balanceLeaves : Nat → Option (Shp D) := lk jt_balanceLeaves
theorem j_balanceLeaves_ok : ∀ i sh, j_balanceLeaves i = some sh → ShpOk S sh := by
  intro i sh h
  have := lk_mem h
  simp only [jt_balanceLeaves, List.mem_cons, Prod.mk.injEq, List.not_mem_nil, or_false] at this
  rcases this with ⟨_, rfl⟩ | ⟨_, rfl⟩ | ⟨_, rfl⟩ | ⟨_, rfl⟩ | ⟨_, rfl⟩ | ⟨_, rfl⟩
  · exact shp_ok (lCons_ok cBool_ok (l1_ok (cInt_ok _)))
  · exact shp_ok (lCons_ok cd_LBackend_ok (l1_ok (cInt_ok _)))
  · exact shp_ok l0_ok
  · exact shp_ok (l1_ok cBool_ok)
  · exact shp_ok (l1_ok cd_LBackend_ok)
  · exact shp_ok l0_ok
noncomputable def gt_balanceLeaves : List (Nat × Ct D) := [(13, ct_rcheck), (14, ct_awake), (15, ct_pick), (20, ct_end_)]
noncomputable def g_balanceLeaves : FuncId → Option (Ct D) := lk gt_balanceLeaves
theorem g_balanceLeaves_ok : ∀ f ct, g_balanceLeaves f = some ct → CtOk Try.prog S f ct := by
  intro f ct h
  have := lk_mem h
  simp only [gt_balanceLeaves, List.mem_cons, Prod.mk.injEq, List.not_mem_nil, or_false] at this
  rcases this with ⟨rfl, rfl⟩ | ⟨rfl, rfl⟩ | ⟨rfl, rfl⟩ | ⟨rfl, rfl⟩
  · exact ct_rcheck_ok
  · exact ct_awake_ok
  · exact ct_pick_ok
  · exact ct_end__ok
noncomputable def balanceLeaves_s1 (l : List Backend) (i : Int) (now : Int) (x2 : Bool × Int) : Option (Bool × Int ⊕ Bool ⊕ Bool) :=
  bif decide (x2.snd < (↑l.length : Int)) then
    bif x2.fst then need (InR IntKind.i64 (x2.snd + (1 : Int))) (some (Sum.inl (true, x2.snd + (1 : Int))))
    else
      bif x2.snd != i then
        need ((0 : Int) ≤ x2.snd ∧ x2.snd < (↑l.length : Int))
          (need (InR IntKind.i64 (x2.snd + (1 : Int))) (some (Sum.inl (decide ((l.getD x2.snd.toNat d_Backend).Out ≤ now), x2.snd + (1 : Int)))))
      else need (InR IntKind.i64 (x2.snd + (1 : Int))) (some (Sum.inl (false, x2.snd + (1 : Int))))
  else some (Sum.inr (Sum.inl x2.fst))
noncomputable def balanceLeaves_s2 (i : Int) (now : Int) (x4 : List Backend × Int) : Option (List Backend × Int ⊕ List Backend ⊕ Bool) :=
  bif decide (x4.snd < (3 : Int)) then
    need (Valid x4.fst)
      (need (InR IntKind.i64 (x4.snd + (1 : Int)))
        (some (Sum.inl (chg x4.fst i fun (b : Backend) => endB b (11 : Int) (min (max now (0 : Int)) (1099511627776 : Int)), x4.snd + (1 : Int)))))
  else some (Sum.inr (Sum.inl x4.fst))
noncomputable def balanceLeaves_s3 (i : Int) (now : Int) (y5 : List Backend) : Option (Unit ⊕ Bool) :=
  bif decide ((↑y5.length : Int) ≤ i) then some (Sum.inr false)
  else
    need ((0 : Int) ≤ i ∧ i < (↑y5.length : Int))
      (need (InR IntKind.i64 (now + (1000 : Int))) (bif decide ((y5.getD i.toNat d_Backend).Out < now + (1000 : Int)) then some (Sum.inr false) else some (Sum.inl ())))
noncomputable def balanceLeaves_s4 (i : Int) (now : Int) (y3 : Bool) (y5 : List Backend) (y6 : Unit) : Option Bool :=
  bif !y3 then some true else need (InR IntKind.i64 (now + (999 : Int))) (need (Valid y5) (bif pickR y5 (now + (999 : Int)) != i then some true else some false))
noncomputable def balanceLeaves_s5 (l : List Backend) (i : Int) (now : Int) : Option (List Backend ⊕ Bool) :=
  loopU (balanceLeaves_s2 i now) (l, (0 : Int))
noncomputable def balanceLeaves_s6 (i : Int) (now : Int) (y3 : Bool) (y5 : List Backend) : Option Bool :=
  bindS (balanceLeaves_s3 i now y5) (balanceLeaves_s4 i now y3 y5)
noncomputable def balanceLeaves_s7 (l : List Backend) (i : Int) (now : Int) : Option (Bool ⊕ Bool) :=
  loopU (balanceLeaves_s1 l i now) (false, (0 : Int))
noncomputable def balanceLeaves_s8 (l : List Backend) (i : Int) (now : Int) (y3 : Bool) : Option Bool :=
  bindS (balanceLeaves_s5 l i now) (balanceLeaves_s6 i now y3)
noncomputable def balanceLeaves_s9 (l : List Backend) (i : Int) (now : Int) : Option (Unit ⊕ Bool) :=
  bif chk l != (0 : Int) then some (Sum.inr true)
  else
    bif decide (i < (0 : Int)) then some (Sum.inr true)
    else
      bif decide ((↑l.length : Int) ≤ i) then some (Sum.inr true)
      else bif decide (now < (0 : Int)) then some (Sum.inr true) else bif decide ((1099511626776 : Int) < now) then some (Sum.inr true) else some (Sum.inl ())
noncomputable def balanceLeaves_s10 (l : List Backend) (i : Int) (now : Int) (y1 : Unit) : Option Bool :=
  bindS (balanceLeaves_s7 l i now) (balanceLeaves_s8 l i now)
noncomputable def balanceLeaves (l : List Backend) (i : Int) (now : Int) : Option Bool :=
  bindS (balanceLeaves_s9 l i now) (balanceLeaves_s10 l i now)
theorem balanceLeaves_run (l : List Backend) (i : Int) (now : Int) : balanceLeaves l i now = (evC T S g_balanceLeaves 86 j_balanceLeaves (Try.f8.body.getD .skip) rs_balanceLeaves.X (St.init (as_balanceLeaves.enc (l, i, now)).1 (as_balanceLeaves.enc (l, i, now)).2) (retL T S Try.f8.results.toList rs_balanceLeaves 0 [])).run := by kernel_rfl


theorem fewB_false {a b : Backend} (h : lessB a b = false) : fewB a b = false := by
  unfold lessB at h
  unfold fewB
  cases hd : decide ((a.Busy + a.Load) * b.Weight < (b.Busy + b.Load) * a.Weight) with
  | false => rfl
  | true => rw [hd] at h; cases h
theorem balanceLeast_eq (l : List Backend) (now : Int) : balanceLeast l now = some true := by
  unfold balanceLeast balanceLeast_s4
  by_cases hc : chk l = 0
  · by_cases h1 : now < 0
    · simp [hc, h1, bindS]
    by_cases h2 : 1099511627776 < now
    · simp [hc, h1, h2, bindS]
    have hv := (chk_valid hc).1
    simp only [hc, h1, h2, bne_self_eq_false, decide_false, cond_false]
    show balanceLeast_s5 l now () = _
    unfold balanceLeast_s5
    rw [need_pos hv]
    by_cases h0 : l.length = 0
    · have : l = [] := List.length_eq_zero_iff.1 h0
      subst this
      rfl
    have h0' : (((l.length : Nat) : Int) == 0) = false := by rw [beq_eq_false_iff_ne]; omega
    obtain ⟨a1, a2, a3⟩ := pickR_least now hv (by omega)
    have hclamp : min (max now 0) 1099511627776 = now := by omega
    rw [hclamp] at a3
    have e2 : balanceLeast_s2 l now = some (.inl ()) := by
      unfold balanceLeast_s2
      have b1 : ¬ pickR l now < 0 := by omega
      have b2 : ¬ (l.length : Int) ≤ pickR l now := by omega
      simp only [b1, b2, decide_false, cond_false]
    simp only [h0', cond_false, e2]
    show balanceLeast_s3 l now () = _
    unfold balanceLeast_s3
    rw [need_pos ⟨a1, a2⟩]
    have hA : (pickR l now).toNat < l.length := by omega
    have h8 := hv.len
    refine (loop_first0 (f := fun _ => none) (r0 := true) (n := l.length) (fun k hk => ?_) ?_).trans (congrArg some (firstR_none _ _ fun _ _ _ => rfl))
    · have hk' : (k : Int) < l.length := by omega
      have hk0 : (0 : Int) ≤ k := by omega
      have hr : InR .i64 ((k : Int) + 1) := by simp only [InR]; omega
      have hp := a3 k hk
      have hf1 := hv.at hk
      have hf2 := hv.at hA
      unfold balanceLeast_s1
      simp only [hk', hk0, hr, a1, a2, Int.toNat_natCast, and_self, need_true, decide_true, cond_true, hf1, hf2]
      unfold pickB at hp
      by_cases c1 : now < (l.getD (pickR l now).toNat d_Backend).Out
      · have c1' : ¬ (l.getD (pickR l now).toNat d_Backend).Out ≤ now := by omega
        by_cases c2 : (l.getD k d_Backend).Out ≤ now
        · simp only [c1', c2, decide_true, decide_false] at hp
          cases hp
        · have hl : lessB (l.getD k d_Backend) (l.getD (pickR l now).toNat d_Backend) = false := by simpa only [c1', c2, decide_true, decide_false, bne_self_eq_false, cond_false] using hp
          simp only [c1, c2, fewB_false hl, decide_true, decide_false, cond_true, cond_false]
          rfl
      · have c1' : (l.getD (pickR l now).toNat d_Backend).Out ≤ now := by omega
        by_cases c2 : (l.getD k d_Backend).Out ≤ now
        · have hl : lessB (l.getD k d_Backend) (l.getD (pickR l now).toNat d_Backend) = false := by simpa only [c1', c2, decide_true, decide_false, bne_self_eq_false, cond_false] using hp
          simp only [c1, c2, fewB_false hl, decide_true, decide_false, cond_true, cond_false]
          rfl
        · simp only [c1, c2, decide_true, decide_false, cond_true, cond_false]
          rfl
    · unfold balanceLeast_s1
      simp
  · have : (chk l != 0) = true := by simpa using hc
    simp [this, bindS]
/-! Leaves -/
theorem leaves_other (l : List Backend) (i now : Int) (h8 : l.length ≤ 8) : ∃ o, balanceLeaves_s7 l i now = some (.inl o) ∧ (o = true → ∃ k : Nat, k < l.length ∧ (k : Int) ≠ i ∧ (l.getD k d_Backend).Out ≤ now) := by
  unfold balanceLeaves_s7
  refine ⟨_, loop_acc (step := balanceLeaves_s1 l i now) (fun a k => (a, k)) (fun _ _ => True) (fun k a => a || (decide ((k : Int) ≠ i) && decide ((l.getD k d_Backend).Out ≤ now))) (n := l.length) (r := fun a => .inl a)
    (fun k a hk _ => ⟨?_, trivial⟩) (fun a _ => ?_) l.length 0 false (by omega) trivial, fun ho => ?_⟩
  · have hk' : (k : Int) < l.length := by omega
    have hk0 : (0 : Int) ≤ k := by omega
    have hr : InR .i64 ((k : Int) + 1) := by simp only [InR]; omega
    unfold balanceLeaves_s1
    simp only [hk', hk0, hr, Int.toNat_natCast, and_self, need_true, decide_true, cond_true]
    cases a with
    | true => rfl
    | false =>
      by_cases e : (k : Int) = i
      · have e' : ((k : Int) != i) = false := by simpa using e
        simp [e, e']
      · have e' : ((k : Int) != i) = true := by simpa using e
        simp [e, e']
  · unfold balanceLeaves_s1
    simp
  · refine foldI_inv (g := fun k a => a || (decide ((k : Int) ≠ i) && decide ((l.getD k d_Backend).Out ≤ now))) (fun _ a => a = true → ∃ k : Nat, k < l.length ∧ (k : Int) ≠ i ∧ (l.getD k d_Backend).Out ≤ now) (n := l.length) (fun k a hk ha => ?_) l.length 0 false (by omega) (fun h => by cases h) ho
    intro h
    rw [Bool.or_eq_true, Bool.and_eq_true, decide_eq_true_eq, decide_eq_true_eq] at h
    rcases h with h | h
    · exact ha h
    · exact ⟨k, hk, h.1, h.2⟩
theorem end11 (b : Backend) (now : Int) : endB b 11 now = if 3 ≤ (failB (decB b)).Fails then outB (failB (decB b)) now else failB (decB b) := rfl
theorem fails11 (b : Backend) (now : Int) : (endB b 11 now).Fails = min (max (b.Fails + 1) 0) 1000000 := by
  rw [end11]
  split <;> rfl
theorem out11 (b : Backend) (now : Int) (h : 2 ≤ b.Fails) : now + 1000 ≤ (endB b 11 now).Out := by
  have h3 : 3 ≤ (failB (decB b)).Fails := by
    show 3 ≤ min (max (b.Fails + 1) 0) 1000000
    omega
  rw [end11, if_pos h3]
  have hp := pow_le (min ((failB (decB b)).Fails - 3) 6).toNat (by omega)
  show now + 1000 ≤ now + 1000 * 2 ^ (min ((failB (decB b)).Fails - 3) 6).toNat
  omega
theorem balanceLeaves_eq (l : List Backend) (i now : Int) : balanceLeaves l i now = some true := by
  unfold balanceLeaves balanceLeaves_s9
  by_cases hc : chk l = 0
  · by_cases h1 : i < 0
    · simp [hc, h1, bindS]
    by_cases h2 : (l.length : Int) ≤ i
    · simp [hc, h1, h2, bindS]
    by_cases h3 : now < 0
    · simp [hc, h1, h2, h3, bindS]
    by_cases h4 : 1099511626776 < now
    · simp [hc, h1, h2, h3, h4, bindS]
    have hv := (chk_valid hc).1
    simp only [hc, h1, h2, h3, h4, bne_self_eq_false, decide_false, cond_false]
    show balanceLeaves_s10 l i now () = _
    unfold balanceLeaves_s10
    obtain ⟨o, ho, hother⟩ := leaves_other l i now hv.len
    rw [ho]
    show balanceLeaves_s8 l i now o = _
    unfold balanceLeaves_s8
    have hi : i.toNat < l.length := by omega
    have hii : (i.toNat : Int) = i := by omega
    have hcl : min (max now 0) 1099511627776 = now := by omega
    have s1 : ∀ {m : List Backend}, Valid m → Valid (chg m i fun b => endB b 11 now) := fun hm => hm.chg i fun b hb => fine_end hb (by omega) (by omega)
    have e5 : balanceLeaves_s5 l i now = some (.inl (chg (chg (chg l i fun b => endB b 11 now) i fun b => endB b 11 now) i fun b => endB b 11 now)) := by
      unfold balanceLeaves_s5
      refine loop_acc (step := balanceLeaves_s2 i now) (fun a k => (a, k)) (fun _ a => Valid a) (fun _ a => chg a i fun b => endB b 11 now) (n := 3) (r := fun a => .inl a)
        (fun k a hk ha => ⟨?_, s1 ha⟩) (fun a _ => ?_) 3 0 l (by omega) hv
      · have hk' : (k : Int) < 3 := by omega
        have hr : InR .i64 ((k : Int) + 1) := by simp only [InR]; omega
        unfold balanceLeaves_s2
        simp only [hk', hr, ha, hcl, need_true, decide_true, cond_true]
        rfl
      · unfold balanceLeaves_s2
        simp
    rw [e5]
    have v3 := s1 (s1 (s1 hv))
    have hat : ∀ (m : List Backend), m.length = l.length → (chg m i fun b => endB b 11 now).getD i.toNat d_Backend = endB (m.getD i.toNat d_Backend) 11 now := by
      intro m hm
      rw [chg_at _ _ _ _ (by omega), if_pos hii]
    have hel : ∀ (m : List Backend) (k : Nat), k < m.length → (k : Int) ≠ i → (chg m i fun b => endB b 11 now).getD k d_Backend = m.getD k d_Backend := by
      intro m k hk hne
      rw [chg_at _ _ _ _ hk, if_neg hne]
    have o3 : now + 1000 ≤ ((chg (chg (chg l i fun b => endB b 11 now) i fun b => endB b 11 now) i fun b => endB b 11 now).getD i.toNat d_Backend).Out := by
      rw [hat _ (by rw [chg_len, chg_len]), hat _ (by rw [chg_len]), hat _ rfl]
      refine out11 _ _ ?_
      rw [fails11, fails11]
      have := hv.at hi
      unfold Fine at this
      omega
    have c3 : ∀ k : Nat, k < l.length → (k : Int) ≠ i → ((chg (chg (chg l i fun b => endB b 11 now) i fun b => endB b 11 now) i fun b => endB b 11 now).getD k d_Backend) = l.getD k d_Backend := by
      intro k hk hne
      rw [hel _ _ (by rw [chg_len, chg_len]; exact hk) hne, hel _ _ (by rw [chg_len]; exact hk) hne, hel _ _ hk hne]
    have l3 : (chg (chg (chg l i fun b => endB b 11 now) i fun b => endB b 11 now) i fun b => endB b 11 now).length = l.length := by rw [chg_len, chg_len, chg_len]
    generalize chg (chg (chg l i fun b => endB b 11 now) i fun b => endB b 11 now) i (fun b => endB b 11 now) = m at *
    show balanceLeaves_s6 i now o m = _
    unfold balanceLeaves_s6 balanceLeaves_s3
    have d1 : ¬ (m.length : Int) ≤ i := by omega
    have d2 : 0 ≤ i ∧ i < (m.length : Int) := by omega
    have d3 : InR .i64 (now + 1000) := by simp only [InR]; omega
    have d4 : ¬ (m.getD i.toNat d_Backend).Out < now + 1000 := by omega
    simp only [d1, d2, d3, d4, and_self, need_true, decide_false, cond_false]
    show balanceLeaves_s4 i now o m () = _
    unfold balanceLeaves_s4
    cases o with
    | false => rfl
    | true =>
      obtain ⟨k, hk, hne, hle⟩ := hother rfl
      have d5 : InR .i64 (now + 999) := by simp only [InR]; omega
      obtain ⟨p1, p2, p3⟩ := pickR_least (now + 999) v3 (by omega)
      have hcl2 : min (max (now + 999) 0) 1099511627776 = now + 999 := by omega
      rw [hcl2] at p3
      have hne2 : pickR m (now + 999) ≠ i := by
        intro e
        have hp := p3 k (by omega)
        rw [e, c3 k hk hne] at hp
        have q1 : (l.getD k d_Backend).Out ≤ now + 999 := by omega
        have q2 : ¬ (m.getD i.toNat d_Backend).Out ≤ now + 999 := by omega
        unfold pickB at hp
        simp only [q1, q2, decide_true, decide_false] at hp
        cases hp
      have hb : (pickR m (now + 999) != i) = true := by simpa using hne2
      simp only [d5, v3, hb, need_true, cond_true, Bool.not_true, cond_false]
  · have : (chk l != 0) = true := by simpa using hc
    simp [this, bindS]


noncomputable def ct_balanceLeast : Ct D := ctN as_balanceLeast rs_balanceLeast 1 [] (fun a => none) (fun a => (fun (l : List Backend) (now : Int) => (true : Bool)) (a.1) (a.2))
theorem ct_balanceLeast_ok : CtOk Try.prog S 5 ct_balanceLeast :=
  fn_okN mixed T_ok g_balanceLeast_ok S_ok j_balanceLeast_ok Try.func5 rfl (by kernel_rfl) Try.ntmps5 rfl (by kernel_rfl) as_balanceLeast_ok rs_balanceLeast_ok (fun a => none) (fun a => (fun (l : List Backend) (now : Int) => (true : Bool)) (a.1) (a.2))
    (fun a h => (balanceLeast_run (a.1) (a.2)).symm.trans (balanceLeast_eq (a.1) (a.2)))

noncomputable def ct_balanceLeaves : Ct D := ctN as_balanceLeaves rs_balanceLeaves 1 [] (fun a => none) (fun a => (fun (l : List Backend) (i : Int) (now : Int) => (true : Bool)) (a.1) (a.2.1) (a.2.2))
theorem ct_balanceLeaves_ok : CtOk Try.prog S 8 ct_balanceLeaves :=
  fn_okN mixed T_ok g_balanceLeaves_ok S_ok j_balanceLeaves_ok Try.func8 rfl (by kernel_rfl) Try.ntmps8 rfl (by kernel_rfl) as_balanceLeaves_ok rs_balanceLeaves_ok (fun a => none) (fun a => (fun (l : List Backend) (i : Int) (now : Int) => (true : Bool)) (a.1) (a.2.1) (a.2.2))
    (fun a h => (balanceLeaves_run (a.1) (a.2.1) (a.2.2)).symm.trans (balanceLeaves_eq (a.1) (a.2.1) (a.2.2)))
end Go.Proofs.Ytenpaaocemjljaa
