/-
  Balance: the reference's changes.
-/
import Derived.Test.YtenpaaocemjljaaE
namespace Go.Proofs.Ytenpaaocemjljaa
open Go.RowKit Go.Vc
set_option linter.unusedVariables false
set_option linter.unusedSimpArgs false
set_option maxRecDepth 100000

def as_rbegin : ArgShp D := args (aCons (aLf cd_LBackend) (a1 (aLf (cInt .i64))))
theorem as_rbegin_ok : ArgOk S as_rbegin 0 30 := args_ok (aCons_ok (aLf_ok cd_LBackend_ok) (a1_ok (aLf_ok (cInt_ok _)))) rfl
def rs_rbegin : Shp D := shr [.slot 0 false [none]] (l1 cd_LBackend)
theorem rs_rbegin_ok : ShpOk S rs_rbegin := shr_ok (l1_ok cd_LBackend_ok)
def jt_rbegin : List (Nat × Shp D) := [(100003, shp (fun sl => []) l0)]
def j_rbegin : Nat → Option (Shp D) := lk jt_rbegin
theorem j_rbegin_ok : ∀ i sh, j_rbegin i = some sh → ShpOk S sh := by
  intro i sh h
  have := lk_mem h
  simp only [jt_rbegin, List.mem_cons, Prod.mk.injEq, List.not_mem_nil, or_false] at this
  rcases this with ⟨_, rfl⟩
  · exact shp_ok l0_ok
noncomputable def gt_rbegin : List (Nat × Ct D) := [(37, ct_rwith)]
noncomputable def g_rbegin : FuncId → Option (Ct D) := lk gt_rbegin
theorem g_rbegin_ok : ∀ f ct, g_rbegin f = some ct → CtOk Try.prog S f ct := by
  intro f ct h
  have := lk_mem h
  simp only [gt_rbegin, List.mem_cons, Prod.mk.injEq, List.not_mem_nil, or_false] at this
  rcases this with ⟨rfl, rfl⟩
  · exact ct_rwith_ok
noncomputable def rbegin_s1 (l : List Backend) (i : Int) : Option (Unit ⊕ List Backend) :=
  bif decide (i < (0 : Int)) then some (Sum.inr l) else bif decide ((↑l.length : Int) ≤ i) then some (Sum.inr l) else some (Sum.inl ())
noncomputable def rbegin_s2 (l : List Backend) (i : Int) (y1 : Unit) : Option (List Backend) :=
  need ((0 : Int) ≤ i ∧ i < (↑l.length : Int))
    (bif decide ((l.getD i.toNat d_Backend).Busy < (1000000 : Int)) then
      need (InR IntKind.i64 ((l.getD i.toNat d_Backend).Busy + (1 : Int)))
        (need (l.length ≤ (8 : Nat) ∧ (0 : Int) ≤ i ∧ i < (↑l.length : Int))
          (some
            (l.set i.toNat
              (Backend.mk (l.getD i.toNat d_Backend).Name (l.getD i.toNat d_Backend).Load ((l.getD i.toNat d_Backend).Busy + (1 : Int)) (l.getD i.toNat d_Backend).Weight
                (l.getD i.toNat d_Backend).Fails (l.getD i.toNat d_Backend).Out))))
    else need (l.length ≤ (8 : Nat) ∧ (0 : Int) ≤ i ∧ i < (↑l.length : Int)) (some (l.set i.toNat (l.getD i.toNat d_Backend))))
noncomputable def rbegin (l : List Backend) (i : Int) : Option (List Backend) :=
  bindS (rbegin_s1 l i) (rbegin_s2 l i)
theorem rbegin_run (l : List Backend) (i : Int) : rbegin l i = (evC T S g_rbegin 30 j_rbegin (Try.f22.body.getD .skip) rs_rbegin.X (St.init (as_rbegin.enc (l, i)).1 (as_rbegin.enc (l, i)).2) (retL T S Try.f22.results.toList rs_rbegin 0 [])).run := by kernel_rfl

def as_rend : ArgShp D := args (aCons (aLf cd_LBackend) (aCons (aLf (cInt .i64)) (aCons (aLf (cInt .i64)) (a1 (aLf (cInt .i64))))))
theorem as_rend_ok : ArgOk S as_rend 0 72 := args_ok (aCons_ok (aLf_ok cd_LBackend_ok) (aCons_ok (aLf_ok (cInt_ok _)) (aCons_ok (aLf_ok (cInt_ok _)) (a1_ok (aLf_ok (cInt_ok _)))))) rfl
def rs_rend : Shp D := shr [.slot 0 false [none]] (l1 cd_LBackend)
theorem rs_rend_ok : ShpOk S rs_rend := shr_ok (l1_ok cd_LBackend_ok)
def jt_rend : List (Nat × Shp D) := [(18, shp (fun sl => [.slot 10 false [none], .slot 11 false [none]]) (lCons (cInt .i64) (l1 (cInt .i64)))), (100003, shp (fun sl => []) l0), (100006, shp (fun sl => [.cells (pid (sl 9)) [none, none, none, none, none, none]]) (l1 cd_Backend)), (100013, shp (fun sl => [.slot 36 false [none]]) (l1 cBool)), (100015, shp (fun sl => [.cells (pid (sl 9)) [none, none, none, none, none, none]]) (l1 cd_Backend))]
def j_rend : Nat → Option (Shp D) := lk jt_rend
theorem j_rend_ok : ∀ i sh, j_rend i = some sh → ShpOk S sh := by
  intro i sh h
  have := lk_mem h
  simp only [jt_rend, List.mem_cons, Prod.mk.injEq, List.not_mem_nil, or_false] at this
  rcases this with ⟨_, rfl⟩ | ⟨_, rfl⟩ | ⟨_, rfl⟩ | ⟨_, rfl⟩ | ⟨_, rfl⟩
  · exact shp_ok (lCons_ok (cInt_ok _) (l1_ok (cInt_ok _)))
  · exact shp_ok l0_ok
  · exact shp_ok (l1_ok cd_Backend_ok)
  · exact shp_ok (l1_ok cBool_ok)
  · exact shp_ok (l1_ok cd_Backend_ok)
noncomputable def gt_rend : List (Nat × Ct D) := [(32, ct_rat), (37, ct_rwith)]
noncomputable def g_rend : FuncId → Option (Ct D) := lk gt_rend
theorem g_rend_ok : ∀ f ct, g_rend f = some ct → CtOk Try.prog S f ct := by
  intro f ct h
  have := lk_mem h
  simp only [gt_rend, List.mem_cons, Prod.mk.injEq, List.not_mem_nil, or_false] at this
  rcases this with ⟨rfl, rfl⟩ | ⟨rfl, rfl⟩
  · exact ct_rat_ok
  · exact ct_rwith_ok
noncomputable def rend_s1 (l : List Backend) (i : Int) (now : Int) (y4 : Backend) (x5 : Int × Int) : Option (Int × Int ⊕ List Backend) :=
  bif decide (x5.snd < y4.Fails) then
    bif decide (x5.snd < (9 : Int)) then
      need (InR IntKind.i64 (x5.fst * (2 : Int))) (need (InR IntKind.i64 (x5.snd + (1 : Int))) (some (Sum.inl (x5.fst * (2 : Int), x5.snd + (1 : Int)))))
    else
      need (InR IntKind.i64 (min (max now (0 : Int)) (1099511627776 : Int) + x5.fst))
        (need (l.length ≤ (8 : Nat) ∧ (0 : Int) ≤ i ∧ i < (↑l.length : Int))
          (some (Sum.inr (l.set i.toNat (Backend.mk y4.Name y4.Load y4.Busy y4.Weight y4.Fails (min (max now (0 : Int)) (1099511627776 : Int) + x5.fst))))))
  else
    need (InR IntKind.i64 (min (max now (0 : Int)) (1099511627776 : Int) + x5.fst))
      (need (l.length ≤ (8 : Nat) ∧ (0 : Int) ≤ i ∧ i < (↑l.length : Int))
        (some (Sum.inr (l.set i.toNat (Backend.mk y4.Name y4.Load y4.Busy y4.Weight y4.Fails (min (max now (0 : Int)) (1099511627776 : Int) + x5.fst))))))
noncomputable def rend_s2 (y2 : Backend) : Option (Backend ⊕ List Backend) :=
  bif decide (y2.Fails < (1000000 : Int)) then
    need (InR IntKind.i64 (y2.Fails + (1 : Int))) (some (Sum.inl (Backend.mk y2.Name y2.Load y2.Busy y2.Weight (y2.Fails + (1 : Int)) y2.Out)))
  else some (Sum.inl y2)
noncomputable def rend_s3 (l : List Backend) (i : Int) (now : Int) (y4 : Backend) : Option (List Backend) :=
  bif decide ((3 : Int) ≤ y4.Fails) then loopU (rend_s1 l i now y4) ((1000 : Int), (3 : Int))
  else need (l.length ≤ (8 : Nat) ∧ (0 : Int) ≤ i ∧ i < (↑l.length : Int)) (some (l.set i.toNat y4))
noncomputable def rend_s4 (code : Int) : Option (Bool ⊕ List Backend) :=
  bif code == (12 : Int) then some (Sum.inl (code == (12 : Int)))
  else bif code == (11 : Int) then some (Sum.inl (code == (11 : Int))) else bif code == (13 : Int) then some (Sum.inl (code == (13 : Int))) else some (Sum.inl (code == (3 : Int)))
noncomputable def rend_s5 (l : List Backend) (i : Int) (now : Int) (y2 : Backend) (y3 : Bool) : Option (List Backend) :=
  bif y3 then bindS (rend_s2 y2) (rend_s3 l i now) else need (l.length ≤ (8 : Nat) ∧ (0 : Int) ≤ i ∧ i < (↑l.length : Int)) (some (l.set i.toNat y2))
noncomputable def rend_s6 (l : List Backend) (i : Int) : Option (Backend ⊕ List Backend) :=
  bif decide ((0 : Int) < (l.getD i.toNat d_Backend).Busy) then
    need (InR IntKind.i64 ((l.getD i.toNat d_Backend).Busy - (1 : Int)))
      (some
        (Sum.inl
          (Backend.mk (l.getD i.toNat d_Backend).Name (l.getD i.toNat d_Backend).Load ((l.getD i.toNat d_Backend).Busy - (1 : Int)) (l.getD i.toNat d_Backend).Weight
            (l.getD i.toNat d_Backend).Fails (l.getD i.toNat d_Backend).Out)))
  else some (Sum.inl (l.getD i.toNat d_Backend))
noncomputable def rend_s7 (l : List Backend) (i : Int) (code : Int) (now : Int) (y2 : Backend) : Option (List Backend) :=
  bif code == (0 : Int) then
    need (l.length ≤ (8 : Nat) ∧ (0 : Int) ≤ i ∧ i < (↑l.length : Int)) (some (l.set i.toNat (Backend.mk y2.Name y2.Load y2.Busy y2.Weight (0 : Int) y2.Out)))
  else bindS (rend_s4 code) (rend_s5 l i now y2)
noncomputable def rend_s8 (l : List Backend) (i : Int) : Option (Unit ⊕ List Backend) :=
  bif decide (i < (0 : Int)) then some (Sum.inr l) else bif decide ((↑l.length : Int) ≤ i) then some (Sum.inr l) else some (Sum.inl ())
noncomputable def rend_s9 (l : List Backend) (i : Int) (code : Int) (now : Int) (y1 : Unit) : Option (List Backend) :=
  need ((0 : Int) ≤ i ∧ i < (↑l.length : Int)) (bindS (rend_s6 l i) (rend_s7 l i code now))
noncomputable def rend (l : List Backend) (i : Int) (code : Int) (now : Int) : Option (List Backend) :=
  bindS (rend_s8 l i) (rend_s9 l i code now)
theorem rend_run (l : List Backend) (i : Int) (code : Int) (now : Int) : rend l i code now = (evC T S g_rend 72 j_rend (Try.f23.body.getD .skip) rs_rend.X (St.init (as_rend.enc (l, i, code, now)).1 (as_rend.enc (l, i, code, now)).2) (retL T S Try.f23.results.toList rs_rend 0 [])).run := by kernel_rfl

def as_rreport : ArgShp D := args (aCons (aLf cd_LBackend) (aCons (aLf (cInt .i64)) (a1 (aLf (cInt .i64)))))
theorem as_rreport_ok : ArgOk S as_rreport 0 29 := args_ok (aCons_ok (aLf_ok cd_LBackend_ok) (aCons_ok (aLf_ok (cInt_ok _)) (a1_ok (aLf_ok (cInt_ok _))))) rfl
def rs_rreport : Shp D := shr [.slot 0 false [none]] (l1 cd_LBackend)
theorem rs_rreport_ok : ShpOk S rs_rreport := shr_ok (l1_ok cd_LBackend_ok)
def jt_rreport : List (Nat × Shp D) := [(100003, shp (fun sl => []) l0)]
def j_rreport : Nat → Option (Shp D) := lk jt_rreport
theorem j_rreport_ok : ∀ i sh, j_rreport i = some sh → ShpOk S sh := by
  intro i sh h
  have := lk_mem h
  simp only [jt_rreport, List.mem_cons, Prod.mk.injEq, List.not_mem_nil, or_false] at this
  rcases this with ⟨_, rfl⟩
  · exact shp_ok l0_ok
noncomputable def gt_rreport : List (Nat × Ct D) := [(37, ct_rwith)]
noncomputable def g_rreport : FuncId → Option (Ct D) := lk gt_rreport
theorem g_rreport_ok : ∀ f ct, g_rreport f = some ct → CtOk Try.prog S f ct := by
  intro f ct h
  have := lk_mem h
  simp only [gt_rreport, List.mem_cons, Prod.mk.injEq, List.not_mem_nil, or_false] at this
  rcases this with ⟨rfl, rfl⟩
  · exact ct_rwith_ok
noncomputable def rreport_s1 (l : List Backend) (i : Int) : Option (Unit ⊕ List Backend) :=
  bif decide (i < (0 : Int)) then some (Sum.inr l) else bif decide ((↑l.length : Int) ≤ i) then some (Sum.inr l) else some (Sum.inl ())
noncomputable def rreport_s2 (l : List Backend) (i : Int) (load : Int) (y1 : Unit) : Option (List Backend) :=
  need ((0 : Int) ≤ i ∧ i < (↑l.length : Int))
    (need (l.length ≤ (8 : Nat) ∧ (0 : Int) ≤ i ∧ i < (↑l.length : Int))
      (some
        (l.set i.toNat
          (Backend.mk (l.getD i.toNat d_Backend).Name (min (max load (0 : Int)) (1000000 : Int)) (l.getD i.toNat d_Backend).Busy (l.getD i.toNat d_Backend).Weight
            (l.getD i.toNat d_Backend).Fails (l.getD i.toNat d_Backend).Out))))
noncomputable def rreport (l : List Backend) (i : Int) (load : Int) : Option (List Backend) :=
  bindS (rreport_s1 l i) (rreport_s2 l i load)
theorem rreport_run (l : List Backend) (i : Int) (load : Int) : rreport l i load = (evC T S g_rreport 29 j_rreport (Try.f25.body.getD .skip) rs_rreport.X (St.init (as_rreport.enc (l, i, load)).1 (as_rreport.enc (l, i, load)).2) (retL T S Try.f25.results.toList rs_rreport 0 [])).run := by kernel_rfl


theorem bk_eta (b : Backend) : Backend.mk b.Name b.Load b.Busy b.Weight b.Fails b.Out = b := rfl
theorem r_guard {l : List Backend} {i : Int} {x : Unit → Option (List Backend)} {f : Backend → Backend} (hx : 0 ≤ i → i < l.length → x () = some (l.set i.toNat (f (l.getD i.toNat d_Backend)))) :
    bindS (bif decide (i < 0) then some (Sum.inr l) else bif decide ((l.length : Int) ≤ i) then some (Sum.inr l) else some (Sum.inl ())) x = some (chg l i f) := by
  unfold chg
  by_cases h1 : i < 0
  · have h1' : ¬ 0 ≤ i := by omega
    simp [h1, h1', bindS]
  · by_cases h2 : (l.length : Int) ≤ i
    · have h2' : ¬ i < (l.length : Int) := by omega
      simp [h1, h2, h2', bindS]
    · have h1' : 0 ≤ i := by omega
      have h2' : i < (l.length : Int) := by omega
      rw [if_pos ⟨h1', h2'⟩, ← hx h1' h2']
      simp [h1, h2, bindS]
theorem rbegin_eq (l : List Backend) (i : Int) (h : Valid l) : rbegin l i = some (chg l i incB) := by
  unfold rbegin rbegin_s1
  refine r_guard fun h1 h2 => ?_
  have h3 : i.toNat < l.length := by omega
  have hf := h.at h3
  unfold rbegin_s2
  simp only [h1, h2, h.len, and_self, need_true]
  generalize l.getD i.toNat d_Backend = b at *
  unfold Fine at hf
  unfold incB
  by_cases hb : b.Busy < 1000000
  · have hr : InR .i64 (b.Busy + 1) := by simp only [InR]; omega
    have e : min (max (b.Busy + 1) 0) 1000000 = b.Busy + 1 := by omega
    simp only [hb, hr, e, decide_true, cond_true, need_true]
  · have e : min (max (b.Busy + 1) 0) 1000000 = b.Busy := by omega
    simp only [hb, e, decide_false, cond_false]
theorem rreport_eq (l : List Backend) (i load : Int) (h : l.length ≤ 8) : rreport l i load = some (chg l i fun b => repB b load) := by
  unfold rreport rreport_s1
  refine r_guard (f := fun b => repB b load) fun h1 h2 => ?_
  unfold rreport_s2
  simp only [h1, h2, h, and_self, need_true]
  rfl
theorem rend_loop (l : List Backend) (i now : Int) (b : Backend) (h : l.length ≤ 8 ∧ 0 ≤ i ∧ i < l.length) (h3 : 3 ≤ b.Fails) : loopU (rend_s1 l i now b) (1000, 3) = some (l.set i.toNat (outB b (min (max now 0) 1099511627776))) := by
  have key := loop_acc (step := rend_s1 l i now b) (fun (_ : Unit) k => (1000 * 2 ^ k.toNat, 3 + k)) (fun _ _ => True) (fun _ a => a) (n := (min (b.Fails - 3) 6).toNat) (r := fun _ => l.set i.toNat (outB b (min (max now 0) 1099511627776)))
    (fun k a hk _ => ⟨?_, trivial⟩) (fun a _ => ?_) (min (b.Fails - 3) 6).toNat 0 () (by omega) trivial
  · exact key
  · have c1 : 3 + (k : Int) < b.Fails := by omega
    have c2 : 3 + (k : Int) < 9 := by omega
    have hp := pow_le k (by omega)
    have c3 : InR .i64 (1000 * 2 ^ k * 2) := by simp only [InR]; omega
    have c4 : InR .i64 (3 + (k : Int) + 1) := by simp only [InR]; omega
    have e1 : ((k + 1 : Nat) : Int).toNat = k + 1 := by omega
    have e2 : 3 + ((k + 1 : Nat) : Int) = 3 + (k : Int) + 1 := by omega
    have e3 : (1000 : Int) * 2 ^ (k + 1) = 1000 * 2 ^ k * 2 := by rw [Int.pow_succ, Int.mul_assoc]
    unfold rend_s1
    simp only [Int.toNat_natCast, c1, c2, c3, c4, e1, e2, e3, decide_true, cond_true, need_true]
  · have hn : (min (b.Fails - 3) 6).toNat ≤ 6 := by omega
    have hp := pow_le _ hn
    have hor : ¬ (3 + ((min (b.Fails - 3) 6).toNat : Int) < b.Fails) ∨ ¬ (3 + ((min (b.Fails - 3) 6).toNat : Int) < 9) := by omega
    unfold rend_s1
    simp only [Int.toNat_natCast]
    have c5 : InR .i64 (min (max now 0) 1099511627776 + 1000 * 2 ^ (min (b.Fails - 3) 6).toNat) := by simp only [InR]; omega
    simp only [h, c5, and_self, need_true]
    have e : Backend.mk b.Name b.Load b.Busy b.Weight b.Fails (min (max now 0) 1099511627776 + 1000 * 2 ^ (min (b.Fails - 3) 6).toNat) = outB b (min (max now 0) 1099511627776) := rfl
    rw [e]
    rcases hor with hx | hx
    · simp only [hx, decide_false, cond_false]
    · simp only [hx, decide_false, cond_false, Bool.cond_self]
theorem rend_eq (l : List Backend) (i code now : Int) (h : Valid l) : rend l i code now = some (chg l i fun b => endB b code (min (max now 0) 1099511627776)) := by
  unfold rend rend_s8
  refine r_guard (f := fun b => endB b code (min (max now 0) 1099511627776)) fun h1 h2 => ?_
  have h3 : i.toNat < l.length := by omega
  have hf := h.at h3
  have hpre : l.length ≤ 8 ∧ 0 ≤ i ∧ i < l.length := ⟨h.len, h1, h2⟩
  have e6 : rend_s6 l i = some (.inl (decB (l.getD i.toNat d_Backend))) := by
    unfold rend_s6
    generalize l.getD i.toNat d_Backend = b at *
    unfold Fine at hf
    unfold decB
    by_cases hb : 0 < b.Busy
    · have hr : InR .i64 (b.Busy - 1) := by simp only [InR]; omega
      have e : min (max (b.Busy - 1) 0) 1000000 = b.Busy - 1 := by omega
      simp only [hb, hr, e, decide_true, cond_true, need_true]
    · have e : min (max (b.Busy - 1) 0) 1000000 = b.Busy := by omega
      simp only [hb, e, decide_false, cond_false]
  have e4 : rend_s4 code = some (.inl (failCode code)) := by
    unfold rend_s4 failCode
    cases code == 12 <;> cases code == 11 <;> cases code == 13 <;> rfl
  unfold rend_s9
  rw [need_pos ⟨h1, h2⟩, e6]
  generalize l.getD i.toNat d_Backend = b at *
  show rend_s7 l i code now (decB b) = _
  unfold rend_s7 endB
  by_cases hc : code = 0
  · subst hc
    have hx : failCode 0 = false := rfl
    simp only [hx, beq_self_eq_true, cond_true, hpre, and_self, need_true, Bool.false_eq_true, if_false, if_true]
    rfl
  have hc' : (code == 0) = false := by simpa using hc
  simp only [hc, hc', cond_false, if_false, e4]
  show rend_s5 l i now (decB b) (failCode code) = _
  unfold rend_s5
  cases failCode code with
  | false => simp only [cond_false, hpre, and_self, need_true, Bool.false_eq_true, if_false]
  | true =>
    have hF : 0 ≤ (decB b).Fails ∧ (decB b).Fails ≤ 1000000 := by unfold Fine at hf; exact hf.2.2.1
    generalize decB b = c at *
    have e2 : rend_s2 c = some (.inl (failB c)) := by
      unfold rend_s2 failB
      by_cases hb : c.Fails < 1000000
      · have hr : InR .i64 (c.Fails + 1) := by simp only [InR]; omega
        have e : min (max (c.Fails + 1) 0) 1000000 = c.Fails + 1 := by omega
        simp only [hb, hr, e, decide_true, cond_true, need_true]
      · have e : min (max (c.Fails + 1) 0) 1000000 = c.Fails := by omega
        simp only [hb, e, decide_false, cond_false]
    simp only [cond_true, if_true, e2]
    show rend_s3 l i now (failB c) = _
    unfold rend_s3
    by_cases hk : 3 ≤ (failB c).Fails
    · simp only [hk, decide_true, cond_true, if_true]
      exact rend_loop l i now _ hpre hk
    · simp only [hk, decide_false, cond_false, if_false, hpre, and_self, need_true]
/-! What a change keeps -/
theorem fine_inc {b : Backend} (h : Fine b) : Fine (incB b) := by
  unfold Fine incB at *
  dsimp only
  omega
theorem fine_rep {b : Backend} (load : Int) (h : Fine b) : Fine (repB b load) := by
  unfold Fine repB at *
  dsimp only
  omega
theorem fine_dec {b : Backend} (h : Fine b) : Fine (decB b) := by
  unfold Fine decB at *
  dsimp only
  omega
theorem fine_fail {b : Backend} (h : Fine b) : Fine (failB b) := by
  unfold Fine failB at *
  dsimp only
  omega
theorem fine_zero {b : Backend} (h : Fine b) : Fine (zeroB b) := by
  unfold Fine zeroB at *
  dsimp only
  omega
theorem fine_out {b : Backend} {now : Int} (h : Fine b) (h3 : 3 ≤ b.Fails) (h0 : 0 ≤ now) (h1 : now ≤ 1099511627776) : Fine (outB b now) := by
  have hp := pow_le (min (b.Fails - 3) 6).toNat (by omega)
  unfold Fine outB at *
  dsimp only
  omega
theorem fine_end {b : Backend} {code now : Int} (h : Fine b) (h0 : 0 ≤ now) (h1 : now ≤ 1099511627776) : Fine (endB b code now) := by
  unfold endB
  split
  · split
    · exact fine_out (fine_fail (fine_dec h)) (by assumption) h0 h1
    · exact fine_fail (fine_dec h)
  · split
    · exact fine_zero (fine_dec h)
    · exact fine_dec h
theorem name_end (b : Backend) (code now : Int) : (endB b code now).Name = b.Name := by
  unfold endB
  repeat' split
  all_goals rfl
theorem chg_len (l : List Backend) (i : Int) (f : Backend → Backend) : (chg l i f).length = l.length := by
  unfold chg
  split <;> simp
theorem chg_at (l : List Backend) (i : Int) (f : Backend → Backend) (k : Nat) (hk : k < l.length) : (chg l i f).getD k d_Backend = if (k : Int) = i then f (l.getD k d_Backend) else l.getD k d_Backend := by
  unfold chg
  split
  · rw [set_getD _ _ _ _ hk]
    by_cases e : (k : Int) = i
    · have e' : k = i.toNat := by omega
      rw [if_pos e, if_pos e', ← e']
    · have e' : ¬ k = i.toNat := by omega
      rw [if_neg e, if_neg e']
  · rw [if_neg (by omega)]
theorem valid_of {l : List Backend} (h8 : l.length ≤ 8) (h : ∀ k, k < l.length → Fine (l.getD k d_Backend)) : Valid l := by
  refine ⟨h8, fun b hb => ?_⟩
  obtain ⟨k, hk, rfl⟩ := List.getElem_of_mem hb
  rw [← getD_some (d := d_Backend) hk]
  exact h k hk
theorem Valid.chg {l : List Backend} (h : Valid l) (i : Int) {f : Backend → Backend} (hf : ∀ b, Fine b → Fine (f b)) : Valid (chg l i f) := by
  refine valid_of (by rw [chg_len]; exact h.len) fun k hk => ?_
  rw [chg_len] at hk
  rw [chg_at _ _ _ _ hk]
  split
  · exact hf _ (h.at hk)
  · exact h.at hk
/-- A change that keeps the name keeps the validity. -/
theorem chk_chg {l : List Backend} (h : chk l = 0) (i : Int) {f : Backend → Backend} (hf : ∀ b, Fine b → Fine (f b)) (hn : ∀ b, (f b).Name = b.Name) : chk (chg l i f) = 0 := by
  obtain ⟨hv, ha⟩ := chk_valid h
  have hv' := hv.chg i hf
  have hnm : ∀ k, k < l.length → ((Go.Proofs.Ytenpaaocemjljaa.chg l i f).getD k d_Backend).Name = (l.getD k d_Backend).Name := by
    intro k hk
    rw [chg_at _ _ _ _ hk]
    split
    · exact hn _
    · rfl
  refine valid_chk hv'.len fun k hk => ?_
  have hF := hv'.at hk
  rw [chg_len] at hk
  have := ha k hk
  unfold chkAt at this ⊢
  rw [if_pos hF]
  rw [hnm k hk]
  by_cases h0 : 0 < k
  · rw [hnm (k - 1) (by omega)]
    split at this
    · cases this
    · split at this
      · cases this
      · rename_i a1 a2
        rw [if_neg a1, if_neg a2]
  · split at this
    · cases this
    · rename_i a1
      rw [if_neg a1, if_neg (fun hh => h0 hh.1)]


noncomputable def ct_rbegin : Ct D := ctN as_rbegin rs_rbegin 1 [] (fun a => some ((fun (l : List Backend) (i : Int) => (Valid l : Prop)) (a.1) (a.2))) (fun a => (fun (l : List Backend) (i : Int) => (chg l i incB : List Backend)) (a.1) (a.2))
theorem ct_rbegin_ok : CtOk Try.prog S 22 ct_rbegin :=
  fn_okN mixed T_ok g_rbegin_ok S_ok j_rbegin_ok Try.func22 rfl (by kernel_rfl) Try.ntmps22 rfl (by kernel_rfl) as_rbegin_ok rs_rbegin_ok (fun a => some ((fun (l : List Backend) (i : Int) => (Valid l : Prop)) (a.1) (a.2))) (fun a => (fun (l : List Backend) (i : Int) => (chg l i incB : List Backend)) (a.1) (a.2))
    (fun a h => (rbegin_run (a.1) (a.2)).symm.trans (rbegin_eq (a.1) (a.2) h))

noncomputable def ct_rend : Ct D := ctN as_rend rs_rend 1 [] (fun a => some ((fun (l : List Backend) (i : Int) (code : Int) (now : Int) => (Valid l : Prop)) (a.1) (a.2.1) (a.2.2.1) (a.2.2.2))) (fun a => (fun (l : List Backend) (i : Int) (code : Int) (now : Int) => (chg l i fun b => endB b code (min (max now 0) 1099511627776) : List Backend)) (a.1) (a.2.1) (a.2.2.1) (a.2.2.2))
theorem ct_rend_ok : CtOk Try.prog S 23 ct_rend :=
  fn_okN mixed T_ok g_rend_ok S_ok j_rend_ok Try.func23 rfl (by kernel_rfl) Try.ntmps23 rfl (by kernel_rfl) as_rend_ok rs_rend_ok (fun a => some ((fun (l : List Backend) (i : Int) (code : Int) (now : Int) => (Valid l : Prop)) (a.1) (a.2.1) (a.2.2.1) (a.2.2.2))) (fun a => (fun (l : List Backend) (i : Int) (code : Int) (now : Int) => (chg l i fun b => endB b code (min (max now 0) 1099511627776) : List Backend)) (a.1) (a.2.1) (a.2.2.1) (a.2.2.2))
    (fun a h => (rend_run (a.1) (a.2.1) (a.2.2.1) (a.2.2.2)).symm.trans (rend_eq (a.1) (a.2.1) (a.2.2.1) (a.2.2.2) h))

noncomputable def ct_rreport : Ct D := ctN as_rreport rs_rreport 1 [] (fun a => some ((fun (l : List Backend) (i : Int) (load : Int) => (l.length ≤ 8 : Prop)) (a.1) (a.2.1) (a.2.2))) (fun a => (fun (l : List Backend) (i : Int) (load : Int) => (chg l i fun b => repB b load : List Backend)) (a.1) (a.2.1) (a.2.2))
theorem ct_rreport_ok : CtOk Try.prog S 25 ct_rreport :=
  fn_okN mixed T_ok g_rreport_ok S_ok j_rreport_ok Try.func25 rfl (by kernel_rfl) Try.ntmps25 rfl (by kernel_rfl) as_rreport_ok rs_rreport_ok (fun a => some ((fun (l : List Backend) (i : Int) (load : Int) => (l.length ≤ 8 : Prop)) (a.1) (a.2.1) (a.2.2))) (fun a => (fun (l : List Backend) (i : Int) (load : Int) => (chg l i fun b => repB b load : List Backend)) (a.1) (a.2.1) (a.2.2))
    (fun a h => (rreport_run (a.1) (a.2.1) (a.2.2)).symm.trans (rreport_eq (a.1) (a.2.1) (a.2.2) h))
end Go.Proofs.Ytenpaaocemjljaa
