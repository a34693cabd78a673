/-
  Balance: what a change does to one backend; Pick.
-/
import Derived.Test.YtenpaaocemjljaaC
namespace Go.Proofs.Ytenpaaocemjljaa
open Go.RowKit Go.Vc
set_option linter.unusedVariables false
set_option linter.unusedSimpArgs false
set_option maxRecDepth 100000


theorem mul_in {x w : Int} (h1 : 0 ≤ x) (h2 : x ≤ 2000000) (h3 : 1 ≤ w) (h4 : w ≤ 100) : 0 ≤ x * w ∧ x * w ≤ 200000000 := by
  have a := Int.mul_nonneg h1 (show 0 ≤ w by omega)
  have b : x * w ≤ 2000000 * 100 := Int.mul_le_mul h2 h4 (by omega) (by omega)
  omega
def lessB (a b : Backend) : Bool := decide ((a.Busy + a.Load) * b.Weight < (b.Busy + b.Load) * a.Weight) || ((a.Busy + a.Load) * b.Weight == (b.Busy + b.Load) * a.Weight && decide (a.Busy < b.Busy))
theorem less_in {a b : Backend} (ha : Fine a) (hb : Fine b) : InR .i64 (a.Busy + a.Load) ∧ InR .i64 ((a.Busy + a.Load) * b.Weight) := by
  unfold Fine at ha hb
  have := mul_in (x := a.Busy + a.Load) (w := b.Weight) (by omega) (by omega) (by omega) (by omega)
  simp only [InR]
  omega
theorem before_eq (a b : Backend) (h : Fine a ∧ Fine b) : before a b = some (lessB a b) := by
  obtain ⟨h1, h2⟩ := less_in h.1 h.2
  obtain ⟨h3, h4⟩ := less_in h.2 h.1
  unfold before lessB
  simp only [h1, h2, h3, h4, need_true]
  cases decide ((a.Busy + a.Load) * b.Weight < (b.Busy + b.Load) * a.Weight) <;> cases (a.Busy + a.Load) * b.Weight == (b.Busy + b.Load) * a.Weight <;> rfl
def fewB (a b : Backend) : Bool := decide ((a.Busy + a.Load) * b.Weight < (b.Busy + b.Load) * a.Weight)
theorem pless_eq (a b : Backend) (h : Fine a ∧ Fine b) : pless a b = some (fewB a b) := by
  obtain ⟨h1, h2⟩ := less_in h.1 h.2
  obtain ⟨h3, h4⟩ := less_in h.2 h.1
  unfold pless fewB
  simp only [h1, h2, h3, h4, need_true]
def pickB (now : Int) (a b : Backend) : Bool := bif decide (a.Out ≤ now) != decide (b.Out ≤ now) then decide (a.Out ≤ now) else lessB a b
theorem pickLess_eq (a b : Backend) (now : Int) (h : Fine a ∧ Fine b) : pickLess a b now = some (pickB now a b) := by
  obtain ⟨h1, h2⟩ := less_in h.1 h.2
  obtain ⟨h3, h4⟩ := less_in h.2 h.1
  unfold pickLess pickB lessB
  simp only [h1, h2, h3, h4, need_true]
  cases decide (a.Out ≤ now) != decide (b.Out ≤ now) <;> cases decide ((a.Busy + a.Load) * b.Weight < (b.Busy + b.Load) * a.Weight) <;> cases (a.Busy + a.Load) * b.Weight == (b.Busy + b.Load) * a.Weight <;> rfl


noncomputable def ct_before : Ct D := ctN as_before rs_before 1 [] (fun a => some ((fun (a : Backend) (b : Backend) => (Fine a ∧ Fine b : Prop)) (a.1) (a.2))) (fun a => (fun (a : Backend) (b : Backend) => (lessB a b : Bool)) (a.1) (a.2))
theorem ct_before_ok : CtOk Try.prog S 33 ct_before :=
  fn_okN mixed T_ok g_before_ok S_ok j_before_ok Try.func33 rfl (by kernel_rfl) Try.ntmps33 rfl (by kernel_rfl) as_before_ok rs_before_ok (fun a => some ((fun (a : Backend) (b : Backend) => (Fine a ∧ Fine b : Prop)) (a.1) (a.2))) (fun a => (fun (a : Backend) (b : Backend) => (lessB a b : Bool)) (a.1) (a.2))
    (fun a h => (before_run (a.1) (a.2)).symm.trans (before_eq (a.1) (a.2) h))

noncomputable def ct_pless : Ct D := ctN as_pless rs_pless 1 [] (fun a => some ((fun (a : Backend) (b : Backend) => (Fine a ∧ Fine b : Prop)) (a.1) (a.2))) (fun a => (fun (a : Backend) (b : Backend) => (fewB a b : Bool)) (a.1) (a.2))
theorem ct_pless_ok : CtOk Try.prog S 17 ct_pless :=
  fn_okN mixed T_ok g_pless_ok S_ok j_pless_ok Try.func17 rfl (by kernel_rfl) Try.ntmps17 rfl (by kernel_rfl) as_pless_ok rs_pless_ok (fun a => some ((fun (a : Backend) (b : Backend) => (Fine a ∧ Fine b : Prop)) (a.1) (a.2))) (fun a => (fun (a : Backend) (b : Backend) => (fewB a b : Bool)) (a.1) (a.2))
    (fun a h => (pless_run (a.1) (a.2)).symm.trans (pless_eq (a.1) (a.2) h))

noncomputable def ct_pickLess : Ct D := ctN as_pickLess rs_pickLess 1 [0] (fun a => some ((fun (a : Backend) (b : Backend) (now : Int) => (Fine a ∧ Fine b : Prop)) (a.1.1) (a.1.2.1) (a.2))) (fun a => (fun (a : Backend) (b : Backend) (now : Int) => (pickB now a b : Bool)) (a.1.1) (a.1.2.1) (a.2))
theorem ct_pickLess_ok : CtOk Try.prog S 31 ct_pickLess :=
  fn_okN mixed T_ok g_pickLess_ok S_ok j_pickLess_ok Try.func31 rfl (by kernel_rfl) Try.ntmps31 rfl (by kernel_rfl) as_pickLess_ok rs_pickLess_ok (fun a => some ((fun (a : Backend) (b : Backend) (now : Int) => (Fine a ∧ Fine b : Prop)) (a.1.1) (a.1.2.1) (a.2))) (fun a => (fun (a : Backend) (b : Backend) (now : Int) => (pickB now a b : Bool)) (a.1.1) (a.1.2.1) (a.2))
    (fun a h => (pickLess_run (a.1.1) (a.1.2.1) (a.2)).symm.trans (pickLess_eq (a.1.1) (a.1.2.1) (a.2) h))

def as_pick : ArgShp D := args (aCons (aLf cd_LBackend) (a1 (aLf (cInt .i64))))
theorem as_pick_ok : ArgOk S as_pick 0 33 := args_ok (aCons_ok (aLf_ok cd_LBackend_ok) (a1_ok (aLf_ok (cInt_ok _)))) rfl
def rs_pick : Shp D := shr [.slot 0 false [none]] (l1 (cInt .i64))
theorem rs_pick_ok : ShpOk S rs_pick := shr_ok (l1_ok (cInt_ok _))
def jt_pick : List (Nat × Shp D) := [(5, shp (fun sl => [.slot 6 false [none], .slot 13 false [none]]) (lCons (cInt .i64) (l1 (cInt .i64))))]
def j_pick : Nat → Option (Shp D) := lk jt_pick
theorem j_pick_ok : ∀ i sh, j_pick i = some sh → ShpOk S sh := by
  intro i sh h
  have := lk_mem h
  simp only [jt_pick, List.mem_cons, Prod.mk.injEq, List.not_mem_nil, or_false] at this
  rcases this with ⟨_, rfl⟩
  · exact shp_ok (lCons_ok (cInt_ok _) (l1_ok (cInt_ok _)))
noncomputable def gt_pick : List (Nat × Ct D) := [(30, ct_bound), (31, ct_pickLess)]
noncomputable def g_pick : FuncId → Option (Ct D) := lk gt_pick
theorem g_pick_ok : ∀ f ct, g_pick f = some ct → CtOk Try.prog S f ct := by
  intro f ct h
  have := lk_mem h
  simp only [gt_pick, List.mem_cons, Prod.mk.injEq, List.not_mem_nil, or_false] at this
  rcases this with ⟨rfl, rfl⟩ | ⟨rfl, rfl⟩
  · exact ct_bound_ok
  · exact ct_pickLess_ok
noncomputable def pick_s1 (l : List Backend) (now : Int) (x1 : Int × Int) : Option (Int × Int ⊕ Int) :=
  bif decide (x1.snd < (↑l.length : Int)) then
    bif decide (x1.fst < (0 : Int)) then need (InR IntKind.i64 (x1.snd + (1 : Int))) (some (Sum.inl (x1.snd, x1.snd + (1 : Int))))
    else
      need ((0 : Int) ≤ x1.snd ∧ x1.snd < (↑l.length : Int))
        (need ((0 : Int) ≤ x1.fst ∧ x1.fst < (↑l.length : Int))
          (need (Fine (l.getD x1.snd.toNat d_Backend) ∧ Fine (l.getD x1.fst.toNat d_Backend))
            (bif pickB (min (max now (0 : Int)) (1099511627776 : Int)) (l.getD x1.snd.toNat d_Backend) (l.getD x1.fst.toNat d_Backend) then
              need (InR IntKind.i64 (x1.snd + (1 : Int))) (some (Sum.inl (x1.snd, x1.snd + (1 : Int))))
            else need (InR IntKind.i64 (x1.snd + (1 : Int))) (some (Sum.inl (x1.fst, x1.snd + (1 : Int)))))))
  else some (Sum.inr x1.fst)
noncomputable def pick (l : List Backend) (now : Int) : Option Int :=
  loopU (pick_s1 l now) ((-1 : Int), (0 : Int))
theorem pick_run (l : List Backend) (now : Int) : pick l now = (evC T S g_pick 33 j_pick (Try.f15.body.getD .skip) rs_pick.X (St.init (as_pick.enc (l, now)).1 (as_pick.enc (l, now)).2) (retL T S Try.f15.results.toList rs_pick 0 [])).run := by kernel_rfl

def as_rpick : ArgShp D := args (aCons (aLf cd_LBackend) (a1 (aLf (cInt .i64))))
theorem as_rpick_ok : ArgOk S as_rpick 0 62 := args_ok (aCons_ok (aLf_ok cd_LBackend_ok) (a1_ok (aLf_ok (cInt_ok _)))) rfl
def rs_rpick : Shp D := shr [.slot 0 false [none]] (l1 (cInt .i64))
theorem rs_rpick_ok : ShpOk S rs_rpick := shr_ok (l1_ok (cInt_ok _))
def jt_rpick : List (Nat × Shp D) := [(3, shp (fun sl => [.slot 5 false [none], .slot 6 false [none]]) (lCons (cInt .i64) (l1 (cInt .i64)))), (10, shp (fun sl => [.slot 5 false [none], .slot 7 false [none]]) (lCons (cInt .i64) (l1 (cInt .i64)))), (100007, shp (fun sl => [.slot 5 false [none]]) (l1 (cInt .i64)))]
def j_rpick : Nat → Option (Shp D) := lk jt_rpick
theorem j_rpick_ok : ∀ i sh, j_rpick i = some sh → ShpOk S sh := by
  intro i sh h
  have := lk_mem h
  simp only [jt_rpick, List.mem_cons, Prod.mk.injEq, List.not_mem_nil, or_false] at this
  rcases this with ⟨_, rfl⟩ | ⟨_, rfl⟩ | ⟨_, rfl⟩
  · exact shp_ok (lCons_ok (cInt_ok _) (l1_ok (cInt_ok _)))
  · exact shp_ok (lCons_ok (cInt_ok _) (l1_ok (cInt_ok _)))
  · exact shp_ok (l1_ok (cInt_ok _))
noncomputable def gt_rpick : List (Nat × Ct D) := [(32, ct_rat), (33, ct_before)]
noncomputable def g_rpick : FuncId → Option (Ct D) := lk gt_rpick
theorem g_rpick_ok : ∀ f ct, g_rpick f = some ct → CtOk Try.prog S f ct := by
  intro f ct h
  have := lk_mem h
  simp only [gt_rpick, List.mem_cons, Prod.mk.injEq, List.not_mem_nil, or_false] at this
  rcases this with ⟨rfl, rfl⟩ | ⟨rfl, rfl⟩
  · exact ct_rat_ok
  · exact ct_before_ok
noncomputable def rpick_s1 (l : List Backend) (now : Int) (x1 : Int × Int) : Option (Int × Int ⊕ Int ⊕ Int) :=
  bif decide (x1.snd < (↑l.length : Int)) then
    need ((0 : Int) ≤ x1.snd ∧ x1.snd < (↑l.length : Int))
      (bif decide ((l.getD x1.snd.toNat d_Backend).Out ≤ min (max now (0 : Int)) (1099511627776 : Int)) then
        bif decide (x1.fst < (0 : Int)) then need (InR IntKind.i64 (x1.snd + (1 : Int))) (some (Sum.inl (x1.snd, x1.snd + (1 : Int))))
        else
          need ((0 : Int) ≤ x1.snd ∧ x1.snd < (↑l.length : Int))
            (need ((0 : Int) ≤ x1.fst ∧ x1.fst < (↑l.length : Int))
              (need (Fine (l.getD x1.snd.toNat d_Backend) ∧ Fine (l.getD x1.fst.toNat d_Backend))
                (bif lessB (l.getD x1.snd.toNat d_Backend) (l.getD x1.fst.toNat d_Backend) then
                  need (InR IntKind.i64 (x1.snd + (1 : Int))) (some (Sum.inl (x1.snd, x1.snd + (1 : Int))))
                else need (InR IntKind.i64 (x1.snd + (1 : Int))) (some (Sum.inl (x1.fst, x1.snd + (1 : Int)))))))
      else need (InR IntKind.i64 (x1.snd + (1 : Int))) (some (Sum.inl (x1.fst, x1.snd + (1 : Int)))))
  else some (Sum.inr (Sum.inl x1.fst))
noncomputable def rpick_s2 (l : List Backend) (x3 : Int × Int) : Option (Int × Int ⊕ Int) :=
  bif decide (x3.snd < (↑l.length : Int)) then
    bif decide (x3.fst < (0 : Int)) then need (InR IntKind.i64 (x3.snd + (1 : Int))) (some (Sum.inl (x3.snd, x3.snd + (1 : Int))))
    else
      need ((0 : Int) ≤ x3.snd ∧ x3.snd < (↑l.length : Int))
        (need ((0 : Int) ≤ x3.fst ∧ x3.fst < (↑l.length : Int))
          (need (Fine (l.getD x3.snd.toNat d_Backend) ∧ Fine (l.getD x3.fst.toNat d_Backend))
            (bif lessB (l.getD x3.snd.toNat d_Backend) (l.getD x3.fst.toNat d_Backend) then need (InR IntKind.i64 (x3.snd + (1 : Int))) (some (Sum.inl (x3.snd, x3.snd + (1 : Int))))
            else need (InR IntKind.i64 (x3.snd + (1 : Int))) (some (Sum.inl (x3.fst, x3.snd + (1 : Int)))))))
  else some (Sum.inr x3.fst)
noncomputable def rpick_s3 (l : List Backend) (now : Int) : Option (Int ⊕ Int) :=
  loopU (rpick_s1 l now) ((-1 : Int), (0 : Int))
noncomputable def rpick_s4 (l : List Backend) (y2 : Int) : Option Int :=
  bif decide ((0 : Int) ≤ y2) then some y2 else loopU (rpick_s2 l) (y2, (0 : Int))
noncomputable def rpick (l : List Backend) (now : Int) : Option Int :=
  bindS (rpick_s3 l now) (rpick_s4 l)
theorem rpick_run (l : List Backend) (now : Int) : rpick l now = (evC T S g_rpick 62 j_rpick (Try.f16.body.getD .skip) rs_rpick.X (St.init (as_rpick.enc (l, now)).1 (as_rpick.enc (l, now)).2) (retL T S Try.f16.results.toList rs_rpick 0 [])).run := by kernel_rfl

def as_begin1 : ArgShp D := argsB (a1 (aOpt 0 6)) (b1 (bRow 32 D.Backend prj_Backend))
theorem as_begin1_ok : ArgOk S as_begin1 1 11 := argsB_ok (a1_ok (aOpt_ok 0 6)) (b1_ok (bRow_ok prj_Backend_eq)) rfl
def rs_begin1 : Shp D := shr [.row 0 32] (l1 cd_LBackend)
theorem rs_begin1_ok : ShpOk S rs_begin1 := shr_ok (l1_ok cd_LBackend_ok)
def j_begin1 : Nat → Option (Shp D) := fun _ => none
theorem j_begin1_ok : ∀ i sh, j_begin1 i = some sh → ShpOk S sh := fun i sh h => by cases h
noncomputable def gt_begin1 : List (Nat × Ct D) := [(30, ct_bound)]
noncomputable def g_begin1 : FuncId → Option (Ct D) := lk gt_begin1
theorem g_begin1_ok : ∀ f ct, g_begin1 f = some ct → CtOk Try.prog S f ct := by
  intro f ct h
  have := lk_mem h
  simp only [gt_begin1, List.mem_cons, Prod.mk.injEq, List.not_mem_nil, or_false] at this
  rcases this with ⟨rfl, rfl⟩
  · exact ct_bound_ok
noncomputable def begin1 (i : Nat) (l : List Backend) : Option (List Backend) :=
  need (i < l.length)
    (need (InR IntKind.i64 ((l.getD i d_Backend).Busy + (1 : Int)))
      (need (i < l.length)
        (some
          (l.set i
            (Backend.mk (l.getD i d_Backend).Name (l.getD i d_Backend).Load (min (max ((l.getD i d_Backend).Busy + (1 : Int)) (0 : Int)) (1000000 : Int)) (l.getD i d_Backend).Weight
              (l.getD i d_Backend).Fails (l.getD i d_Backend).Out)))))
theorem begin1_run (i : Nat) (l : List Backend) : begin1 i l = (evC T S g_begin1 11 j_begin1 (Try.f36.body.getD .skip) rs_begin1.X (St.init (as_begin1.enc ((i), (l))).1 (as_begin1.enc ((i), (l))).2) (retL T S Try.f36.results.toList rs_begin1 1 [])).run := by kernel_rfl

def as_end1 : ArgShp D := argsB (aCons (aOpt 0 6) (aCons (aPtr 1) (a1 (aPtr 2)))) (bCons (bRow 32 D.Backend prj_Backend) (bCons (bCells (cInt .i64)) (b1 (bCells (cInt .i64)))))
theorem as_end1_ok : ArgOk S as_end1 3 50 := argsB_ok (aCons_ok (aOpt_ok 0 6) (aCons_ok (aPtr_ok 1) (a1_ok (aPtr_ok 2)))) (bCons_ok (bRow_ok prj_Backend_eq) (bCons_ok (bCells_ok (cInt_ok _)) (b1_ok (bCells_ok (cInt_ok _))))) rfl
def rs_end1 : Shp D := shr [.row 0 32] (l1 cd_LBackend)
theorem rs_end1_ok : ShpOk S rs_end1 := shr_ok (l1_ok cd_LBackend_ok)
def jt_end1 : List (Nat × Shp D) := [(100001, shp (fun sl => [.row (pid (sl 0)) 32]) (l1 cd_LBackend)), (100006, shp (fun sl => [.slot 14 false [none]]) (l1 cBool)), (100007, shp (fun sl => [.row (pid (sl 0)) 32]) (l1 cd_LBackend))]
def j_end1 : Nat → Option (Shp D) := lk jt_end1
theorem j_end1_ok : ∀ i sh, j_end1 i = some sh → ShpOk S sh := by
  intro i sh h
  have := lk_mem h
  simp only [jt_end1, List.mem_cons, Prod.mk.injEq, List.not_mem_nil, or_false] at this
  rcases this with ⟨_, rfl⟩ | ⟨_, rfl⟩ | ⟨_, rfl⟩
  · exact shp_ok (l1_ok cd_LBackend_ok)
  · exact shp_ok (l1_ok cBool_ok)
  · exact shp_ok (l1_ok cd_LBackend_ok)
noncomputable def gt_end1 : List (Nat × Ct D) := [(30, ct_bound)]
noncomputable def g_end1 : FuncId → Option (Ct D) := lk gt_end1
theorem g_end1_ok : ∀ f ct, g_end1 f = some ct → CtOk Try.prog S f ct := by
  intro f ct h
  have := lk_mem h
  simp only [gt_end1, List.mem_cons, Prod.mk.injEq, List.not_mem_nil, or_false] at this
  rcases this with ⟨rfl, rfl⟩
  · exact ct_bound_ok
noncomputable def end1_s1 (i : Nat) (y1 : List Backend) : Option (List Backend ⊕ List Backend) :=
  need (i < y1.length)
    (need (InR IntKind.i64 ((y1.getD i d_Backend).Fails + (1 : Int)))
      (need (i < y1.length)
        (some
          (Sum.inl
            (y1.set i
              (Backend.mk (y1.getD i d_Backend).Name (y1.getD i d_Backend).Load (y1.getD i d_Backend).Busy (y1.getD i d_Backend).Weight
                (min (max ((y1.getD i d_Backend).Fails + (1 : Int)) (0 : Int)) (1000000 : Int)) (y1.getD i d_Backend).Out))))))
noncomputable def end1_s2 (i : Nat) (now : Int) (y3 : List Backend) : Option (List Backend) :=
  need (i < y3.length)
    (bif decide ((3 : Int) ≤ (y3.getD i d_Backend).Fails) then
      need (i < y3.length)
        (need (InR IntKind.i64 ((y3.getD i d_Backend).Fails - (3 : Int)))
          (need
            ((0 : Int) ≤ min ((y3.getD i d_Backend).Fails - (3 : Int)) (6 : Int) ∧
              min ((y3.getD i d_Backend).Fails - (3 : Int)) (6 : Int) ≤ (↑IntKind.i64.bits : Int) ∧
                InR IntKind.i64 ((1000 : Int) * (2 : Int) ^ (min ((y3.getD i d_Backend).Fails - (3 : Int)) (6 : Int)).toNat))
            (need (InR IntKind.i64 (now + (1000 : Int) * (2 : Int) ^ (min ((y3.getD i d_Backend).Fails - (3 : Int)) (6 : Int)).toNat))
              (need (i < y3.length)
                (some
                  (y3.set i
                    (Backend.mk (y3.getD i d_Backend).Name (y3.getD i d_Backend).Load (y3.getD i d_Backend).Busy (y3.getD i d_Backend).Weight (y3.getD i d_Backend).Fails
                      (now + (1000 : Int) * (2 : Int) ^ (min ((y3.getD i d_Backend).Fails - (3 : Int)) (6 : Int)).toNat))))))))
    else some y3)
noncomputable def end1_s3 (code : Int) : Option (Bool ⊕ List Backend) :=
  bif code == (12 : Int) then some (Sum.inl (code == (12 : Int)))
  else bif code == (11 : Int) then some (Sum.inl (code == (11 : Int))) else bif code == (13 : Int) then some (Sum.inl (code == (13 : Int))) else some (Sum.inl (code == (3 : Int)))
noncomputable def end1_s4 (i : Nat) (code : Int) (now : Int) (y1 : List Backend) (y2 : Bool) : Option (List Backend) :=
  bif y2 then bindS (end1_s1 i y1) (end1_s2 i now)
  else
    bif code == (0 : Int) then
      need (i < y1.length)
        (some
          (y1.set i (Backend.mk (y1.getD i d_Backend).Name (y1.getD i d_Backend).Load (y1.getD i d_Backend).Busy (y1.getD i d_Backend).Weight (0 : Int) (y1.getD i d_Backend).Out)))
    else some y1
noncomputable def end1_s5 (i : Nat) (l : List Backend) : Option (List Backend ⊕ List Backend) :=
  need (i < l.length)
    (need (InR IntKind.i64 ((l.getD i d_Backend).Busy - (1 : Int)))
      (need (i < l.length)
        (some
          (Sum.inl
            (l.set i
              (Backend.mk (l.getD i d_Backend).Name (l.getD i d_Backend).Load (min (max ((l.getD i d_Backend).Busy - (1 : Int)) (0 : Int)) (1000000 : Int))
                (l.getD i d_Backend).Weight (l.getD i d_Backend).Fails (l.getD i d_Backend).Out))))))
noncomputable def end1_s6 (i : Nat) (code : Int) (now : Int) (y1 : List Backend) : Option (List Backend) :=
  bindS (end1_s3 code) (end1_s4 i code now y1)
noncomputable def end1 (i : Nat) (l : List Backend) (code : Int) (now : Int) : Option (List Backend) :=
  bindS (end1_s5 i l) (end1_s6 i code now)
theorem end1_run (i : Nat) (l : List Backend) (code : Int) (now : Int) : end1 i l code now = (evC T S g_end1 50 j_end1 (Try.f35.body.getD .skip) rs_end1.X (St.init (as_end1.enc ((i, (), ()), (l, code, now))).1 (as_end1.enc ((i, (), ()), (l, code, now))).2) (retL T S Try.f35.results.toList rs_end1 3 [1, 2])).run := by kernel_rfl

def as_report1 : ArgShp D := argsB (aCons (aOpt 0 6) (a1 (aPtr 1))) (bCons (bRow 32 D.Backend prj_Backend) (b1 (bCells (cInt .i64))))
theorem as_report1_ok : ArgOk S as_report1 2 8 := argsB_ok (aCons_ok (aOpt_ok 0 6) (a1_ok (aPtr_ok 1))) (bCons_ok (bRow_ok prj_Backend_eq) (b1_ok (bCells_ok (cInt_ok _)))) rfl
def rs_report1 : Shp D := shr [.row 0 32] (l1 cd_LBackend)
theorem rs_report1_ok : ShpOk S rs_report1 := shr_ok (l1_ok cd_LBackend_ok)
def j_report1 : Nat → Option (Shp D) := fun _ => none
theorem j_report1_ok : ∀ i sh, j_report1 i = some sh → ShpOk S sh := fun i sh h => by cases h
noncomputable def gt_report1 : List (Nat × Ct D) := [(30, ct_bound)]
noncomputable def g_report1 : FuncId → Option (Ct D) := lk gt_report1
theorem g_report1_ok : ∀ f ct, g_report1 f = some ct → CtOk Try.prog S f ct := by
  intro f ct h
  have := lk_mem h
  simp only [gt_report1, List.mem_cons, Prod.mk.injEq, List.not_mem_nil, or_false] at this
  rcases this with ⟨rfl, rfl⟩
  · exact ct_bound_ok
noncomputable def report1 (i : Nat) (l : List Backend) (load : Int) : Option (List Backend) :=
  need (i < l.length)
    (some
      (l.set i
        (Backend.mk (l.getD i d_Backend).Name (min (max load (0 : Int)) (1000000 : Int)) (l.getD i d_Backend).Busy (l.getD i d_Backend).Weight (l.getD i d_Backend).Fails
          (l.getD i d_Backend).Out)))
theorem report1_run (i : Nat) (l : List Backend) (load : Int) : report1 i l load = (evC T S g_report1 8 j_report1 (Try.f38.body.getD .skip) rs_report1.X (St.init (as_report1.enc ((i, ()), (l, load))).1 (as_report1.enc ((i, ()), (l, load))).2) (retL T S Try.f38.results.toList rs_report1 2 [1])).run := by kernel_rfl


def incB (b : Backend) : Backend := ⟨b.Name, b.Load, min (max (b.Busy + 1) 0) 1000000, b.Weight, b.Fails, b.Out⟩
def repB (b : Backend) (load : Int) : Backend := ⟨b.Name, min (max load 0) 1000000, b.Busy, b.Weight, b.Fails, b.Out⟩
def decB (b : Backend) : Backend := ⟨b.Name, b.Load, min (max (b.Busy - 1) 0) 1000000, b.Weight, b.Fails, b.Out⟩
def failB (b : Backend) : Backend := ⟨b.Name, b.Load, b.Busy, b.Weight, min (max (b.Fails + 1) 0) 1000000, b.Out⟩
def outB (b : Backend) (now : Int) : Backend := ⟨b.Name, b.Load, b.Busy, b.Weight, b.Fails, now + 1000 * 2 ^ (min (b.Fails - 3) 6).toNat⟩
def zeroB (b : Backend) : Backend := ⟨b.Name, b.Load, b.Busy, b.Weight, 0, b.Out⟩
def failCode (code : Int) : Bool := code == 12 || (code == 11 || (code == 13 || code == 3))
def endB (b : Backend) (code now : Int) : Backend :=
  if failCode code = true then (if 3 ≤ (failB (decB b)).Fails then outB (failB (decB b)) now else failB (decB b)) else if code = 0 then zeroB (decB b) else decB b
theorem begin1_eq (i : Nat) (l : List Backend) (h : i < l.length ∧ Fine (l.getD i d_Backend)) : begin1 i l = some (l.set i (incB (l.getD i d_Backend))) := by
  obtain ⟨h1, h2⟩ := h
  unfold Fine at h2
  have hr : InR .i64 ((l.getD i d_Backend).Busy + 1) := by simp only [InR]; omega
  unfold begin1 incB
  simp only [h1, hr, need_true]
theorem report1_eq (i : Nat) (l : List Backend) (load : Int) (h : i < l.length) : report1 i l load = some (l.set i (repB (l.getD i d_Backend) load)) := by
  unfold report1 repB
  simp only [h, need_true]
theorem set_at (l : List Backend) (i : Nat) (b : Backend) (h : i < l.length) : (l.set i b).getD i d_Backend = b := by rw [set_getD _ _ _ _ h, if_pos rfl]
theorem pow_le (n : Nat) (h : n ≤ 6) : 1 ≤ (2 : Int) ^ n ∧ (2 : Int) ^ n ≤ 64 := by
  have : n = 0 ∨ n = 1 ∨ n = 2 ∨ n = 3 ∨ n = 4 ∨ n = 5 ∨ n = 6 := by omega
  rcases this with rfl | rfl | rfl | rfl | rfl | rfl | rfl <;> decide
theorem end1_eq (i : Nat) (l : List Backend) (code now : Int) (h : i < l.length ∧ Fine (l.getD i d_Backend) ∧ 0 ≤ now ∧ now ≤ 1099511627776) : end1 i l code now = some (l.set i (endB (l.getD i d_Backend) code now)) := by
  obtain ⟨h1, h2, h3, h4⟩ := h
  unfold Fine at h2
  have hr : InR .i64 ((l.getD i d_Backend).Busy - 1) := by simp only [InR]; omega
  have e5 : end1_s5 i l = some (.inl (l.set i (decB (l.getD i d_Backend)))) := by
    unfold end1_s5 decB
    simp only [h1, hr, need_true]
  have e3 : end1_s3 code = some (.inl (failCode code)) := by
    unfold end1_s3 failCode
    cases code == 12 <;> cases code == 11 <;> cases code == 13 <;> rfl
  have hb : (decB (l.getD i d_Backend)).Fails = (l.getD i d_Backend).Fails := rfl
  generalize hbb : decB (l.getD i d_Backend) = b at e5
  have hl2 : i < (l.set i b).length := by simpa using h1
  have e1 : end1_s1 i (l.set i b) = some (.inl (l.set i (failB b))) := by
    unfold end1_s1 failB
    have hr2 : InR .i64 (b.Fails + 1) := by rw [← hbb, hb]; simp only [InR]; omega
    simp only [hl2, set_at _ _ _ h1, hr2, need_true, List.set_set]
  have e2 : end1_s2 i now (l.set i (failB b)) = some (if 3 ≤ (failB b).Fails then l.set i (outB (failB b) now) else l.set i (failB b)) := by
    unfold end1_s2
    have hl3 : i < (l.set i (failB b)).length := by simpa using h1
    simp only [hl3, set_at _ _ _ h1, need_true]
    have hF : 0 ≤ (failB b).Fails ∧ (failB b).Fails ≤ 1000000 := by
      simp only [failB]
      omega
    by_cases hf : 3 ≤ (failB b).Fails
    · have hk : (min ((failB b).Fails - 3) 6).toNat ≤ 6 := by omega
      have hp := pow_le _ hk
      have c1 : InR .i64 ((failB b).Fails - 3) := by simp only [InR]; omega
      have c2 : 0 ≤ min ((failB b).Fails - 3) 6 := by omega
      have c3 : min ((failB b).Fails - 3) 6 ≤ (IntKind.i64.bits : Int) := by simp only [IntKind.bits]; omega
      have c4 : InR .i64 (1000 * 2 ^ (min ((failB b).Fails - 3) 6).toNat) := by simp only [InR]; omega
      have c5 : InR .i64 (now + 1000 * 2 ^ (min ((failB b).Fails - 3) 6).toNat) := by simp only [InR]; omega
      simp only [hf, decide_true, cond_true, c1, c2, c3, c4, c5, and_self, need_true, if_true, List.set_set]
      rfl
    · simp only [hf, decide_false, cond_false, if_false]
  unfold end1
  rw [e5]
  show end1_s6 i code now (l.set i b) = _
  unfold end1_s6
  rw [e3]
  show end1_s4 i code now (l.set i b) (failCode code) = _
  unfold end1_s4 endB
  rw [hbb]
  cases failCode code with
  | true =>
    simp only [cond_true, e1, bindS, e2, if_true]
    split <;> rfl
  | false =>
    simp only [cond_false, Bool.false_eq_true, if_false, hl2, need_true, set_at _ _ _ h1, List.set_set]
    by_cases hc : code = 0
    · simp [hc, zeroB]
    · have hc' : (code == 0) = false := by simpa using hc
      simp [hc, hc']


noncomputable def ct_begin1 : Ct D := ctN as_begin1 rs_begin1 0 [] (fun a => some ((fun (i : Nat) (l : List Backend) => (i < l.length ∧ Fine (l.getD i d_Backend) : Prop)) (a.1) (a.2))) (fun a => (fun (i : Nat) (l : List Backend) => (l.set i (incB (l.getD i d_Backend)) : List Backend)) (a.1) (a.2))
theorem ct_begin1_ok : CtOk Try.prog S 36 ct_begin1 :=
  fn_okN mixed T_ok g_begin1_ok S_ok j_begin1_ok Try.func36 rfl (by kernel_rfl) Try.ntmps36 rfl (by kernel_rfl) as_begin1_ok rs_begin1_ok (fun a => some ((fun (i : Nat) (l : List Backend) => (i < l.length ∧ Fine (l.getD i d_Backend) : Prop)) (a.1) (a.2))) (fun a => (fun (i : Nat) (l : List Backend) => (l.set i (incB (l.getD i d_Backend)) : List Backend)) (a.1) (a.2))
    (fun a h => (begin1_run (a.1) (a.2)).symm.trans (begin1_eq (a.1) (a.2) h))

noncomputable def ct_report1 : Ct D := ctN as_report1 rs_report1 0 [1] (fun a => some ((fun (i : Nat) (l : List Backend) (load : Int) => (i < l.length : Prop)) (a.1.1) (a.2.1) (a.2.2))) (fun a => (fun (i : Nat) (l : List Backend) (load : Int) => (l.set i (repB (l.getD i d_Backend) load) : List Backend)) (a.1.1) (a.2.1) (a.2.2))
theorem ct_report1_ok : CtOk Try.prog S 38 ct_report1 :=
  fn_okN mixed T_ok g_report1_ok S_ok j_report1_ok Try.func38 rfl (by kernel_rfl) Try.ntmps38 rfl (by kernel_rfl) as_report1_ok rs_report1_ok (fun a => some ((fun (i : Nat) (l : List Backend) (load : Int) => (i < l.length : Prop)) (a.1.1) (a.2.1) (a.2.2))) (fun a => (fun (i : Nat) (l : List Backend) (load : Int) => (l.set i (repB (l.getD i d_Backend) load) : List Backend)) (a.1.1) (a.2.1) (a.2.2))
    (fun a h => (report1_run (a.1.1) (a.2.1) (a.2.2)).symm.trans (report1_eq (a.1.1) (a.2.1) (a.2.2) h))

noncomputable def ct_end1 : Ct D := ctN as_end1 rs_end1 0 [1, 2] (fun a => some ((fun (i : Nat) (l : List Backend) (code : Int) (now : Int) => (i < l.length ∧ Fine (l.getD i d_Backend) ∧ 0 ≤ now ∧ now ≤ 1099511627776 : Prop)) (a.1.1) (a.2.1) (a.2.2.1) (a.2.2.2))) (fun a => (fun (i : Nat) (l : List Backend) (code : Int) (now : Int) => (l.set i (endB (l.getD i d_Backend) code now) : List Backend)) (a.1.1) (a.2.1) (a.2.2.1) (a.2.2.2))
theorem ct_end1_ok : CtOk Try.prog S 35 ct_end1 :=
  fn_okN mixed T_ok g_end1_ok S_ok j_end1_ok Try.func35 rfl (by kernel_rfl) Try.ntmps35 rfl (by kernel_rfl) as_end1_ok rs_end1_ok (fun a => some ((fun (i : Nat) (l : List Backend) (code : Int) (now : Int) => (i < l.length ∧ Fine (l.getD i d_Backend) ∧ 0 ≤ now ∧ now ≤ 1099511627776 : Prop)) (a.1.1) (a.2.1) (a.2.2.1) (a.2.2.2))) (fun a => (fun (i : Nat) (l : List Backend) (code : Int) (now : Int) => (l.set i (endB (l.getD i d_Backend) code now) : List Backend)) (a.1.1) (a.2.1) (a.2.2.1) (a.2.2.2))
    (fun a h => (end1_run (a.1.1) (a.2.1) (a.2.2.1) (a.2.2.2)).symm.trans (end1_eq (a.1.1) (a.2.1) (a.2.2.1) (a.2.2.2) h))

def as_chBegin : ArgShp D := args (aCons (aLf cd_LBackend) (aCons (aLf (cInt .i64)) (a1 (aFn 36 []))))
theorem as_chBegin_ok : ArgOk S as_chBegin 0 24 := args_ok (aCons_ok (aLf_ok cd_LBackend_ok) (aCons_ok (aLf_ok (cInt_ok _)) (a1_ok (aFn_ok 36 [])))) rfl
def rs_chBegin : Shp D := shr [.slot 0 false [some 32]] (l1 cd_LBackend)
theorem rs_chBegin_ok : ShpOk S rs_chBegin := shr_ok (l1_ok cd_LBackend_ok)
def j_chBegin : Nat → Option (Shp D) := fun _ => none
theorem j_chBegin_ok : ∀ i sh, j_chBegin i = some sh → ShpOk S sh := fun i sh h => by cases h
noncomputable def gt_chBegin : List (Nat × Ct D) := [(36, ct_begin1), (39, ct_clone)]
noncomputable def g_chBegin : FuncId → Option (Ct D) := lk gt_chBegin
theorem g_chBegin_ok : ∀ f ct, g_chBegin f = some ct → CtOk Try.prog S f ct := by
  intro f ct h
  have := lk_mem h
  simp only [gt_chBegin, List.mem_cons, Prod.mk.injEq, List.not_mem_nil, or_false] at this
  rcases this with ⟨rfl, rfl⟩ | ⟨rfl, rfl⟩
  · exact ct_begin1_ok
  · exact ct_clone_ok
noncomputable def chBegin (l : List Backend) (i : Int) : Option (List Backend) :=
  need (l.length ≤ (8 : Nat))
    (bif decide ((0 : Int) ≤ i) then
      bif decide (i < (↑l.length : Int)) then
        need ((0 : Int) ≤ i ∧ i < (↑l.length : Int)) (need (i.toNat < l.length ∧ Fine (l.getD i.toNat d_Backend)) (some (l.set i.toNat (incB (l.getD i.toNat d_Backend)))))
      else some l
    else some l)
theorem chBegin_run (l : List Backend) (i : Int) : chBegin l i = (evC T S g_chBegin 24 j_chBegin (Try.f34.body.getD .skip) rs_chBegin.X (St.init (as_chBegin.enc (l, i, ())).1 (as_chBegin.enc (l, i, ())).2) (retL T S Try.f34.results.toList rs_chBegin 0 [])).run := by kernel_rfl

def as_chEnd : ArgShp D := argsB (aCons (aLf cd_LBackend) (aCons (aLf (cInt .i64)) (a1 (aFn 35 [0, 1])))) (bCons (bCells (cInt .i64)) (b1 (bCells (cInt .i64))))
theorem as_chEnd_ok : ArgOk S as_chEnd 2 24 := argsB_ok (aCons_ok (aLf_ok cd_LBackend_ok) (aCons_ok (aLf_ok (cInt_ok _)) (a1_ok (aFn_ok 35 [0, 1])))) (bCons_ok (bCells_ok (cInt_ok _)) (b1_ok (bCells_ok (cInt_ok _)))) rfl
def rs_chEnd : Shp D := shr [.slot 0 false [some 32]] (l1 cd_LBackend)
theorem rs_chEnd_ok : ShpOk S rs_chEnd := shr_ok (l1_ok cd_LBackend_ok)
def j_chEnd : Nat → Option (Shp D) := fun _ => none
theorem j_chEnd_ok : ∀ i sh, j_chEnd i = some sh → ShpOk S sh := fun i sh h => by cases h
noncomputable def gt_chEnd : List (Nat × Ct D) := [(35, ct_end1), (39, ct_clone)]
noncomputable def g_chEnd : FuncId → Option (Ct D) := lk gt_chEnd
theorem g_chEnd_ok : ∀ f ct, g_chEnd f = some ct → CtOk Try.prog S f ct := by
  intro f ct h
  have := lk_mem h
  simp only [gt_chEnd, List.mem_cons, Prod.mk.injEq, List.not_mem_nil, or_false] at this
  rcases this with ⟨rfl, rfl⟩ | ⟨rfl, rfl⟩
  · exact ct_end1_ok
  · exact ct_clone_ok
noncomputable def chEnd (l : List Backend) (i : Int) (code : Int) (now : Int) : Option (List Backend) :=
  need (l.length ≤ (8 : Nat))
    (bif decide ((0 : Int) ≤ i) then
      bif decide (i < (↑l.length : Int)) then
        need ((0 : Int) ≤ i ∧ i < (↑l.length : Int))
          (need (i.toNat < l.length ∧ Fine (l.getD i.toNat d_Backend) ∧ (0 : Int) ≤ now ∧ now ≤ (1099511627776 : Int))
            (some (l.set i.toNat (endB (l.getD i.toNat d_Backend) code now))))
      else some l
    else some l)
theorem chEnd_run (l : List Backend) (i : Int) (code : Int) (now : Int) : chEnd l i code now = (evC T S g_chEnd 24 j_chEnd (Try.f34.body.getD .skip) rs_chEnd.X (St.init (as_chEnd.enc ((l, i, ()), (code, now))).1 (as_chEnd.enc ((l, i, ()), (code, now))).2) (retL T S Try.f34.results.toList rs_chEnd 2 [0, 1])).run := by kernel_rfl

def as_chReport : ArgShp D := argsB (aCons (aLf cd_LBackend) (aCons (aLf (cInt .i64)) (a1 (aFn 38 [0])))) (b1 (bCells (cInt .i64)))
theorem as_chReport_ok : ArgOk S as_chReport 1 24 := argsB_ok (aCons_ok (aLf_ok cd_LBackend_ok) (aCons_ok (aLf_ok (cInt_ok _)) (a1_ok (aFn_ok 38 [0])))) (b1_ok (bCells_ok (cInt_ok _))) rfl
def rs_chReport : Shp D := shr [.slot 0 false [some 32]] (l1 cd_LBackend)
theorem rs_chReport_ok : ShpOk S rs_chReport := shr_ok (l1_ok cd_LBackend_ok)
def j_chReport : Nat → Option (Shp D) := fun _ => none
theorem j_chReport_ok : ∀ i sh, j_chReport i = some sh → ShpOk S sh := fun i sh h => by cases h
noncomputable def gt_chReport : List (Nat × Ct D) := [(38, ct_report1), (39, ct_clone)]
noncomputable def g_chReport : FuncId → Option (Ct D) := lk gt_chReport
theorem g_chReport_ok : ∀ f ct, g_chReport f = some ct → CtOk Try.prog S f ct := by
  intro f ct h
  have := lk_mem h
  simp only [gt_chReport, List.mem_cons, Prod.mk.injEq, List.not_mem_nil, or_false] at this
  rcases this with ⟨rfl, rfl⟩ | ⟨rfl, rfl⟩
  · exact ct_report1_ok
  · exact ct_clone_ok
noncomputable def chReport (l : List Backend) (i : Int) (load : Int) : Option (List Backend) :=
  need (l.length ≤ (8 : Nat))
    (bif decide ((0 : Int) ≤ i) then
      bif decide (i < (↑l.length : Int)) then need ((0 : Int) ≤ i ∧ i < (↑l.length : Int)) (need (i.toNat < l.length) (some (l.set i.toNat (repB (l.getD i.toNat d_Backend) load))))
      else some l
    else some l)
theorem chReport_run (l : List Backend) (i : Int) (load : Int) : chReport l i load = (evC T S g_chReport 24 j_chReport (Try.f34.body.getD .skip) rs_chReport.X (St.init (as_chReport.enc ((l, i, ()), (load))).1 (as_chReport.enc ((l, i, ()), (load))).2) (retL T S Try.f34.results.toList rs_chReport 1 [0])).run := by kernel_rfl
end Go.Proofs.Ytenpaaocemjljaa
