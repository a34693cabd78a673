/-
  Balance: the laws on runs and on Spread.
-/
import Derived.Test.YtenpaaocemjljaaG
namespace Go.Proofs.Ytenpaaocemjljaa
open Go.RowKit Go.Vc
set_option linter.unusedVariables false
set_option linter.unusedSimpArgs false
set_option maxRecDepth 100000


theorem rsame_eq (a b : List Backend) (h : a = b ∧ a.length ≤ 8) : rsame a b = some true := by
  obtain ⟨rfl, h8⟩ := h
  unfold rsame
  rw [bne_self_eq_false, cond_false]
  refine (loop_first0 (f := fun _ => none) (r0 := true) (n := a.length) (fun k hk => ?_) ?_).trans (congrArg some (firstR_none _ _ fun _ _ _ => rfl))
  · have hk' : (k : Int) < a.length := by omega
    have hk0 : (0 : Int) ≤ k := by omega
    have hr : InR .i64 ((k : Int) + 1) := by simp only [InR]; omega
    unfold rsame_s1
    simp only [hk', hk0, hr, and_self, need_true, decide_true, cond_true, beq_self_eq_true, Bool.and_self, Bool.not_true, cond_false]
    rfl
  · unfold rsame_s1
    simp


noncomputable def ct_rsame : Ct D := ctN as_rsame rs_rsame 1 [] (fun a => some ((fun (a : List Backend) (b : List Backend) => (a = b ∧ a.length ≤ 8 : Prop)) (a.1) (a.2))) (fun a => (fun (a : List Backend) (b : List Backend) => (true : Bool)) (a.1) (a.2))
theorem ct_rsame_ok : CtOk Try.prog S 26 ct_rsame :=
  fn_okN mixed T_ok g_rsame_ok S_ok j_rsame_ok Try.func26 rfl (by kernel_rfl) Try.ntmps26 rfl (by kernel_rfl) as_rsame_ok rs_rsame_ok (fun a => some ((fun (a : List Backend) (b : List Backend) => (a = b ∧ a.length ≤ 8 : Prop)) (a.1) (a.2))) (fun a => (fun (a : List Backend) (b : List Backend) => (true : Bool)) (a.1) (a.2))
    (fun a h => (rsame_run (a.1) (a.2)).symm.trans (rsame_eq (a.1) (a.2) h))

def as_balanceRuns : ArgShp D := args (aCons (aLf cd_LBackend) (a1 (aLf cd_Llaw50_Op)))
theorem as_balanceRuns_ok : ArgOk S as_balanceRuns 0 93 := args_ok (aCons_ok (aLf_ok cd_LBackend_ok) (a1_ok (aLf_ok cd_Llaw50_Op_ok))) rfl
def rs_balanceRuns : Shp D := shr [.slot 0 false [none]] (l1 cBool)
theorem rs_balanceRuns_ok : ShpOk S rs_balanceRuns := shr_ok (l1_ok cBool_ok)
def jt_balanceRuns : List (Nat × Shp D) := [(5, shp (fun sl => [.slot 0 false [none], .slot 5 false [none], .slot 6 false [none]]) (lCons cd_LBackend (lCons cd_LBackend (l1 (cInt .i64))))), (100007, shp (fun sl => []) l0), (100020, shp (fun sl => [.slot 0 false [none], .slot 5 false [none]]) (lCons cd_LBackend (l1 cd_LBackend)))]
def j_balanceRuns : Nat → Option (Shp D) := lk jt_balanceRuns
theorem j_balanceRuns_ok : ∀ i sh, j_balanceRuns i = some sh → ShpOk S sh := by
  intro i sh h
  have := lk_mem h
  simp only [jt_balanceRuns, List.mem_cons, Prod.mk.injEq, List.not_mem_nil, or_false] at this
  rcases this with ⟨_, rfl⟩ | ⟨_, rfl⟩ | ⟨_, rfl⟩
  · exact shp_ok (lCons_ok cd_LBackend_ok (lCons_ok cd_LBackend_ok (l1_ok (cInt_ok _))))
  · exact shp_ok l0_ok
  · exact shp_ok (lCons_ok cd_LBackend_ok (l1_ok cd_LBackend_ok))
noncomputable def gt_balanceRuns : List (Nat × Ct D) := [(12, ct_check), (13, ct_rcheck), (14, ct_awake), (15, ct_pick), (16, ct_rpick), (20, ct_end_), (21, ct_begin), (22, ct_rbegin), (23, ct_rend), (24, ct_report), (25, ct_rreport), (26, ct_rsame)]
noncomputable def g_balanceRuns : FuncId → Option (Ct D) := lk gt_balanceRuns
theorem g_balanceRuns_ok : ∀ f ct, g_balanceRuns f = some ct → CtOk Try.prog S f ct := by
  intro f ct h
  have := lk_mem h
  simp only [gt_balanceRuns, List.mem_cons, Prod.mk.injEq, List.not_mem_nil, or_false] at this
  rcases this with ⟨rfl, rfl⟩ | ⟨rfl, rfl⟩ | ⟨rfl, rfl⟩ | ⟨rfl, rfl⟩ | ⟨rfl, rfl⟩ | ⟨rfl, rfl⟩ | ⟨rfl, rfl⟩ | ⟨rfl, rfl⟩ | ⟨rfl, rfl⟩ | ⟨rfl, rfl⟩ | ⟨rfl, rfl⟩ | ⟨rfl, rfl⟩
  · exact ct_check_ok
  · exact ct_rcheck_ok
  · exact ct_awake_ok
  · exact ct_pick_ok
  · exact ct_rpick_ok
  · exact ct_end__ok
  · exact ct_begin_ok
  · exact ct_rbegin_ok
  · exact ct_rend_ok
  · exact ct_report_ok
  · exact ct_rreport_ok
  · exact ct_rsame_ok
noncomputable def balanceRuns_s1 (ops : List law50_Op) (x1 : List Backend × List Backend × Int) : Option (List Backend × List Backend ⊕ List Backend × List Backend × Int ⊕ Bool) :=
  bif (ops.getD x1.snd.snd.toNat d_law50_Op).Kind == (0 : Int) then
    need (Valid x1.fst)
      (need (Valid x1.snd.fst) (some (Sum.inl (chg x1.fst (ops.getD x1.snd.snd.toNat d_law50_Op).I incB, chg x1.snd.fst (ops.getD x1.snd.snd.toNat d_law50_Op).I incB))))
  else
    bif (ops.getD x1.snd.snd.toNat d_law50_Op).Kind == (1 : Int) then
      need (Valid x1.fst)
        (need (Valid x1.snd.fst)
          (some
            (Sum.inl
              (chg x1.fst (ops.getD x1.snd.snd.toNat d_law50_Op).I fun (b : Backend) =>
                  endB b (ops.getD x1.snd.snd.toNat d_law50_Op).N (min (max (ops.getD x1.snd.snd.toNat d_law50_Op).Now (0 : Int)) (1099511627776 : Int)),
                chg x1.snd.fst (ops.getD x1.snd.snd.toNat d_law50_Op).I fun (b : Backend) =>
                  endB b (ops.getD x1.snd.snd.toNat d_law50_Op).N (min (max (ops.getD x1.snd.snd.toNat d_law50_Op).Now (0 : Int)) (1099511627776 : Int))))))
    else
      bif (ops.getD x1.snd.snd.toNat d_law50_Op).Kind == (2 : Int) then
        need (x1.fst.length ≤ (8 : Nat))
          (need (x1.snd.fst.length ≤ (8 : Nat))
            (some
              (Sum.inl
                (chg x1.fst (ops.getD x1.snd.snd.toNat d_law50_Op).I fun (b : Backend) => repB b (ops.getD x1.snd.snd.toNat d_law50_Op).N,
                  chg x1.snd.fst (ops.getD x1.snd.snd.toNat d_law50_Op).I fun (b : Backend) => repB b (ops.getD x1.snd.snd.toNat d_law50_Op).N))))
      else
        need (Valid x1.fst)
          (need (Valid x1.fst)
            (need (Valid x1.snd.fst)
              (need (Valid x1.snd.fst)
                (some
                  (Sum.inl
                    (chg x1.fst (pickR x1.fst (ops.getD x1.snd.snd.toNat d_law50_Op).Now) incB,
                      chg x1.snd.fst (pickR x1.snd.fst (ops.getD x1.snd.snd.toNat d_law50_Op).Now) incB))))))
noncomputable def balanceRuns_s2 (x1 : List Backend × List Backend × Int) (y3 : List Backend × List Backend) : Option (List Backend × List Backend × Int ⊕ Bool) :=
  need (y3.fst = y3.snd ∧ y3.fst.length ≤ (8 : Nat))
    (bif !true then some (Sum.inr false)
    else bif chk y3.fst != (0 : Int) then some (Sum.inr false) else need (InR IntKind.i64 (x1.snd.snd + (1 : Int))) (some (Sum.inl (y3.fst, y3.snd, x1.snd.snd + (1 : Int)))))
noncomputable def balanceRuns_s3 (ops : List law50_Op) (x1 : List Backend × List Backend × Int) : Option (Unit ⊕ List Backend × List Backend × Int ⊕ Bool) :=
  bif decide (x1.snd.snd < (↑ops.length : Int)) then bif decide (x1.snd.snd < (60 : Int)) then some (Sum.inl ()) else some (Sum.inr (Sum.inr true)) else some (Sum.inr (Sum.inr true))
noncomputable def balanceRuns_s4 (ops : List law50_Op) (x1 : List Backend × List Backend × Int) (y2 : Unit) : Option (List Backend × List Backend × Int ⊕ Bool) :=
  need ((0 : Int) ≤ x1.snd.snd ∧ x1.snd.snd < (↑ops.length : Int)) (bindS (balanceRuns_s1 ops x1) (balanceRuns_s2 x1))
noncomputable def balanceRuns_s5 (ops : List law50_Op) (x1 : List Backend × List Backend × Int) : Option (List Backend × List Backend × Int ⊕ Bool) :=
  bindS (balanceRuns_s3 ops x1) (balanceRuns_s4 ops x1)
noncomputable def balanceRuns (l : List Backend) (ops : List law50_Op) : Option Bool :=
  bif chk l != (0 : Int) then some true else loopU (balanceRuns_s5 ops) (l, l, (0 : Int))
theorem balanceRuns_run (l : List Backend) (ops : List law50_Op) : balanceRuns l ops = (evC T S g_balanceRuns 93 j_balanceRuns (Try.f9.body.getD .skip) rs_balanceRuns.X (St.init (as_balanceRuns.enc (l, ops)).1 (as_balanceRuns.enc (l, ops)).2) (retL T S Try.f9.results.toList rs_balanceRuns 0 [])).run := by kernel_rfl

def as_balanceSpreads : ArgShp D := args (aCons (aLf cd_LBackend) (aCons (aLf (cInt .i64)) (a1 (aLf (cInt .i64)))))
theorem as_balanceSpreads_ok : ArgOk S as_balanceSpreads 0 69 := args_ok (aCons_ok (aLf_ok cd_LBackend_ok) (aCons_ok (aLf_ok (cInt_ok _)) (a1_ok (aLf_ok (cInt_ok _))))) rfl
def rs_balanceSpreads : Shp D := shr [.slot 0 false [none]] (l1 cBool)
theorem rs_balanceSpreads_ok : ShpOk S rs_balanceSpreads := shr_ok (l1_ok cBool_ok)
def jt_balanceSpreads : List (Nat × Shp D) := [(9, shp (fun sl => [.slot 9 false [none], .slot 37 false [none]]) (lCons (cInt .i64) (l1 (cInt .i64)))), (100007, shp (fun sl => []) l0)]
def j_balanceSpreads : Nat → Option (Shp D) := lk jt_balanceSpreads
theorem j_balanceSpreads_ok : ∀ i sh, j_balanceSpreads i = some sh → ShpOk S sh := by
  intro i sh h
  have := lk_mem h
  simp only [jt_balanceSpreads, List.mem_cons, Prod.mk.injEq, List.not_mem_nil, or_false] at this
  rcases this with ⟨_, rfl⟩ | ⟨_, rfl⟩
  · exact shp_ok (lCons_ok (cInt_ok _) (l1_ok (cInt_ok _)))
  · exact shp_ok l0_ok
noncomputable def gt_balanceSpreads : List (Nat × Ct D) := [(13, ct_rcheck), (14, ct_awake), (18, ct_spread), (19, ct_rspread)]
noncomputable def g_balanceSpreads : FuncId → Option (Ct D) := lk gt_balanceSpreads
theorem g_balanceSpreads_ok : ∀ f ct, g_balanceSpreads f = some ct → CtOk Try.prog S f ct := by
  intro f ct h
  have := lk_mem h
  simp only [gt_balanceSpreads, List.mem_cons, Prod.mk.injEq, List.not_mem_nil, or_false] at this
  rcases this with ⟨rfl, rfl⟩ | ⟨rfl, rfl⟩ | ⟨rfl, rfl⟩ | ⟨rfl, rfl⟩
  · exact ct_rcheck_ok
  · exact ct_awake_ok
  · exact ct_spread_ok
  · exact ct_rspread_ok
noncomputable def balanceSpreads_s1 (l : List Backend) (now : Int) (n : Int) (x2 : Int × Int) : Option (Int × Int ⊕ Bool) :=
  bif decide (x2.snd < (↑(sprF l now n).snd.length : Int)) then
    need ((0 : Int) ≤ x2.snd ∧ x2.snd < (↑(sprF l now n).snd.length : Int))
      (need ((0 : Int) ≤ x2.snd ∧ x2.snd < (↑(sprF l now n).snd.length : Int))
        (bif (sprF l now n).snd.getD x2.snd.toNat (0 : Int) != (sprF l now n).snd.getD x2.snd.toNat (0 : Int) then some (Sum.inr false)
        else
          need ((0 : Int) ≤ x2.snd ∧ x2.snd < (↑(sprF l now n).snd.length : Int))
            (need (InR IntKind.i64 (x2.fst + (sprF l now n).snd.getD x2.snd.toNat (0 : Int)))
              (need (InR IntKind.i64 (x2.snd + (1 : Int))) (some (Sum.inl (x2.fst + (sprF l now n).snd.getD x2.snd.toNat (0 : Int), x2.snd + (1 : Int))))))))
  else bif (↑l.length : Int) == (0 : Int) then some (Sum.inr true) else bif x2.fst == min (max n (0 : Int)) (1000 : Int) then some (Sum.inr true) else some (Sum.inr false)
noncomputable def balanceSpreads_s2 (l : List Backend) (now : Int) (n : Int) : Option (Unit ⊕ Bool) :=
  bif (↑(sprF l now n).snd.length : Int) != (↑l.length : Int) then some (Sum.inr false)
  else bif (↑(sprF l now n).snd.length : Int) != (↑l.length : Int) then some (Sum.inr false) else some (Sum.inl ())
noncomputable def balanceSpreads_s3 (l : List Backend) (now : Int) (n : Int) (y1 : Unit) : Option Bool :=
  loopU (balanceSpreads_s1 l now n) ((0 : Int), (0 : Int))
noncomputable def balanceSpreads (l : List Backend) (now : Int) (n : Int) : Option Bool :=
  bif chk l != (0 : Int) then some true else need (Valid l) (need (Valid l) (bindS (balanceSpreads_s2 l now n) (balanceSpreads_s3 l now n)))
theorem balanceSpreads_run (l : List Backend) (now : Int) (n : Int) : balanceSpreads l now n = (evC T S g_balanceSpreads 69 j_balanceSpreads (Try.f6.body.getD .skip) rs_balanceSpreads.X (St.init (as_balanceSpreads.enc (l, now, n)).1 (as_balanceSpreads.enc (l, now, n)).2) (retL T S Try.f6.results.toList rs_balanceSpreads 0 [])).run := by kernel_rfl

def as_balanceEven : ArgShp D := args (aCons (aLf (cInt .u8)) (aCons (aLf (cInt .u8)) (a1 (aLf (cInt .i64)))))
theorem as_balanceEven_ok : ArgOk S as_balanceEven 0 64 := args_ok (aCons_ok (aLf_ok (cInt_ok _)) (aCons_ok (aLf_ok (cInt_ok _)) (a1_ok (aLf_ok (cInt_ok _))))) rfl
def rs_balanceEven : Shp D := shr [.slot 0 false [none]] (l1 cBool)
theorem rs_balanceEven_ok : ShpOk S rs_balanceEven := shr_ok (l1_ok cBool_ok)
def jt_balanceEven : List (Nat × Shp D) := [(4, shp (fun sl => [.slot 8 false [some 32], .slot 9 false [none]]) (lCons cd_LBackend (l1 (cInt .i64)))), (11, shp (fun sl => [.slot 43 false [none]]) (l1 (cInt .i64))), (14, shp (fun sl => [.slot 48 false [none]]) (l1 (cInt .i64))), (100007, shp (fun sl => [.slot 8 false [some 32]]) (l1 cd_LBackend))]
def j_balanceEven : Nat → Option (Shp D) := lk jt_balanceEven
theorem j_balanceEven_ok : ∀ i sh, j_balanceEven i = some sh → ShpOk S sh := by
  intro i sh h
  have := lk_mem h
  simp only [jt_balanceEven, List.mem_cons, Prod.mk.injEq, List.not_mem_nil, or_false] at this
  rcases this with ⟨_, rfl⟩ | ⟨_, rfl⟩ | ⟨_, rfl⟩ | ⟨_, rfl⟩
  · exact shp_ok (lCons_ok cd_LBackend_ok (l1_ok (cInt_ok _)))
  · exact shp_ok (l1_ok (cInt_ok _))
  · exact shp_ok (l1_ok (cInt_ok _))
  · exact shp_ok (l1_ok cd_LBackend_ok)
noncomputable def gt_balanceEven : List (Nat × Ct D) := [(14, ct_awake), (18, ct_spread)]
noncomputable def g_balanceEven : FuncId → Option (Ct D) := lk gt_balanceEven
theorem g_balanceEven_ok : ∀ f ct, g_balanceEven f = some ct → CtOk Try.prog S f ct := by
  intro f ct h
  have := lk_mem h
  simp only [gt_balanceEven, List.mem_cons, Prod.mk.injEq, List.not_mem_nil, or_false] at this
  rcases this with ⟨rfl, rfl⟩ | ⟨rfl, rfl⟩
  · exact ct_awake_ok
  · exact ct_spread_ok
noncomputable def balanceEven_s1 (many : Int) (weight : Int) (x1 : List Backend × Int) : Option (List Backend × Int ⊕ List Backend ⊕ Bool) :=
  need (InR IntKind.i64 many)
    (need ((8 : Int) ≠ (0 : Int))
      (bif decide (x1.snd ≤ many.tmod (8 : Int)) then
        need ((0 : Int) ≤ x1.snd ∧ x1.snd < (↑(8 : Nat) : Int))
          (need (InR IntKind.i64 weight)
            (need ((100 : Int) ≠ (0 : Int))
              (need (InR IntKind.i64 (weight.tmod (100 : Int) + (1 : Int)))
                (need (roomP (x1.fst.length + (1 : Nat)) (56 : Nat))
                  (need (InR IntKind.i64 (x1.snd + (1 : Int)))
                    (some
                      (Sum.inl
                        (x1.fst ++
                            [Backend.mk
                                ([#[(97 : UInt8)].toList, #[(98 : UInt8)].toList, #[(99 : UInt8)].toList, #[(100 : UInt8)].toList, #[(101 : UInt8)].toList, #[(102 : UInt8)].toList,
                                      #[(103 : UInt8)].toList, #[(104 : UInt8)].toList].getD
                                  x1.snd.toNat [])
                                (0 : Int) (0 : Int) (weight.tmod (100 : Int) + (1 : Int)) (0 : Int) (0 : Int)],
                          x1.snd + (1 : Int)))))))))
      else some (Sum.inr (Sum.inl x1.fst))))
noncomputable def balanceEven_s2 (n : Int) (y2 : List Backend) (x3 : Int) (x4 : Int) : Option (Int ⊕ Int ⊕ Bool) :=
  bif decide (x4 < (↑(sprF y2 (0 : Int) n).snd.length : Int)) then
    need ((0 : Int) ≤ x3 ∧ x3 < (↑(sprF y2 (0 : Int) n).snd.length : Int))
      (need ((0 : Int) ≤ x4 ∧ x4 < (↑(sprF y2 (0 : Int) n).snd.length : Int))
        (need (InR IntKind.i64 ((sprF y2 (0 : Int) n).snd.getD x4.toNat (0 : Int) + (1 : Int)))
          (bif decide ((sprF y2 (0 : Int) n).snd.getD x4.toNat (0 : Int) + (1 : Int) < (sprF y2 (0 : Int) n).snd.getD x3.toNat (0 : Int)) then some (Sum.inr (Sum.inr false))
          else need (InR IntKind.i64 (x4 + (1 : Int))) (some (Sum.inl (x4 + (1 : Int)))))))
  else need (InR IntKind.i64 (x3 + (1 : Int))) (some (Sum.inr (Sum.inl (x3 + (1 : Int)))))
noncomputable def balanceEven_s3 (n : Int) (y2 : List Backend) (x3 : Int) : Option (Int ⊕ Bool) :=
  bif decide (x3 < (↑(sprF y2 (0 : Int) n).snd.length : Int)) then loopU (balanceEven_s2 n y2 x3) (0 : Int) else some (Sum.inr true)
noncomputable def balanceEven_s4 (many : Int) (weight : Int) : Option (List Backend ⊕ Bool) :=
  loopU (balanceEven_s1 many weight) ([], (0 : Int))
noncomputable def balanceEven_s5 (n : Int) (y2 : List Backend) : Option Bool :=
  need (Valid y2) (bif (↑(sprF y2 (0 : Int) n).snd.length : Int) != (↑y2.length : Int) then some false else loopU (balanceEven_s3 n y2) (0 : Int))
noncomputable def balanceEven (many : Int) (weight : Int) (n : Int) : Option Bool :=
  bindS (balanceEven_s4 many weight) (balanceEven_s5 n)
theorem balanceEven_run (many : Int) (weight : Int) (n : Int) : balanceEven many weight n = (evC T S g_balanceEven 64 j_balanceEven (Try.f7.body.getD .skip) rs_balanceEven.X (St.init (as_balanceEven.enc (many, weight, n)).1 (as_balanceEven.enc (many, weight, n)).2) (retL T S Try.f7.results.toList rs_balanceEven 0 [])).run := by kernel_rfl


def runG (o : law50_Op) (l : List Backend) : List Backend :=
  if o.Kind = 0 then chg l o.I incB else if o.Kind = 1 then chg l o.I (fun b => endB b o.N (min (max o.Now 0) 1099511627776)) else if o.Kind = 2 then chg l o.I (fun b => repB b o.N) else chg l (pickR l o.Now) incB
theorem chk_runG (o : law50_Op) {l : List Backend} (h : chk l = 0) : chk (runG o l) = 0 := by
  unfold runG
  split
  · exact chk_chg h _ (fun b hb => fine_inc hb) fun _ => rfl
  split
  · exact chk_chg h _ (fun b hb => fine_end hb (by omega) (by omega)) fun b => name_end b _ _
  split
  · exact chk_chg h _ (fun b hb => fine_rep _ hb) fun _ => rfl
  · exact chk_chg h _ (fun b hb => fine_inc hb) fun _ => rfl
theorem runs_s1 (ops : List law50_Op) (l : List Backend) (k : Nat) (h : chk l = 0) : balanceRuns_s1 ops (l, l, (k : Int)) = some (.inl (runG (ops.getD k d_law50_Op) l, runG (ops.getD k d_law50_Op) l)) := by
  have hv := (chk_valid h).1
  unfold balanceRuns_s1 runG
  simp only [Int.toNat_natCast, hv, hv.len, need_true]
  by_cases c0 : (ops.getD k d_law50_Op).Kind = 0
  · have e0 : ((ops.getD k d_law50_Op).Kind == 0) = true := by rw [beq_iff_eq]; exact c0
    rw [e0, if_pos c0]
    rfl
  have e0 : ((ops.getD k d_law50_Op).Kind == 0) = false := by rw [beq_eq_false_iff_ne]; exact c0
  rw [e0, if_neg c0]
  by_cases c1 : (ops.getD k d_law50_Op).Kind = 1
  · have e1 : ((ops.getD k d_law50_Op).Kind == 1) = true := by rw [beq_iff_eq]; exact c1
    rw [e1, if_pos c1]
    rfl
  have e1 : ((ops.getD k d_law50_Op).Kind == 1) = false := by rw [beq_eq_false_iff_ne]; exact c1
  rw [e1, if_neg c1]
  by_cases c2 : (ops.getD k d_law50_Op).Kind = 2
  · have e2 : ((ops.getD k d_law50_Op).Kind == 2) = true := by rw [beq_iff_eq]; exact c2
    rw [e2, if_pos c2]
    rfl
  have e2 : ((ops.getD k d_law50_Op).Kind == 2) = false := by rw [beq_eq_false_iff_ne]; exact c2
  rw [e2, if_neg c2]
  rfl
theorem balanceRuns_eq (l : List Backend) (ops : List law50_Op) : balanceRuns l ops = some true := by
  unfold balanceRuns
  by_cases hc : chk l = 0
  · simp only [hc, bne_self_eq_false, cond_false]
    refine loop_acc (step := balanceRuns_s5 ops) (fun a k => (a, a, k)) (fun _ a => chk a = 0) (fun k a => runG (ops.getD k d_law50_Op) a) (n := min ops.length 60) (r := fun _ => true)
      (fun k a hk ha => ⟨?_, chk_runG _ ha⟩) (fun a ha => ?_) (min ops.length 60) 0 l (by omega) hc
    · have hk1 : (k : Int) < ops.length := by omega
      have hk2 : (k : Int) < 60 := by omega
      have hk0 : (0 : Int) ≤ k := by omega
      have hr : InR .i64 ((k : Int) + 1) := by simp only [InR]; omega
      have hg := chk_runG (ops.getD k d_law50_Op) ha
      have h8 := (chk_valid hg).1.len
      unfold balanceRuns_s5 balanceRuns_s3
      simp only [hk1, hk2, decide_true, cond_true]
      show balanceRuns_s4 ops (a, a, (k : Int)) () = _
      unfold balanceRuns_s4
      rw [need_pos ⟨hk0, hk1⟩, runs_s1 ops a k ha]
      show balanceRuns_s2 (a, a, (k : Int)) (runG (ops.getD k d_law50_Op) a, runG (ops.getD k d_law50_Op) a) = _
      unfold balanceRuns_s2
      simp only [h8, hg, hr, and_self, need_true, Bool.not_true, cond_false, bne_self_eq_false]
      rfl
    · unfold balanceRuns_s5 balanceRuns_s3
      by_cases h1 : ((min ops.length 60 : Nat) : Int) < ops.length
      · have h2 : ¬ ((min ops.length 60 : Nat) : Int) < 60 := by omega
        simp only [h1, h2, decide_true, decide_false, cond_true, cond_false]
        rfl
      · simp only [h1, decide_false, cond_false]
        rfl
  · have : (chk l != 0) = true := by simpa using hc
    simp [this]
/-! Sums -/
def sumL (a : List Int) (n : Nat) : Int := foldI (fun k s => s + a.getD k 0) n 0 0
theorem sumL_succ (a : List Int) (n : Nat) : sumL a (n + 1) = sumL a n + a.getD n 0 := by
  unfold sumL
  rw [foldI_succ, Nat.zero_add]
theorem sumL_set (a : List Int) (p : Nat) : ∀ n, n ≤ a.length → sumL (a.set p (a.getD p 0 + 1)) n = sumL a n + if p < n then 1 else 0
  | 0, _ => by simp [sumL, foldI]
  | n + 1, h => by
    rw [sumL_succ, sumL_succ, sumL_set a p n (by omega), setI_getD _ _ _ _ (by omega)]
    by_cases e : n = p
    · subst e
      rw [if_pos rfl, if_neg (Nat.lt_irrefl n), if_pos (Nat.lt_succ_self n)]
      omega
    · rw [if_neg e]
      by_cases e2 : p < n
      · rw [if_pos e2, if_pos (by omega)]
        omega
      · rw [if_neg e2, if_neg (by omega)]
        omega
theorem sumL_zero (m : Nat) : ∀ n, n ≤ m → sumL (List.replicate m 0) n = 0
  | 0, _ => rfl
  | n + 1, h => by
    rw [sumL_succ, sumL_zero m n (by omega), getD_some (by rw [List.length_replicate]; omega)]
    simp
theorem sprF_inv {l : List Backend} (now n : Int) (h : Valid l) (h0 : l.length ≠ 0) : SprI l (min (max n 0) 1000).toNat (sprF l now n) ∧ sumL (sprF l now n).2 l.length = min (max n 0) 1000 := by
  unfold sprF
  rw [if_neg h0]
  have key := foldI_inv (g := fun _ => sprS now) (fun k a => SprI l k a ∧ sumL a.2 l.length = k) (n := (min (max n 0) 1000).toNat) (fun k a hk ha => ⟨sprI_step now ha.1, ?_⟩) (min (max n 0) 1000).toNat 0 (l, List.replicate l.length 0) (by omega) ⟨sprI_zero h, ?_⟩
  · refine ⟨key.1, ?_⟩
    rw [key.2]
    omega
  · obtain ⟨p1, p2, _⟩ := pickR_least now ha.1.v (by have := ha.1.l1; omega)
    have hl1 := ha.1.l1
    have hl2 := ha.1.l2
    show sumL (a.2.set (pickR a.1 now).toNat (a.2.getD (pickR a.1 now).toNat 0 + 1)) l.length = _
    rw [sumL_set _ _ _ (by omega), ha.2, if_pos (by omega)]
    omega
  · exact sumL_zero _ _ (Nat.le_refl _)
theorem sprF_len {l : List Backend} (now n : Int) (h : Valid l) : (sprF l now n).2.length = l.length := by
  by_cases h0 : l.length = 0
  · unfold sprF
    rw [if_pos h0, h0]
    rfl
  · exact (sprF_inv now n h h0).1.l2
theorem balanceSpreads_eq (l : List Backend) (now n : Int) : balanceSpreads l now n = some true := by
  unfold balanceSpreads
  by_cases hc : chk l = 0
  · have hv := (chk_valid hc).1
    have hl := sprF_len now n hv
    have h8 := hv.len
    have e2 : balanceSpreads_s2 l now n = some (.inl ()) := by
      unfold balanceSpreads_s2
      simp only [hl, bne_self_eq_false, cond_false]
    simp only [hc, hv, e2, need_true, bne_self_eq_false, cond_false]
    show balanceSpreads_s3 l now n () = _
    unfold balanceSpreads_s3
    by_cases h0 : l.length = 0
    · refine loop_none ?_
      have h1 : ¬ (0 : Int) < (((sprF l now n).2.length : Nat) : Int) := by omega
      have h2 : (((l.length : Nat) : Int) == 0) = true := by rw [beq_iff_eq]; omega
      unfold balanceSpreads_s1
      simp only [h1, h2, decide_false, cond_false, cond_true]
    · obtain ⟨hi, hs⟩ := sprF_inv now n hv h0
      have hb := hi.b
      have key := loop_acc (step := balanceSpreads_s1 l now n) (fun a k => (a, k)) (fun k a => a = sumL (sprF l now n).2 k ∧ 0 ≤ a ∧ a ≤ 1000 * k) (fun k a => a + (sprF l now n).2.getD k 0) (n := l.length) (r := fun _ => true)
        (fun k a hk ha => ?_) (fun a ha => ?_) l.length 0 0 (by omega) ⟨rfl, by omega, by omega⟩
      · exact key
      · have hk1 : (k : Int) < (((sprF l now n).2.length : Nat) : Int) := by omega
        have hk0 : (0 : Int) ≤ k := by omega
        have hr : InR .i64 ((k : Int) + 1) := by simp only [InR]; omega
        have hbk := hb k hk
        have hr2 : InR .i64 (a + (sprF l now n).2.getD k 0) := by simp only [InR]; omega
        refine ⟨?_, ?_, ?_, ?_⟩
        · unfold balanceSpreads_s1
          simp only [Int.toNat_natCast, hk1, hk0, hr, hr2, and_self, need_true, decide_true, cond_true, bne_self_eq_false, cond_false]
          rfl
        · rw [sumL_succ, ← ha.1]
        · omega
        · omega
      · have h1 : ¬ (l.length : Int) < (((sprF l now n).2.length : Nat) : Int) := by omega
        have h2 : (((l.length : Nat) : Int) == 0) = false := by rw [beq_eq_false_iff_ne]; omega
        have h3 : (a == min (max n 0) 1000) = true := by rw [beq_iff_eq, ha.1, hs]
        unfold balanceSpreads_s1
        simp only [h1, h2, h3, decide_false, cond_false, cond_true]
  · have : (chk l != 0) = true := by simpa using hc
    simp [this]
/-! Even -/
structure EvI (w : Int) (l : List Backend) (k : Nat) (a : List Backend × List Int) : Prop where
  s : SprI l k a
  f : ∀ j, j < l.length → (a.1.getD j d_Backend).Load = 0 ∧ (a.1.getD j d_Backend).Weight = w ∧ (a.1.getD j d_Backend).Out = 0 ∧ (a.1.getD j d_Backend).Busy = a.2.getD j 0
  e : ∀ i j, i < l.length → j < l.length → a.2.getD i 0 ≤ a.2.getD j 0 + 1
theorem evI_step {w : Int} {l : List Backend} {k : Nat} {a : List Backend × List Int} (hw : 1 ≤ w) (h0 : l.length ≠ 0) (hk : k < 1000) (h : EvI w l k a) : EvI w l (k + 1) (sprS 0 a) := by
  have hl1 := h.s.l1
  have hl2 := h.s.l2
  obtain ⟨p1, p2, p3⟩ := pickR_least 0 h.s.v (by omega)
  have hP : (pickR a.1 0).toNat < l.length := by omega
  have hmin : ∀ j, j < l.length → a.2.getD (pickR a.1 0).toNat 0 ≤ a.2.getD j 0 := by
    intro j hj
    have hp := p3 j (by omega)
    obtain ⟨f1, f2, f3, f4⟩ := h.f j hj
    obtain ⟨g1, g2, g3, g4⟩ := h.f _ hP
    unfold pickB at hp
    rw [f3, g3, bne_self_eq_false, cond_false] at hp
    have hn : ¬ lessB (a.1.getD j d_Backend) (a.1.getD (pickR a.1 0).toNat d_Backend) = true := by rw [hp]; exact Bool.false_ne_true
    rw [less_iff, f1, f2, f4, g1, g2, g4] at hn
    have : ¬ (a.2.getD j 0 + 0) * w < (a.2.getD (pickR a.1 0).toNat 0 + 0) * w := fun hh => hn (.inl hh)
    rw [Int.add_zero, Int.add_zero] at this
    have h2 : a.2.getD (pickR a.1 0).toNat 0 * w ≤ a.2.getD j 0 * w := by omega
    exact Int.le_of_mul_le_mul_right h2 (by omega)
  have hpp : ∀ j : Nat, (j : Int) = pickR a.1 0 ↔ j = (pickR a.1 0).toNat := fun j => by omega
  refine ⟨sprI_step 0 h.s, fun j hj => ?_, fun i j hi hj => ?_⟩
  · obtain ⟨f1, f2, f3, f4⟩ := h.f j hj
    have hb := h.s.b j hj
    simp only [sprS]
    rw [chg_at _ _ _ _ (by omega), setI_getD _ _ _ _ (by omega)]
    by_cases e : j = (pickR a.1 0).toNat
    · rw [if_pos ((hpp j).2 e), if_pos e, ← e]
      refine ⟨f1, f2, f3, ?_⟩
      show min (max ((a.1.getD j d_Backend).Busy + 1) 0) 1000000 = _
      omega
    · rw [if_neg (fun hh => e ((hpp j).1 hh)), if_neg e]
      exact ⟨f1, f2, f3, f4⟩
  · simp only [sprS]
    rw [setI_getD _ _ _ _ (by omega), setI_getD _ _ _ _ (by omega)]
    have q1 := h.e i j hi hj
    have q2 := hmin j hj
    have q3 := h.e i _ hi hP
    have q4 := hmin i hi
    split <;> split <;> omega
def evB (w : Int) (k : Nat) : Backend := ⟨[#[(97 : UInt8)].toList, #[(98 : UInt8)].toList, #[(99 : UInt8)].toList, #[(100 : UInt8)].toList, #[(101 : UInt8)].toList, #[(102 : UInt8)].toList, #[(103 : UInt8)].toList, #[(104 : UInt8)].toList].getD k [], 0, 0, w, 0, 0⟩
theorem app_getD (l : List Backend) (b : Backend) (k : Nat) : (l ++ [b]).getD k d_Backend = if k < l.length then l.getD k d_Backend else if k = l.length then b else d_Backend := by
  by_cases h : k < l.length
  · rw [if_pos h, getD_some (by simp; omega), getD_some h, List.getElem_append_left h]
  · rw [if_neg h]
    by_cases e : k = l.length
    · rw [if_pos e, getD_some (by simp; omega)]
      subst e
      simp
    · rw [if_neg e]
      have hn : (l ++ [b])[k]? = none := List.getElem?_eq_none (by rw [List.length_append, List.length_singleton]; omega)
      show ((l ++ [b])[k]?).getD d_Backend = _
      rw [hn]
      rfl
theorem even_list (many weight : Int) (h : (0 ≤ many ∧ many ≤ 255) ∧ 0 ≤ weight ∧ weight ≤ 255) : ∃ l : List Backend, balanceEven_s4 many weight = some (.inl l) ∧ l.length = (many % 8).toNat + 1 ∧ ∀ k, k < l.length → ∃ nm, l.getD k d_Backend = ⟨nm, 0, 0, weight % 100 + 1, 0, 0⟩ := by
  obtain ⟨hm, hw⟩ := h
  have t1 : many.tmod 8 = many % 8 := Int.tmod_eq_emod_of_nonneg hm.1
  have t2 : weight.tmod 100 = weight % 100 := Int.tmod_eq_emod_of_nonneg hw.1
  unfold balanceEven_s4
  refine ⟨_, loop_acc (step := balanceEven_s1 many weight) (fun a k => (a, k)) (fun k a => a.length = k) (fun k a => a ++ [evB (weight % 100 + 1) k]) (n := (many % 8).toNat + 1) (r := fun a => .inl a)
    (fun k a hk ha => ⟨?_, by simp [ha]⟩) (fun a ha => ?_) ((many % 8).toNat + 1) 0 [] (by omega) rfl, ?_⟩
  · have hk1 : (k : Int) ≤ many % 8 := by omega
    have hk2 : (0 : Int) ≤ k ∧ (k : Int) < ((8 : Nat) : Int) := by omega
    have r1 : InR .i64 many := by simp only [InR]; omega
    have r2 : InR .i64 weight := by simp only [InR]; omega
    have r3 : InR .i64 (weight % 100 + 1) := by simp only [InR]; omega
    have r4 : roomP (a.length + 1) 56 := by unfold roomP; omega
    have r5 : InR .i64 ((k : Int) + 1) := by simp only [InR]; omega
    have n1 : (8 : Int) ≠ 0 := by omega
    have n2 : (100 : Int) ≠ 0 := by omega
    unfold balanceEven_s1
    rw [t1, t2]
    simp only [Int.toNat_natCast]
    rw [need_pos r1, need_pos n1]
    simp only [hk1, decide_true, cond_true]
    rw [need_pos hk2, need_pos r2, need_pos n2, need_pos r3, need_pos r4, need_pos r5]
    rfl
  · have hk1 : ¬ (((many % 8).toNat + 1 : Nat) : Int) ≤ many % 8 := by omega
    have r1 : InR .i64 many := by simp only [InR]; omega
    have n1 : (8 : Int) ≠ 0 := by omega
    unfold balanceEven_s1
    rw [t1, need_pos r1, need_pos n1]
    simp only [hk1, decide_false, cond_false]
  · have key := foldI_inv (g := fun k a => a ++ [evB (weight % 100 + 1) k]) (fun k (a : List Backend) => a.length = k ∧ ∀ j, j < a.length → ∃ nm, a.getD j d_Backend = ⟨nm, 0, 0, weight % 100 + 1, 0, 0⟩) (n := (many % 8).toNat + 1)
      (fun k a hk ha => ⟨by simp [ha.1], fun j hj => ?_⟩) ((many % 8).toNat + 1) 0 [] (by omega) ⟨rfl, fun j hj => absurd hj (Nat.not_lt_zero j)⟩
    · exact key
    · rw [app_getD]
      by_cases e : j < a.length
      · rw [if_pos e]
        exact ha.2 j e
      · have e2 : j = a.length := by
          rw [List.length_append, List.length_singleton] at hj
          omega
        rw [if_neg e, if_pos e2]
        exact ⟨_, rfl⟩
theorem balanceEven_eq (many weight n : Int) (h : (0 ≤ many ∧ many ≤ 255) ∧ 0 ≤ weight ∧ weight ≤ 255) : balanceEven many weight n = some true := by
  obtain ⟨l, e4, hlen, hl⟩ := even_list many weight h
  unfold balanceEven
  rw [e4]
  show balanceEven_s5 n l = _
  have h8 : l.length ≤ 8 := by omega
  have hv : Valid l := by
    refine valid_of h8 fun k hk => ?_
    obtain ⟨nm, e⟩ := hl k hk
    rw [e]
    unfold Fine
    dsimp only
    omega
  have hl0 : l.length ≠ 0 := by omega
  have hE : EvI (weight % 100 + 1) l (min (max n 0) 1000).toNat (sprF l 0 n) := by
    unfold sprF
    rw [if_neg hl0]
    refine foldI_inv (g := fun _ => sprS 0) (fun k a => EvI (weight % 100 + 1) l k a) (n := (min (max n 0) 1000).toNat) (fun k a hk ha => evI_step (by omega) hl0 (by omega) ha) (min (max n 0) 1000).toNat 0 (l, List.replicate l.length 0) (by omega) ⟨sprI_zero hv, fun j hj => ?_, fun i j hi hj => ?_⟩
    · obtain ⟨nm, e⟩ := hl j hj
      dsimp only
      rw [e, getD_some (by simpa using hj)]
      simp
    · dsimp only
      rw [getD_some (by simpa using hi), getD_some (by simpa using hj)]
      simp
  have hs := hE.s.l2
  unfold balanceEven_s5
  rw [need_pos hv]
  simp only [hs, bne_self_eq_false, cond_false]
  refine (loop_first0 (f := fun _ => none) (r0 := true) (n := l.length) (fun i hi => ?_) ?_).trans (congrArg some (firstR_none _ _ fun _ _ _ => rfl))
  · unfold balanceEven_s3
    have hi1 : (i : Int) < (((sprF l 0 n).2.length : Nat) : Int) := by omega
    simp only [hi1, decide_true, cond_true]
    refine (loop_first0 (f := fun _ => none) (r0 := Sum.inl (((i + 1 : Nat)) : Int)) (n := l.length) (fun j hj => ?_) ?_).trans (congrArg some (firstR_none _ _ fun _ _ _ => rfl))
    · have hj1 : (j : Int) < (((sprF l 0 n).2.length : Nat) : Int) := by omega
      have hb := hE.s.b j hj
      have he := hE.e i j hi hj
      have r1 : InR .i64 ((sprF l 0 n).2.getD j 0 + 1) := by simp only [InR]; omega
      have r2 : InR .i64 ((j : Int) + 1) := by simp only [InR]; omega
      have hn : ¬ (sprF l 0 n).2.getD j 0 + 1 < (sprF l 0 n).2.getD i 0 := by omega
      have a1 : (0 : Int) ≤ i := by omega
      have a2 : (0 : Int) ≤ j := by omega
      unfold balanceEven_s2
      simp only [Int.toNat_natCast, hi1, hj1, a1, a2, r1, r2, hn, and_self, need_true, decide_true, decide_false, cond_true, cond_false]
      rfl
    · have hj1 : ¬ (l.length : Int) < (((sprF l 0 n).2.length : Nat) : Int) := by omega
      have r2 : InR .i64 ((i : Int) + 1) := by simp only [InR]; omega
      unfold balanceEven_s2
      simp only [hj1, r2, need_true, decide_false, cond_false]
      rfl
  · have hj1 : ¬ (l.length : Int) < (((sprF l 0 n).2.length : Nat) : Int) := by omega
    unfold balanceEven_s3
    simp only [hj1, decide_false, cond_false]


noncomputable def ct_balanceRuns : Ct D := ctN as_balanceRuns rs_balanceRuns 1 [] (fun a => none) (fun a => (fun (l : List Backend) (ops : List law50_Op) => (true : Bool)) (a.1) (a.2))
theorem ct_balanceRuns_ok : CtOk Try.prog S 9 ct_balanceRuns :=
  fn_okN mixed T_ok g_balanceRuns_ok S_ok j_balanceRuns_ok Try.func9 rfl (by kernel_rfl) Try.ntmps9 rfl (by kernel_rfl) as_balanceRuns_ok rs_balanceRuns_ok (fun a => none) (fun a => (fun (l : List Backend) (ops : List law50_Op) => (true : Bool)) (a.1) (a.2))
    (fun a h => (balanceRuns_run (a.1) (a.2)).symm.trans (balanceRuns_eq (a.1) (a.2)))

noncomputable def ct_balanceSpreads : Ct D := ctN as_balanceSpreads rs_balanceSpreads 1 [] (fun a => none) (fun a => (fun (l : List Backend) (now : Int) (n : Int) => (true : Bool)) (a.1) (a.2.1) (a.2.2))
theorem ct_balanceSpreads_ok : CtOk Try.prog S 6 ct_balanceSpreads :=
  fn_okN mixed T_ok g_balanceSpreads_ok S_ok j_balanceSpreads_ok Try.func6 rfl (by kernel_rfl) Try.ntmps6 rfl (by kernel_rfl) as_balanceSpreads_ok rs_balanceSpreads_ok (fun a => none) (fun a => (fun (l : List Backend) (now : Int) (n : Int) => (true : Bool)) (a.1) (a.2.1) (a.2.2))
    (fun a h => (balanceSpreads_run (a.1) (a.2.1) (a.2.2)).symm.trans (balanceSpreads_eq (a.1) (a.2.1) (a.2.2)))

noncomputable def ct_balanceEven : Ct D := ctN as_balanceEven rs_balanceEven 1 [] (fun a => some ((fun (many : Int) (weight : Int) (n : Int) => ((0 ≤ many ∧ many ≤ 255) ∧ 0 ≤ weight ∧ weight ≤ 255 : Prop)) (a.1) (a.2.1) (a.2.2))) (fun a => (fun (many : Int) (weight : Int) (n : Int) => (true : Bool)) (a.1) (a.2.1) (a.2.2))
theorem ct_balanceEven_ok : CtOk Try.prog S 7 ct_balanceEven :=
  fn_okN mixed T_ok g_balanceEven_ok S_ok j_balanceEven_ok Try.func7 rfl (by kernel_rfl) Try.ntmps7 rfl (by kernel_rfl) as_balanceEven_ok rs_balanceEven_ok (fun a => some ((fun (many : Int) (weight : Int) (n : Int) => ((0 ≤ many ∧ many ≤ 255) ∧ 0 ≤ weight ∧ weight ≤ 255 : Prop)) (a.1) (a.2.1) (a.2.2))) (fun a => (fun (many : Int) (weight : Int) (n : Int) => (true : Bool)) (a.1) (a.2.1) (a.2.2))
    (fun a h => (balanceEven_run (a.1) (a.2.1) (a.2.2)).symm.trans (balanceEven_eq (a.1) (a.2.1) (a.2.2) h))
end Go.Proofs.Ytenpaaocemjljaa
