/-
  Balance: the changes; Pick.
-/
import Derived.Test.YtenpaaocemjljaaD
namespace Go.Proofs.Ytenpaaocemjljaa
open Go.RowKit Go.Vc
set_option linter.unusedVariables false
set_option linter.unusedSimpArgs false
set_option maxRecDepth 100000


def chg (l : List Backend) (i : Int) (f : Backend → Backend) : List Backend := if 0 ≤ i ∧ i < l.length then l.set i.toNat (f (l.getD i.toNat d_Backend)) else l
theorem Valid.at {l : List Backend} (h : Valid l) {i : Nat} (hi : i < l.length) : Fine (l.getD i d_Backend) := by
  rw [getD_some hi]
  exact h.fine _ (List.getElem_mem hi)
theorem ch_eq {l : List Backend} {i : Int} {x : Option (List Backend)} {f : Backend → Backend} (hx : 0 ≤ i → i < l.length → x = some (l.set i.toNat (f (l.getD i.toNat d_Backend)))) (h8 : l.length ≤ 8) :
    need (l.length ≤ 8) (bif decide (0 ≤ i) then bif decide (i < (l.length : Int)) then need (0 ≤ i ∧ i < (l.length : Int)) x else some l else some l) = some (chg l i f) := by
  rw [need_pos h8]
  unfold chg
  by_cases h1 : 0 ≤ i
  · by_cases h2 : i < (l.length : Int)
    · simp only [h1, h2, decide_true, cond_true, and_self, need_true, if_true, hx h1 h2]
    · simp only [h1, h2, decide_true, decide_false, cond_true, cond_false, and_false, if_false]
  · simp only [h1, decide_false, cond_false, false_and, if_false]
theorem chBegin_eq (l : List Backend) (i : Int) (h : Valid l) : chBegin l i = some (chg l i incB) :=
  ch_eq (fun h1 h2 => by have h3 : i.toNat < l.length := by omega
                         exact need_pos ⟨h3, h.at h3⟩) h.len
theorem chEnd_eq (l : List Backend) (i code now : Int) (h : Valid l ∧ 0 ≤ now ∧ now ≤ 1099511627776) : chEnd l i code now = some (chg l i fun b => endB b code now) :=
  ch_eq (f := fun b => endB b code now) (fun h1 h2 => by have h3 : i.toNat < l.length := by omega
                                                         exact need_pos ⟨h3, h.1.at h3, h.2⟩) h.1.len
theorem chReport_eq (l : List Backend) (i load : Int) (h : l.length ≤ 8) : chReport l i load = some (chg l i fun b => repB b load) :=
  ch_eq (f := fun b => repB b load) (fun h1 h2 => by have h3 : i.toNat < l.length := by omega
                                                     exact need_pos h3) h


noncomputable def ct_chBegin : Ct D := ctN as_chBegin rs_chBegin 1 [] (fun a => some ((fun (l : List Backend) (i : Int) => (Valid l : Prop)) (a.1) (a.2.1))) (fun a => (fun (l : List Backend) (i : Int) => (chg l i incB : List Backend)) (a.1) (a.2.1))
theorem ct_chBegin_ok : CtOk Try.prog S 34 ct_chBegin :=
  fn_okN mixed T_ok g_chBegin_ok S_ok j_chBegin_ok Try.func34 rfl (by kernel_rfl) Try.ntmps34 rfl (by kernel_rfl) as_chBegin_ok rs_chBegin_ok (fun a => some ((fun (l : List Backend) (i : Int) => (Valid l : Prop)) (a.1) (a.2.1))) (fun a => (fun (l : List Backend) (i : Int) => (chg l i incB : List Backend)) (a.1) (a.2.1))
    (fun a h => (chBegin_run (a.1) (a.2.1)).symm.trans (chBegin_eq (a.1) (a.2.1) h))

noncomputable def ct_chEnd : Ct D := ctN as_chEnd rs_chEnd 1 [0, 1] (fun a => some ((fun (l : List Backend) (i : Int) (code : Int) (now : Int) => (Valid l ∧ 0 ≤ now ∧ now ≤ 1099511627776 : Prop)) (a.1.1) (a.1.2.1) (a.2.1) (a.2.2))) (fun a => (fun (l : List Backend) (i : Int) (code : Int) (now : Int) => (chg l i fun b => endB b code now : List Backend)) (a.1.1) (a.1.2.1) (a.2.1) (a.2.2))
theorem ct_chEnd_ok : CtOk Try.prog S 34 ct_chEnd :=
  fn_okN mixed T_ok g_chEnd_ok S_ok j_chEnd_ok Try.func34 rfl (by kernel_rfl) Try.ntmps34 rfl (by kernel_rfl) as_chEnd_ok rs_chEnd_ok (fun a => some ((fun (l : List Backend) (i : Int) (code : Int) (now : Int) => (Valid l ∧ 0 ≤ now ∧ now ≤ 1099511627776 : Prop)) (a.1.1) (a.1.2.1) (a.2.1) (a.2.2))) (fun a => (fun (l : List Backend) (i : Int) (code : Int) (now : Int) => (chg l i fun b => endB b code now : List Backend)) (a.1.1) (a.1.2.1) (a.2.1) (a.2.2))
    (fun a h => (chEnd_run (a.1.1) (a.1.2.1) (a.2.1) (a.2.2)).symm.trans (chEnd_eq (a.1.1) (a.1.2.1) (a.2.1) (a.2.2) h))

noncomputable def ct_chReport : Ct D := ctN as_chReport rs_chReport 1 [0] (fun a => some ((fun (l : List Backend) (i : Int) (load : Int) => (l.length ≤ 8 : Prop)) (a.1.1) (a.1.2.1) (a.2))) (fun a => (fun (l : List Backend) (i : Int) (load : Int) => (chg l i fun b => repB b load : List Backend)) (a.1.1) (a.1.2.1) (a.2))
theorem ct_chReport_ok : CtOk Try.prog S 34 ct_chReport :=
  fn_okN mixed T_ok g_chReport_ok S_ok j_chReport_ok Try.func34 rfl (by kernel_rfl) Try.ntmps34 rfl (by kernel_rfl) as_chReport_ok rs_chReport_ok (fun a => some ((fun (l : List Backend) (i : Int) (load : Int) => (l.length ≤ 8 : Prop)) (a.1.1) (a.1.2.1) (a.2))) (fun a => (fun (l : List Backend) (i : Int) (load : Int) => (chg l i fun b => repB b load : List Backend)) (a.1.1) (a.1.2.1) (a.2))
    (fun a h => (chReport_run (a.1.1) (a.1.2.1) (a.2)).symm.trans (chReport_eq (a.1.1) (a.1.2.1) (a.2) h))

def as_begin : ArgShp D := args (aCons (aLf cd_LBackend) (a1 (aLf (cInt .i64))))
theorem as_begin_ok : ArgOk S as_begin 0 8 := args_ok (aCons_ok (aLf_ok cd_LBackend_ok) (a1_ok (aLf_ok (cInt_ok _)))) rfl
def rs_begin : Shp D := shr [.slot 0 false [none]] (l1 cd_LBackend)
theorem rs_begin_ok : ShpOk S rs_begin := shr_ok (l1_ok cd_LBackend_ok)
def j_begin : Nat → Option (Shp D) := fun _ => none
theorem j_begin_ok : ∀ i sh, j_begin i = some sh → ShpOk S sh := fun i sh h => by cases h
noncomputable def gt_begin : List (Nat × Ct D) := [(34, ctOr ct_chBegin (ctOr ct_chEnd (ct_chReport))), (36, ct_begin1)]
noncomputable def g_begin : FuncId → Option (Ct D) := lk gt_begin
theorem g_begin_ok : ∀ f ct, g_begin f = some ct → CtOk Try.prog S f ct := by
  intro f ct h
  have := lk_mem h
  simp only [gt_begin, List.mem_cons, Prod.mk.injEq, List.not_mem_nil, or_false] at this
  rcases this with ⟨rfl, rfl⟩ | ⟨rfl, rfl⟩
  · exact ctOr_ok ct_chBegin_ok (ctOr_ok ct_chEnd_ok (ct_chReport_ok))
  · exact ct_begin1_ok
noncomputable def begin (l : List Backend) (i : Int) : Option (List Backend) :=
  need (Valid l) (some (chg l i incB))
theorem begin_run (l : List Backend) (i : Int) : begin l i = (evC T S g_begin 8 j_begin (Try.f21.body.getD .skip) rs_begin.X (St.init (as_begin.enc (l, i)).1 (as_begin.enc (l, i)).2) (retL T S Try.f21.results.toList rs_begin 0 [])).run := by kernel_rfl

def as_end_ : ArgShp D := args (aCons (aLf cd_LBackend) (aCons (aLf (cInt .i64)) (aCons (aLf (cInt .i64)) (a1 (aLf (cInt .i64))))))
theorem as_end__ok : ArgOk S as_end_ 0 15 := args_ok (aCons_ok (aLf_ok cd_LBackend_ok) (aCons_ok (aLf_ok (cInt_ok _)) (aCons_ok (aLf_ok (cInt_ok _)) (a1_ok (aLf_ok (cInt_ok _)))))) rfl
def rs_end_ : Shp D := shr [.slot 0 false [none]] (l1 cd_LBackend)
theorem rs_end__ok : ShpOk S rs_end_ := shr_ok (l1_ok cd_LBackend_ok)
def j_end_ : Nat → Option (Shp D) := fun _ => none
theorem j_end__ok : ∀ i sh, j_end_ i = some sh → ShpOk S sh := fun i sh h => by cases h
noncomputable def gt_end_ : List (Nat × Ct D) := [(30, ct_bound), (34, ctOr ct_chBegin (ctOr ct_chEnd (ct_chReport))), (35, ct_end1)]
noncomputable def g_end_ : FuncId → Option (Ct D) := lk gt_end_
theorem g_end__ok : ∀ f ct, g_end_ f = some ct → CtOk Try.prog S f ct := by
  intro f ct h
  have := lk_mem h
  simp only [gt_end_, List.mem_cons, Prod.mk.injEq, List.not_mem_nil, or_false] at this
  rcases this with ⟨rfl, rfl⟩ | ⟨rfl, rfl⟩ | ⟨rfl, rfl⟩
  · exact ct_bound_ok
  · exact ctOr_ok ct_chBegin_ok (ctOr_ok ct_chEnd_ok (ct_chReport_ok))
  · exact ct_end1_ok
noncomputable def end_ (l : List Backend) (i : Int) (code : Int) (now : Int) : Option (List Backend) :=
  need (Valid l ∧ (0 : Int) ≤ min (max now (0 : Int)) (1099511627776 : Int) ∧ min (max now (0 : Int)) (1099511627776 : Int) ≤ (1099511627776 : Int))
    (some (chg l i fun (b : Backend) => endB b code (min (max now (0 : Int)) (1099511627776 : Int))))
theorem end__run (l : List Backend) (i : Int) (code : Int) (now : Int) : end_ l i code now = (evC T S g_end_ 15 j_end_ (Try.f20.body.getD .skip) rs_end_.X (St.init (as_end_.enc (l, i, code, now)).1 (as_end_.enc (l, i, code, now)).2) (retL T S Try.f20.results.toList rs_end_ 0 [])).run := by kernel_rfl

def as_report : ArgShp D := args (aCons (aLf cd_LBackend) (aCons (aLf (cInt .i64)) (a1 (aLf (cInt .i64)))))
theorem as_report_ok : ArgOk S as_report 0 11 := args_ok (aCons_ok (aLf_ok cd_LBackend_ok) (aCons_ok (aLf_ok (cInt_ok _)) (a1_ok (aLf_ok (cInt_ok _))))) rfl
def rs_report : Shp D := shr [.slot 0 false [none]] (l1 cd_LBackend)
theorem rs_report_ok : ShpOk S rs_report := shr_ok (l1_ok cd_LBackend_ok)
def j_report : Nat → Option (Shp D) := fun _ => none
theorem j_report_ok : ∀ i sh, j_report i = some sh → ShpOk S sh := fun i sh h => by cases h
noncomputable def gt_report : List (Nat × Ct D) := [(34, ctOr ct_chBegin (ctOr ct_chEnd (ct_chReport))), (38, ct_report1)]
noncomputable def g_report : FuncId → Option (Ct D) := lk gt_report
theorem g_report_ok : ∀ f ct, g_report f = some ct → CtOk Try.prog S f ct := by
  intro f ct h
  have := lk_mem h
  simp only [gt_report, List.mem_cons, Prod.mk.injEq, List.not_mem_nil, or_false] at this
  rcases this with ⟨rfl, rfl⟩ | ⟨rfl, rfl⟩
  · exact ctOr_ok ct_chBegin_ok (ctOr_ok ct_chEnd_ok (ct_chReport_ok))
  · exact ct_report1_ok
noncomputable def report (l : List Backend) (i : Int) (load : Int) : Option (List Backend) :=
  need (l.length ≤ (8 : Nat)) (some (chg l i fun (b : Backend) => repB b load))
theorem report_run (l : List Backend) (i : Int) (load : Int) : report l i load = (evC T S g_report 11 j_report (Try.f24.body.getD .skip) rs_report.X (St.init (as_report.enc (l, i, load)).1 (as_report.enc (l, i, load)).2) (retL T S Try.f24.results.toList rs_report 0 [])).run := by kernel_rfl


theorem begin_eq (l : List Backend) (i : Int) (h : Valid l) : begin l i = some (chg l i incB) := need_pos h
theorem end_eq (l : List Backend) (i code now : Int) (h : Valid l) : end_ l i code now = some (chg l i fun b => endB b code (min (max now 0) 1099511627776)) := need_pos ⟨h, by omega, by omega⟩
theorem report_eq (l : List Backend) (i load : Int) (h : l.length ≤ 8) : report l i load = some (chg l i fun b => repB b load) := need_pos h

/-! Pick -/
def pickI (f : Backend → Backend → Bool) (l : List Backend) (i : Nat) (best : Int) : Int := bif decide (best < 0) then (i : Int) else bif f (l.getD i d_Backend) (l.getD best.toNat d_Backend) then (i : Int) else best
def pickR (l : List Backend) (now : Int) : Int := foldI (pickI (pickB (min (max now 0) 1099511627776)) l) l.length 0 (-1)
def InB (i : Nat) (b : Int) : Prop := -1 ≤ b ∧ b < i
theorem pickI_in (f : Backend → Backend → Bool) (l : List Backend) (i : Nat) (b : Int) (h : InB i b) : InB (i + 1) (pickI f l i b) := by
  unfold InB at h ⊢
  unfold pickI
  cases decide (b < 0) with
  | true => simp only [cond_true]; omega
  | false =>
    cases f (l.getD i d_Backend) (l.getD b.toNat d_Backend) with
    | true => simp only [cond_true, cond_false]; omega
    | false => simp only [cond_false]; omega
theorem pick_eq (l : List Backend) (now : Int) (h : Valid l) : pick l now = some (pickR l now) := by
  have h8 := h.len
  unfold pick pickR
  refine loop_acc (step := pick_s1 l now) (fun a k => (a, k)) InB _ (n := l.length) (r := fun a => a) (fun i a hi ha => ⟨?_, pickI_in _ _ _ _ ha⟩) (fun a ha => ?_) l.length 0 (-1) (by omega) ⟨by omega, by omega⟩
  · have hi' : (i : Int) < l.length := by omega
    have h0 : (0 : Int) ≤ i := by omega
    have hr : InR .i64 ((i : Int) + 1) := by simp only [InR]; omega
    unfold pick_s1 pickI
    simp only [hi', h0, hr, and_self, need_true, decide_true, cond_true, Int.toNat_natCast]
    by_cases hb : a < 0
    · simp [hb]
    · have h1 : 0 ≤ a := by omega
      have h2 : a < l.length := by unfold InB at ha; omega
      have h3 : a.toNat < l.length := by omega
      simp only [hb, decide_false, cond_false, h1, h2, and_self, need_true, h.at hi, h.at h3]
      cases pickB (min (max now 0) 1099511627776) (l.getD i d_Backend) (l.getD a.toNat d_Backend) <;> rfl
  · unfold pick_s1
    simp

/-- The reference's first loop. -/
def upI (l : List Backend) (now : Int) (i : Nat) (best : Int) : Int := bif decide ((l.getD i d_Backend).Out ≤ now) then pickI lessB l i best else best
theorem up_in (l : List Backend) (now : Int) (i : Nat) (b : Int) (h : InB i b) : InB (i + 1) (upI l now i b) := by
  unfold upI
  cases decide ((l.getD i d_Backend).Out ≤ now) with
  | true => exact pickI_in _ _ _ _ h
  | false => unfold InB at h ⊢; simp only [cond_false]; omega
theorem rpick2 (l : List Backend) (h : Valid l) : loopU (rpick_s2 l) (-1, 0) = some (foldI (pickI lessB l) l.length 0 (-1)) := by
  have h8 := h.len
  refine loop_acc (step := rpick_s2 l) (fun a k => (a, k)) InB _ (n := l.length) (r := fun a => a) (fun i a hi ha => ⟨?_, pickI_in _ _ _ _ ha⟩) (fun a ha => ?_) l.length 0 (-1) (by omega) ⟨by omega, by omega⟩
  · have hi' : (i : Int) < l.length := by omega
    have h0 : (0 : Int) ≤ i := by omega
    have hr : InR .i64 ((i : Int) + 1) := by simp only [InR]; omega
    unfold rpick_s2 pickI
    simp only [hi', h0, hr, and_self, need_true, decide_true, cond_true, Int.toNat_natCast]
    by_cases hb : a < 0
    · simp [hb]
    · have h1 : 0 ≤ a := by omega
      have h2 : a < l.length := by unfold InB at ha; omega
      have h3 : a.toNat < l.length := by omega
      simp only [hb, decide_false, cond_false, h1, h2, and_self, need_true, h.at hi, h.at h3]
      cases lessB (l.getD i d_Backend) (l.getD a.toNat d_Backend) <;> rfl
  · unfold rpick_s2
    simp
theorem rpick1 (l : List Backend) (now : Int) (h : Valid l) : rpick_s3 l now = some (.inl (foldI (upI l (min (max now 0) 1099511627776)) l.length 0 (-1))) := by
  have h8 := h.len
  unfold rpick_s3
  refine loop_acc (step := rpick_s1 l now) (fun a k => (a, k)) InB _ (n := l.length) (r := fun a => .inl a) (fun i a hi ha => ⟨?_, up_in _ _ _ _ ha⟩) (fun a ha => ?_) l.length 0 (-1) (by omega) ⟨by omega, by omega⟩
  · have hi' : (i : Int) < l.length := by omega
    have h0 : (0 : Int) ≤ i := by omega
    have hr : InR .i64 ((i : Int) + 1) := by simp only [InR]; omega
    unfold rpick_s1 upI pickI
    simp only [hi', h0, hr, and_self, need_true, decide_true, cond_true, Int.toNat_natCast]
    by_cases hu : (l.getD i d_Backend).Out ≤ min (max now 0) 1099511627776
    · simp only [hu, decide_true, cond_true]
      by_cases hb : a < 0
      · simp [hb]
      · have h1 : 0 ≤ a := by omega
        have h2 : a < l.length := by unfold InB at ha; omega
        have h3 : a.toNat < l.length := by omega
        simp only [hb, decide_false, cond_false, h1, h2, and_self, need_true, h.at hi, h.at h3]
        cases lessB (l.getD i d_Backend) (l.getD a.toNat d_Backend) <;> rfl
    · simp only [hu, decide_false, cond_false]
      rfl
  · unfold rpick_s1
    simp
/-- One pass, or two. -/
theorem two_pass (l : List Backend) (now : Int) : ∀ k, let A := foldI (pickI (pickB now) l) k 0 (-1); let B := foldI (upI l now) k 0 (-1); let C := foldI (pickI lessB l) k 0 (-1);
    InB k A ∧ InB k B ∧ InB k C ∧ (0 ≤ B → A = B ∧ (l.getD A.toNat d_Backend).Out ≤ now) ∧ (B < 0 → A = C ∧ (0 ≤ A → ¬ (l.getD A.toNat d_Backend).Out ≤ now))
  | 0 => by
    simp only [foldI]
    exact ⟨⟨by omega, by omega⟩, ⟨by omega, by omega⟩, ⟨by omega, by omega⟩, fun h => by omega, fun _ => ⟨trivial, fun h => by omega⟩⟩
  | k + 1 => by
    obtain ⟨a1, a2, a3, a4, a5⟩ := two_pass l now k
    dsimp only at *
    rw [foldI_succ, foldI_succ, foldI_succ, Nat.zero_add]
    generalize foldI (pickI (pickB now) l) k 0 (-1) = A at *
    generalize foldI (upI l now) k 0 (-1) = B at *
    generalize foldI (pickI lessB l) k 0 (-1) = C at *
    refine ⟨pickI_in _ _ _ _ a1, up_in _ _ _ _ a2, pickI_in _ _ _ _ a3, ?_⟩
    have hkk : ((k : Int)).toNat = k := by omega
    by_cases hu : (l.getD k d_Backend).Out ≤ now
    · by_cases hB : 0 ≤ B
      · obtain ⟨rfl, h2⟩ := a4 hB
        have hn : ¬ A < 0 := by omega
        simp only [upI, pickI, pickB, hu, h2, hn, decide_true, decide_false, cond_true, cond_false, bne_self_eq_false]
        cases lessB (l.getD k d_Backend) (l.getD A.toNat d_Backend) with
        | true => exact ⟨fun _ => ⟨trivial, by rw [cond_true, hkk]; exact hu⟩, fun h => by simp only [cond_true] at h; omega⟩
        | false => exact ⟨fun _ => ⟨trivial, by rw [cond_false]; exact h2⟩, fun h => by simp only [cond_false] at h; omega⟩
      · have hB' : B < 0 := by omega
        obtain ⟨rfl, h2⟩ := a5 hB'
        have e : upI l now k B = k := by simp only [upI, pickI, hu, hB', decide_true, cond_true]
        have e2 : pickI (pickB now) l k A = k := by
          by_cases hA : A < 0
          · simp [pickI, hA]
          · have hno := h2 (by omega)
            have hx : pickB now (l.getD k d_Backend) (l.getD A.toNat d_Backend) = true := by simp only [pickB, hu, hno, decide_true, decide_false]; rfl
            simp only [pickI, hA, hx, decide_false, cond_false, cond_true]
        rw [e, e2]
        exact ⟨fun _ => ⟨rfl, by rw [hkk]; exact hu⟩, fun h => by omega⟩
    · have e : upI l now k B = B := by simp only [upI, hu, decide_false, cond_false]
      rw [e]
      by_cases hB : 0 ≤ B
      · obtain ⟨rfl, h2⟩ := a4 hB
        have hn : ¬ A < 0 := by omega
        have hx : pickB now (l.getD k d_Backend) (l.getD A.toNat d_Backend) = false := by simp only [pickB, hu, h2, decide_true, decide_false]; rfl
        have e2 : pickI (pickB now) l k A = A := by simp only [pickI, hn, hx, decide_false, cond_false]
        rw [e2]
        exact ⟨fun _ => ⟨rfl, h2⟩, fun h => by omega⟩
      · have hB' : B < 0 := by omega
        obtain ⟨rfl, h2⟩ := a5 hB'
        refine ⟨fun h => absurd h hB, fun _ => ?_⟩
        by_cases hA : A < 0
        · simp only [pickI, hA, decide_true, cond_true]
          exact ⟨trivial, fun _ => by rw [hkk]; exact hu⟩
        · have hno := h2 (by omega)
          have hx : pickB now (l.getD k d_Backend) (l.getD A.toNat d_Backend) = lessB (l.getD k d_Backend) (l.getD A.toNat d_Backend) := by simp only [pickB, hu, hno, decide_false]; rfl
          simp only [pickI, hA, hx, decide_false, cond_false]
          refine ⟨trivial, ?_⟩
          cases lessB (l.getD k d_Backend) (l.getD A.toNat d_Backend) with
          | true => intro _; rw [cond_true, hkk]; exact hu
          | false => intro _; rw [cond_false]; exact hno
theorem rpick_eq (l : List Backend) (now : Int) (h : Valid l) : rpick l now = some (pickR l now) := by
  obtain ⟨a1, a2, a3, a4, a5⟩ := two_pass l (min (max now 0) 1099511627776) l.length
  unfold rpick
  rw [rpick1 l now h]
  show rpick_s4 l _ = _
  unfold rpick_s4 pickR
  generalize hB : foldI (upI l (min (max now 0) 1099511627776)) l.length 0 (-1) = B at *
  by_cases hb : 0 ≤ B
  · simp only [hb, decide_true, cond_true]
    rw [(a4 hb).1]
  · have hB1 : B = -1 := by unfold InB at a2; omega
    simp only [hb, decide_false, cond_false]
    rw [hB1, rpick2 l h, (a5 (by omega)).1]


noncomputable def ct_begin : Ct D := ctN as_begin rs_begin 1 [] (fun a => some ((fun (l : List Backend) (i : Int) => (Valid l : Prop)) (a.1) (a.2))) (fun a => (fun (l : List Backend) (i : Int) => (chg l i incB : List Backend)) (a.1) (a.2))
theorem ct_begin_ok : CtOk Try.prog S 21 ct_begin :=
  fn_okN mixed T_ok g_begin_ok S_ok j_begin_ok Try.func21 rfl (by kernel_rfl) Try.ntmps21 rfl (by kernel_rfl) as_begin_ok rs_begin_ok (fun a => some ((fun (l : List Backend) (i : Int) => (Valid l : Prop)) (a.1) (a.2))) (fun a => (fun (l : List Backend) (i : Int) => (chg l i incB : List Backend)) (a.1) (a.2))
    (fun a h => (begin_run (a.1) (a.2)).symm.trans (begin_eq (a.1) (a.2) h))

noncomputable def ct_end_ : Ct D := ctN as_end_ rs_end_ 1 [] (fun a => some ((fun (l : List Backend) (i : Int) (code : Int) (now : Int) => (Valid l : Prop)) (a.1) (a.2.1) (a.2.2.1) (a.2.2.2))) (fun a => (fun (l : List Backend) (i : Int) (code : Int) (now : Int) => (chg l i fun b => endB b code (min (max now 0) 1099511627776) : List Backend)) (a.1) (a.2.1) (a.2.2.1) (a.2.2.2))
theorem ct_end__ok : CtOk Try.prog S 20 ct_end_ :=
  fn_okN mixed T_ok g_end__ok S_ok j_end__ok Try.func20 rfl (by kernel_rfl) Try.ntmps20 rfl (by kernel_rfl) as_end__ok rs_end__ok (fun a => some ((fun (l : List Backend) (i : Int) (code : Int) (now : Int) => (Valid l : Prop)) (a.1) (a.2.1) (a.2.2.1) (a.2.2.2))) (fun a => (fun (l : List Backend) (i : Int) (code : Int) (now : Int) => (chg l i fun b => endB b code (min (max now 0) 1099511627776) : List Backend)) (a.1) (a.2.1) (a.2.2.1) (a.2.2.2))
    (fun a h => (end__run (a.1) (a.2.1) (a.2.2.1) (a.2.2.2)).symm.trans (end_eq (a.1) (a.2.1) (a.2.2.1) (a.2.2.2) h))

noncomputable def ct_report : Ct D := ctN as_report rs_report 1 [] (fun a => some ((fun (l : List Backend) (i : Int) (load : Int) => (l.length ≤ 8 : Prop)) (a.1) (a.2.1) (a.2.2))) (fun a => (fun (l : List Backend) (i : Int) (load : Int) => (chg l i fun b => repB b load : List Backend)) (a.1) (a.2.1) (a.2.2))
theorem ct_report_ok : CtOk Try.prog S 24 ct_report :=
  fn_okN mixed T_ok g_report_ok S_ok j_report_ok Try.func24 rfl (by kernel_rfl) Try.ntmps24 rfl (by kernel_rfl) as_report_ok rs_report_ok (fun a => some ((fun (l : List Backend) (i : Int) (load : Int) => (l.length ≤ 8 : Prop)) (a.1) (a.2.1) (a.2.2))) (fun a => (fun (l : List Backend) (i : Int) (load : Int) => (chg l i fun b => repB b load : List Backend)) (a.1) (a.2.1) (a.2.2))
    (fun a h => (report_run (a.1) (a.2.1) (a.2.2)).symm.trans (report_eq (a.1) (a.2.1) (a.2.2) h))

noncomputable def ct_pick : Ct D := ctN as_pick rs_pick 1 [] (fun a => some ((fun (l : List Backend) (now : Int) => (Valid l : Prop)) (a.1) (a.2))) (fun a => (fun (l : List Backend) (now : Int) => (pickR l now : Int)) (a.1) (a.2))
theorem ct_pick_ok : CtOk Try.prog S 15 ct_pick :=
  fn_okN mixed T_ok g_pick_ok S_ok j_pick_ok Try.func15 rfl (by kernel_rfl) Try.ntmps15 rfl (by kernel_rfl) as_pick_ok rs_pick_ok (fun a => some ((fun (l : List Backend) (now : Int) => (Valid l : Prop)) (a.1) (a.2))) (fun a => (fun (l : List Backend) (now : Int) => (pickR l now : Int)) (a.1) (a.2))
    (fun a h => (pick_run (a.1) (a.2)).symm.trans (pick_eq (a.1) (a.2) h))

noncomputable def ct_rpick : Ct D := ctN as_rpick rs_rpick 1 [] (fun a => some ((fun (l : List Backend) (now : Int) => (Valid l : Prop)) (a.1) (a.2))) (fun a => (fun (l : List Backend) (now : Int) => (pickR l now : Int)) (a.1) (a.2))
theorem ct_rpick_ok : CtOk Try.prog S 16 ct_rpick :=
  fn_okN mixed T_ok g_rpick_ok S_ok j_rpick_ok Try.func16 rfl (by kernel_rfl) Try.ntmps16 rfl (by kernel_rfl) as_rpick_ok rs_rpick_ok (fun a => some ((fun (l : List Backend) (now : Int) => (Valid l : Prop)) (a.1) (a.2))) (fun a => (fun (l : List Backend) (now : Int) => (pickR l now : Int)) (a.1) (a.2))
    (fun a h => (rpick_run (a.1) (a.2)).symm.trans (rpick_eq (a.1) (a.2) h))

def as_awake : ArgShp D := args a0
theorem as_awake_ok : ArgOk S as_awake 0 47 := args_ok a0_ok rfl
def rs_awake : Shp D := shr [.slot 0 false [none]] (l1 cBool)
theorem rs_awake_ok : ShpOk S rs_awake := shr_ok (l1_ok cBool_ok)
def j_awake : Nat → Option (Shp D) := fun _ => none
theorem j_awake_ok : ∀ i sh, j_awake i = some sh → ShpOk S sh := fun i sh h => by cases h
noncomputable def gt_awake : List (Nat × Ct D) := [(10, ct_find), (12, ct_check), (15, ct_pick), (24, ct_report)]
noncomputable def g_awake : FuncId → Option (Ct D) := lk gt_awake
theorem g_awake_ok : ∀ f ct, g_awake f = some ct → CtOk Try.prog S f ct := by
  intro f ct h
  have := lk_mem h
  simp only [gt_awake, List.mem_cons, Prod.mk.injEq, List.not_mem_nil, or_false] at this
  rcases this with ⟨rfl, rfl⟩ | ⟨rfl, rfl⟩ | ⟨rfl, rfl⟩ | ⟨rfl, rfl⟩
  · exact ct_find_ok
  · exact ct_check_ok
  · exact ct_pick_ok
  · exact ct_report_ok
noncomputable def awake : Option Bool :=
  need ((2 : Nat) ≤ (8 : Nat))
    (need ((2 : Nat) ≤ (9223372036854775807 : Nat))
      (bif
          chk
              [Backend.mk #[(97 : UInt8)].toList (0 : Int) (1 : Int) (1 : Int) (0 : Int) (0 : Int),
                Backend.mk #[(98 : UInt8)].toList (0 : Int) (3 : Int) (4 : Int) (0 : Int) (0 : Int)] ==
            (0 : Int) then
        need
          (Valid
            [Backend.mk #[(97 : UInt8)].toList (0 : Int) (1 : Int) (1 : Int) (0 : Int) (0 : Int),
              Backend.mk #[(98 : UInt8)].toList (0 : Int) (3 : Int) (4 : Int) (0 : Int) (0 : Int)])
          (bif
              pickR
                  [Backend.mk #[(97 : UInt8)].toList (0 : Int) (1 : Int) (1 : Int) (0 : Int) (0 : Int),
                    Backend.mk #[(98 : UInt8)].toList (0 : Int) (3 : Int) (4 : Int) (0 : Int) (0 : Int)]
                  (0 : Int) ==
                (1 : Int) then
            need
              (Valid
                (chg
                  [Backend.mk #[(97 : UInt8)].toList (0 : Int) (1 : Int) (1 : Int) (0 : Int) (0 : Int),
                    Backend.mk #[(98 : UInt8)].toList (0 : Int) (3 : Int) (4 : Int) (0 : Int) (0 : Int)]
                  (1 : Int) fun (b : Backend) => repB b (1 : Int)))
              (bif
                  pickR
                      (chg
                        [Backend.mk #[(97 : UInt8)].toList (0 : Int) (1 : Int) (1 : Int) (0 : Int) (0 : Int),
                          Backend.mk #[(98 : UInt8)].toList (0 : Int) (3 : Int) (4 : Int) (0 : Int) (0 : Int)]
                        (1 : Int) fun (b : Backend) => repB b (1 : Int))
                      (0 : Int) ==
                    (0 : Int) then
                bif
                    (↑(chg
                              [Backend.mk #[(97 : UInt8)].toList (0 : Int) (1 : Int) (1 : Int) (0 : Int) (0 : Int),
                                Backend.mk #[(98 : UInt8)].toList (0 : Int) (3 : Int) (4 : Int) (0 : Int) (0 : Int)]
                              (1 : Int) fun (b : Backend) => repB b (1 : Int)).length :
                        Int) ==
                      (2 : Int) then
                  need
                    ((0 : Int) ≤ (1 : Int) ∧
                      (1 : Int) <
                        (↑(chg
                                [Backend.mk #[(97 : UInt8)].toList (0 : Int) (1 : Int) (1 : Int) (0 : Int) (0 : Int),
                                  Backend.mk #[(98 : UInt8)].toList (0 : Int) (3 : Int) (4 : Int) (0 : Int) (0 : Int)]
                                (1 : Int) fun (b : Backend) => repB b (1 : Int)).length :
                          Int))
                    (bif
                        ((chg
                                  [Backend.mk #[(97 : UInt8)].toList (0 : Int) (1 : Int) (1 : Int) (0 : Int) (0 : Int),
                                    Backend.mk #[(98 : UInt8)].toList (0 : Int) (3 : Int) (4 : Int) (0 : Int) (0 : Int)]
                                  (1 : Int) fun (b : Backend) => repB b (1 : Int)).getD
                              (Int.toNat (1 : Int)) d_Backend).Load ==
                          (1 : Int) then
                      bif
                          (findR
                                [Backend.mk #[(97 : UInt8)].toList (0 : Int) (1 : Int) (1 : Int) (0 : Int) (0 : Int),
                                  Backend.mk #[(98 : UInt8)].toList (0 : Int) (3 : Int) (4 : Int) (0 : Int) (0 : Int)]
                                #[(98 : UInt8)].toList).fst ==
                            (1 : Int) then
                        some
                          (findR
                              [Backend.mk #[(97 : UInt8)].toList (0 : Int) (1 : Int) (1 : Int) (0 : Int) (0 : Int),
                                Backend.mk #[(98 : UInt8)].toList (0 : Int) (3 : Int) (4 : Int) (0 : Int) (0 : Int)]
                              #[(98 : UInt8)].toList).snd
                      else some false
                    else some false)
                else some false
              else some false)
          else some false)
      else some false))
theorem awake_run : awake = (evC T S g_awake 47 j_awake (Try.f14.body.getD .skip) rs_awake.X (St.init (as_awake.enc ()).1 (as_awake.enc ()).2) (retL T S Try.f14.results.toList rs_awake 0 [])).run := by kernel_rfl


theorem awake_eq : awake = some true := by
  have e0 : chk [Backend.mk #[(97 : UInt8)].toList 0 1 1 0 0, Backend.mk #[(98 : UInt8)].toList 0 3 4 0 0] = 0 := by decide +kernel
  have v0 := (chk_valid e0).1
  have e1 : chk (chg [Backend.mk #[(97 : UInt8)].toList 0 1 1 0 0, Backend.mk #[(98 : UInt8)].toList 0 3 4 0 0] 1 fun b => repB b 1) = 0 := by decide +kernel
  have v1 := (chk_valid e1).1
  have p0 : pickR [Backend.mk #[(97 : UInt8)].toList 0 1 1 0 0, Backend.mk #[(98 : UInt8)].toList 0 3 4 0 0] 0 = 1 := by decide +kernel
  have p1 : pickR (chg [Backend.mk #[(97 : UInt8)].toList 0 1 1 0 0, Backend.mk #[(98 : UInt8)].toList 0 3 4 0 0] 1 fun b => repB b 1) 0 = 0 := by decide +kernel
  have c1 : (chg [Backend.mk #[(97 : UInt8)].toList 0 1 1 0 0, Backend.mk #[(98 : UInt8)].toList 0 3 4 0 0] 1 fun b => repB b 1).length = 2 := by decide +kernel
  have g1 : ((chg [Backend.mk #[(97 : UInt8)].toList 0 1 1 0 0, Backend.mk #[(98 : UInt8)].toList 0 3 4 0 0] 1 fun b => repB b 1).getD (Int.toNat 1) d_Backend).Load = 1 := by decide +kernel
  have f1 : findR [Backend.mk #[(97 : UInt8)].toList 0 1 1 0 0, Backend.mk #[(98 : UInt8)].toList 0 3 4 0 0] #[(98 : UInt8)].toList = (1, true) := by decide +kernel
  have t1 : ((2 : Nat) ≤ 8) = True := by simp
  have t2 : ((2 : Nat) ≤ 9223372036854775807) = True := by simp
  unfold awake
  simp only [t1, t2, need_true, e0, v0, p0, p1, v1, c1, g1, f1]
  simp


noncomputable def ct_awake : Ct D := ctN as_awake rs_awake 1 [] (fun a => none) (fun a => ((true : Bool)))
theorem ct_awake_ok : CtOk Try.prog S 14 ct_awake :=
  fn_okN mixed T_ok g_awake_ok S_ok j_awake_ok Try.func14 rfl (by kernel_rfl) Try.ntmps14 rfl (by kernel_rfl) as_awake_ok rs_awake_ok (fun a => none) (fun a => ((true : Bool)))
    (fun a h => (awake_run).symm.trans (awake_eq))

def as_balanceChecks : ArgShp D := args (aCons (aLf cd_LBackend) (a1 (aLf cStr)))
theorem as_balanceChecks_ok : ArgOk S as_balanceChecks 0 39 := args_ok (aCons_ok (aLf_ok cd_LBackend_ok) (a1_ok (aLf_ok cStr_ok))) rfl
def rs_balanceChecks : Shp D := shr [.slot 0 false [none]] (l1 cBool)
theorem rs_balanceChecks_ok : ShpOk S rs_balanceChecks := shr_ok (l1_ok cBool_ok)
def j_balanceChecks : Nat → Option (Shp D) := fun _ => none
theorem j_balanceChecks_ok : ∀ i sh, j_balanceChecks i = some sh → ShpOk S sh := fun i sh h => by cases h
noncomputable def gt_balanceChecks : List (Nat × Ct D) := [(10, ct_find), (11, ct_rfind), (12, ct_check), (13, ct_rcheck), (14, ct_awake)]
noncomputable def g_balanceChecks : FuncId → Option (Ct D) := lk gt_balanceChecks
theorem g_balanceChecks_ok : ∀ f ct, g_balanceChecks f = some ct → CtOk Try.prog S f ct := by
  intro f ct h
  have := lk_mem h
  simp only [gt_balanceChecks, List.mem_cons, Prod.mk.injEq, List.not_mem_nil, or_false] at this
  rcases this with ⟨rfl, rfl⟩ | ⟨rfl, rfl⟩ | ⟨rfl, rfl⟩ | ⟨rfl, rfl⟩ | ⟨rfl, rfl⟩
  · exact ct_find_ok
  · exact ct_rfind_ok
  · exact ct_check_ok
  · exact ct_rcheck_ok
  · exact ct_awake_ok
noncomputable def balanceChecks (l : List Backend) (name : Str) : Option Bool :=
  need (l.length ≤ (9223372036854775807 : Nat))
    (need (l.length ≤ (9223372036854775807 : Nat))
      (bif chk l == chk l then bif (findR l name).fst == (findR l name).fst then bif (findR l name).snd == (findR l name).snd then some true else some false else some false
      else some false))
theorem balanceChecks_run (l : List Backend) (name : Str) : balanceChecks l name = (evC T S g_balanceChecks 39 j_balanceChecks (Try.f3.body.getD .skip) rs_balanceChecks.X (St.init (as_balanceChecks.enc (l, name)).1 (as_balanceChecks.enc (l, name)).2) (retL T S Try.f3.results.toList rs_balanceChecks 0 [])).run := by kernel_rfl

def as_balancePicks : ArgShp D := args (aCons (aLf cd_LBackend) (a1 (aLf (cInt .i64))))
theorem as_balancePicks_ok : ArgOk S as_balancePicks 0 24 := args_ok (aCons_ok (aLf_ok cd_LBackend_ok) (a1_ok (aLf_ok (cInt_ok _)))) rfl
def rs_balancePicks : Shp D := shr [.slot 0 false [none]] (l1 cBool)
theorem rs_balancePicks_ok : ShpOk S rs_balancePicks := shr_ok (l1_ok cBool_ok)
def j_balancePicks : Nat → Option (Shp D) := fun _ => none
theorem j_balancePicks_ok : ∀ i sh, j_balancePicks i = some sh → ShpOk S sh := fun i sh h => by cases h
noncomputable def gt_balancePicks : List (Nat × Ct D) := [(12, ct_check), (13, ct_rcheck), (14, ct_awake), (15, ct_pick), (16, ct_rpick)]
noncomputable def g_balancePicks : FuncId → Option (Ct D) := lk gt_balancePicks
theorem g_balancePicks_ok : ∀ f ct, g_balancePicks f = some ct → CtOk Try.prog S f ct := by
  intro f ct h
  have := lk_mem h
  simp only [gt_balancePicks, List.mem_cons, Prod.mk.injEq, List.not_mem_nil, or_false] at this
  rcases this with ⟨rfl, rfl⟩ | ⟨rfl, rfl⟩ | ⟨rfl, rfl⟩ | ⟨rfl, rfl⟩ | ⟨rfl, rfl⟩
  · exact ct_check_ok
  · exact ct_rcheck_ok
  · exact ct_awake_ok
  · exact ct_pick_ok
  · exact ct_rpick_ok
noncomputable def balancePicks (l : List Backend) (now : Int) : Option Bool :=
  bif chk l != (0 : Int) then bif chk l != (0 : Int) then some true else some false
  else need (Valid l) (need (Valid l) (bif pickR l now == pickR l now then some true else some false))
theorem balancePicks_run (l : List Backend) (now : Int) : balancePicks l now = (evC T S g_balancePicks 24 j_balancePicks (Try.f4.body.getD .skip) rs_balancePicks.X (St.init (as_balancePicks.enc (l, now)).1 (as_balancePicks.enc (l, now)).2) (retL T S Try.f4.results.toList rs_balancePicks 0 [])).run := by kernel_rfl


theorem balanceChecks_eq (l : List Backend) (name : Str) (h : l.length ≤ 9223372036854775807) : balanceChecks l name = some true := by
  unfold balanceChecks
  simp [h]
theorem balancePicks_eq (l : List Backend) (now : Int) : balancePicks l now = some true := by
  unfold balancePicks
  by_cases h : chk l = 0
  · simp [h, (chk_valid h).1]
  · have : (chk l != 0) = true := by simpa using h
    simp [this]


noncomputable def ct_balanceChecks : Ct D := ctN as_balanceChecks rs_balanceChecks 1 [] (fun a => some ((fun (l : List Backend) (name : Str) => (l.length ≤ 9223372036854775807 : Prop)) (a.1) (a.2))) (fun a => (fun (l : List Backend) (name : Str) => (true : Bool)) (a.1) (a.2))
theorem ct_balanceChecks_ok : CtOk Try.prog S 3 ct_balanceChecks :=
  fn_okN mixed T_ok g_balanceChecks_ok S_ok j_balanceChecks_ok Try.func3 rfl (by kernel_rfl) Try.ntmps3 rfl (by kernel_rfl) as_balanceChecks_ok rs_balanceChecks_ok (fun a => some ((fun (l : List Backend) (name : Str) => (l.length ≤ 9223372036854775807 : Prop)) (a.1) (a.2))) (fun a => (fun (l : List Backend) (name : Str) => (true : Bool)) (a.1) (a.2))
    (fun a h => (balanceChecks_run (a.1) (a.2)).symm.trans (balanceChecks_eq (a.1) (a.2) h))

noncomputable def ct_balancePicks : Ct D := ctN as_balancePicks rs_balancePicks 1 [] (fun a => none) (fun a => (fun (l : List Backend) (now : Int) => (true : Bool)) (a.1) (a.2))
theorem ct_balancePicks_ok : CtOk Try.prog S 4 ct_balancePicks :=
  fn_okN mixed T_ok g_balancePicks_ok S_ok j_balancePicks_ok Try.func4 rfl (by kernel_rfl) Try.ntmps4 rfl (by kernel_rfl) as_balancePicks_ok rs_balancePicks_ok (fun a => none) (fun a => (fun (l : List Backend) (now : Int) => (true : Bool)) (a.1) (a.2))
    (fun a h => (balancePicks_run (a.1) (a.2)).symm.trans (balancePicks_eq (a.1) (a.2)))
end Go.Proofs.Ytenpaaocemjljaa
