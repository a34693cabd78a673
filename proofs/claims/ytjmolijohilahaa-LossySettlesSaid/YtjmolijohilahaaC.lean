/-
  Lossy: Valid.
-/
import Derived.Test.YtjmolijohilahaaB
namespace Go.Proofs.Ytjmolijohilahaa
open Go.RowKit Go.Vc
set_option linter.unusedVariables false
set_option linter.unusedSimpArgs false
set_option maxRecDepth 100000


theorem loop_firstS {X R : Type} {step : X → Option (X ⊕ R)} (st : Nat → X) {f : Nat → Option R} {r0 : R} {n : Nat} (h1 : ∀ i : Nat, i < n → step (st i) = some (orGo (f i) (st (i + 1)))) (h2 : step (st n) = some (.inr r0)) : ∀ (k i : Nat), i + k = n → loopU step (st i) = some (firstR f r0 k i)
  | 0, i, e => by
    rw [loopU_eq, show i = n by omega, h2]
    rfl
  | k + 1, i, e => by
    rw [loopU_eq, h1 i (by omega)]
    unfold firstR
    cases f i with
    | some r => rfl
    | none => exact loop_firstS st h1 h2 k (i + 1) (by omega)
def allB (p : Nat → Bool) (r0 : Bool) (n : Nat) : Bool := firstR (fun i => if p i then none else some false) r0 n 0
theorem all_iff' (p : Nat → Bool) (r0 : Bool) : ∀ (k i : Nat), firstR (fun i => if p i then none else some false) r0 k i = true ↔ r0 = true ∧ ∀ j, i ≤ j → j < i + k → p j = true
  | 0, i => by
    unfold firstR
    constructor
    · exact fun h => And.intro h fun j h1 h2 => by omega
    · exact fun h => h.1
  | k + 1, i => by
    unfold firstR
    cases hp : p i with
    | true =>
      simp only [if_true]
      rw [all_iff' p r0 k (i + 1)]
      refine ⟨fun h => ⟨h.1, fun j h1 h2 => ?_⟩, fun h => ⟨h.1, fun j h1 h2 => h.2 j (by omega) (by omega)⟩⟩
      by_cases e : j = i
      · rw [e]; exact hp
      · exact h.2 j (by omega) (by omega)
    | false =>
      simp only [Bool.false_eq_true, if_false]
      refine ⟨fun h => (by cases h), fun h => ?_⟩
      have := h.2 i (by omega) (by omega)
      rw [hp] at this
      cases this
theorem all_iff (p : Nat → Bool) (r0 : Bool) (n : Nat) : allB p r0 n = true ↔ r0 = true ∧ ∀ j, j < n → p j = true := by
  unfold allB
  rw [all_iff' p r0 n 0]
  constructor
  · exact fun h => And.intro h.1 fun j hj => h.2 j (by omega) (by omega)
  · exact fun h => And.intro h.1 fun j _ hj => h.2 j (by omega)
def WOk (l : Link) (i : Nat) : Bool := decide (1 ≤ (l.Wait.getD i d_Packet).Seq ∧ (l.Wait.getD i d_Packet).Seq = l.Next - l.Wait.length + i ∧ 0 ≤ (l.Wait.getD i d_Packet).Ack ∧ (l.Wait.getD i d_Packet).Ack ≤ l.Expect - 1 ∧ dataB (l.Wait.getD i d_Packet).Data = true)
def lastOf (l : Link) (i : Nat) : Int := if i = 0 then l.Expect else (l.Early.getD (i - 1) d_Packet).Seq
def EOk' (l : Link) (i : Nat) : Bool := decide (lastOf l i < (l.Early.getD i d_Packet).Seq ∧ (l.Early.getD i d_Packet).Seq ≤ l.Expect + 64 ∧ (l.Early.getD i d_Packet).Seq < 1099511627776 ∧ (l.Early.getD i d_Packet).Ack = 0 ∧ dataB (l.Early.getD i d_Packet).Data = true)
def EOk (l : Link) (i : Nat) : Bool := decide (l.Expect < (l.Early.getD i d_Packet).Seq ∧ (l.Early.getD i d_Packet).Seq ≤ l.Expect + 64 ∧ (l.Early.getD i d_Packet).Seq < 1099511627776 ∧ (l.Early.getD i d_Packet).Ack = 0 ∧ dataB (l.Early.getD i d_Packet).Data = true ∧ (0 < i → (l.Early.getD (i - 1) d_Packet).Seq < (l.Early.getD i d_Packet).Seq))
def HdP (l : Link) : Prop := 1 ≤ l.Next ∧ l.Next ≤ 1099511627776 ∧ 1 ≤ l.Expect ∧ l.Expect ≤ 1099511627776
def AgP (l : Link) : Prop := 0 ≤ l.Again ∧ l.Again ≤ 1099511627776
/-! What a valid end is. -/
structure ValP (l : Link) : Prop where
  hd : HdP l
  ag : AgP l
  lw : l.Wait.length ≤ 64
  le : l.Early.length ≤ 64
  w : ∀ i, i < l.Wait.length → WOk l i = true
  e : ∀ i, i < l.Early.length → EOk l i = true


def as_waiting : ArgShp D := args (a1 (aAgg cd_Link))
theorem as_waiting_ok : ArgOk S as_waiting 0 53 := args_ok (a1_ok (aAgg_ok cd_Link_ok)) rfl
def rs_waiting : Shp D := shr [.slot 0 false [none]] (l1 cBool)
theorem rs_waiting_ok : ShpOk S rs_waiting := shr_ok (l1_ok cBool_ok)
def jt_waiting : List (Nat × Shp D) := [(2, shp (fun sl => [.slot 8 false [none]]) (l1 (cInt .i64)))]
def j_waiting : Nat → Option (Shp D) := lk jt_waiting
theorem j_waiting_ok : ∀ i sh, j_waiting i = some sh → ShpOk S sh := by
  intro i sh h
  have := lk_mem h
  simp only [jt_waiting, List.mem_cons, Prod.mk.injEq, List.not_mem_nil, or_false] at this
  rcases this with ⟨_, rfl⟩
  · exact shp_ok (l1_ok (cInt_ok _))
noncomputable def gt_waiting : List (Nat × Ct D) := [(35, ct_proper)]
noncomputable def g_waiting : FuncId → Option (Ct D) := lk gt_waiting
theorem g_waiting_ok : ∀ f ct, g_waiting f = some ct → CtOk Try.prog S f ct := by
  intro f ct h
  have := lk_mem h
  simp only [gt_waiting, List.mem_cons, Prod.mk.injEq, List.not_mem_nil, or_false] at this
  rcases this with ⟨rfl, rfl⟩
  · exact ct_proper_ok
noncomputable def waiting_s1 (l : Link) (x1 : Int) : Option (Int ⊕ Bool) :=
  bif decide (x1 < (↑l.Wait.length : Int)) then
    need ((0 : Int) ≤ x1 ∧ x1 < (↑l.Wait.length : Int))
      (need (InR IntKind.i64 (l.Next - (↑l.Wait.length : Int)))
        (need (InR IntKind.i64 (l.Next - (↑l.Wait.length : Int) + x1))
          (bif (l.Wait.getD x1.toNat d_Packet).Seq != l.Next - (↑l.Wait.length : Int) + x1 then some (Sum.inr false)
          else
            bif decide ((l.Wait.getD x1.toNat d_Packet).Seq < (1 : Int)) then some (Sum.inr false)
            else
              bif decide ((l.Wait.getD x1.toNat d_Packet).Ack < (0 : Int)) then some (Sum.inr false)
              else
                need (InR IntKind.i64 (l.Expect - (1 : Int)))
                  (bif decide (l.Expect - (1 : Int) < (l.Wait.getD x1.toNat d_Packet).Ack) then some (Sum.inr false)
                  else bif !dataB (l.Wait.getD x1.toNat d_Packet).Data then some (Sum.inr false) else need (InR IntKind.i64 (x1 + (1 : Int))) (some (Sum.inl (x1 + (1 : Int))))))))
  else some (Sum.inr (decide ((↑l.Wait.length : Int) ≤ (64 : Int))))
noncomputable def waiting (l : Link) : Option Bool :=
  loopU (waiting_s1 l) (0 : Int)
theorem waiting_run (l : Link) : waiting l = (evC T S g_waiting 53 j_waiting (Try.f32.body.getD .skip) rs_waiting.X (St.init (as_waiting.enc (l)).1 (as_waiting.enc (l)).2) (retL T S Try.f32.results.toList rs_waiting 0 [])).run := by kernel_rfl

def as_early : ArgShp D := args (a1 (aAgg cd_Link))
theorem as_early_ok : ArgOk S as_early 0 46 := args_ok (a1_ok (aAgg_ok cd_Link_ok)) rfl
def rs_early : Shp D := shr [.slot 0 false [none]] (l1 cBool)
theorem rs_early_ok : ShpOk S rs_early := shr_ok (l1_ok cBool_ok)
def jt_early : List (Nat × Shp D) := [(3, shp (fun sl => [.slot 3 false [none], .slot 11 false [none]]) (lCons (cInt .i64) (l1 (cInt .i64))))]
def j_early : Nat → Option (Shp D) := lk jt_early
theorem j_early_ok : ∀ i sh, j_early i = some sh → ShpOk S sh := by
  intro i sh h
  have := lk_mem h
  simp only [jt_early, List.mem_cons, Prod.mk.injEq, List.not_mem_nil, or_false] at this
  rcases this with ⟨_, rfl⟩
  · exact shp_ok (lCons_ok (cInt_ok _) (l1_ok (cInt_ok _)))
noncomputable def gt_early : List (Nat × Ct D) := [(35, ct_proper)]
noncomputable def g_early : FuncId → Option (Ct D) := lk gt_early
theorem g_early_ok : ∀ f ct, g_early f = some ct → CtOk Try.prog S f ct := by
  intro f ct h
  have := lk_mem h
  simp only [gt_early, List.mem_cons, Prod.mk.injEq, List.not_mem_nil, or_false] at this
  rcases this with ⟨rfl, rfl⟩
  · exact ct_proper_ok
noncomputable def early_s1 (l : Link) (x1 : Int × Int) : Option (Int × Int ⊕ Bool) :=
  bif decide (x1.snd < (↑l.Early.length : Int)) then
    need ((0 : Int) ≤ x1.snd ∧ x1.snd < (↑l.Early.length : Int))
      (bif decide ((l.Early.getD x1.snd.toNat d_Packet).Seq ≤ x1.fst) then some (Sum.inr false)
      else
        need (InR IntKind.i64 (l.Expect + (64 : Int)))
          (bif decide (l.Expect + (64 : Int) < (l.Early.getD x1.snd.toNat d_Packet).Seq) then some (Sum.inr false)
          else
            bif decide ((1099511627776 : Int) ≤ (l.Early.getD x1.snd.toNat d_Packet).Seq) then some (Sum.inr false)
            else
              bif (l.Early.getD x1.snd.toNat d_Packet).Ack != (0 : Int) then some (Sum.inr false)
              else
                bif !dataB (l.Early.getD x1.snd.toNat d_Packet).Data then some (Sum.inr false)
                else need (InR IntKind.i64 (x1.snd + (1 : Int))) (some (Sum.inl ((l.Early.getD x1.snd.toNat d_Packet).Seq, x1.snd + (1 : Int))))))
  else some (Sum.inr true)
noncomputable def early (l : Link) : Option Bool :=
  loopU (early_s1 l) (l.Expect, (0 : Int))
theorem early_run (l : Link) : early l = (evC T S g_early 46 j_early (Try.f33.body.getD .skip) rs_early.X (St.init (as_early.enc (l)).1 (as_early.enc (l)).2) (retL T S Try.f33.results.toList rs_early 0 [])).run := by kernel_rfl

def as_rvalid : ArgShp D := args (a1 (aAgg cd_Link))
theorem as_rvalid_ok : ArgOk S as_rvalid 0 151 := args_ok (a1_ok (aAgg_ok cd_Link_ok)) rfl
def rs_rvalid : Shp D := shr [.slot 0 false [none]] (l1 cBool)
theorem rs_rvalid_ok : ShpOk S rs_rvalid := shr_ok (l1_ok cBool_ok)
def jt_rvalid : List (Nat × Shp D) := [(4, shp (fun sl => [.slot 3 false [none]]) (l1 (cInt .i64))), (10, shp (fun sl => [.slot 5 false [none]]) (l1 (cInt .i64))), (100003, shp (fun sl => []) l0), (100009, shp (fun sl => []) l0)]
def j_rvalid : Nat → Option (Shp D) := lk jt_rvalid
theorem j_rvalid_ok : ∀ i sh, j_rvalid i = some sh → ShpOk S sh := by
  intro i sh h
  have := lk_mem h
  simp only [jt_rvalid, List.mem_cons, Prod.mk.injEq, List.not_mem_nil, or_false] at this
  rcases this with ⟨_, rfl⟩ | ⟨_, rfl⟩ | ⟨_, rfl⟩ | ⟨_, rfl⟩
  · exact shp_ok (l1_ok (cInt_ok _))
  · exact shp_ok (l1_ok (cInt_ok _))
  · exact shp_ok l0_ok
  · exact shp_ok l0_ok
noncomputable def gt_rvalid : List (Nat × Ct D) := [(34, ct_carries)]
noncomputable def g_rvalid : FuncId → Option (Ct D) := lk gt_rvalid
theorem g_rvalid_ok : ∀ f ct, g_rvalid f = some ct → CtOk Try.prog S f ct := by
  intro f ct h
  have := lk_mem h
  simp only [gt_rvalid, List.mem_cons, Prod.mk.injEq, List.not_mem_nil, or_false] at this
  rcases this with ⟨rfl, rfl⟩
  · exact ct_carries_ok
noncomputable def rvalid_s1 (l : Link) (x2 : Int) : Option (Int ⊕ Unit ⊕ Bool) :=
  bif decide (x2 < (↑l.Wait.length : Int)) then
    need ((0 : Int) ≤ x2 ∧ x2 < (↑l.Wait.length : Int))
      (bif decide ((l.Wait.getD x2.toNat d_Packet).Seq < (1 : Int)) then some (Sum.inr (Sum.inr false))
      else
        need (InR IntKind.i64 (l.Next - (↑l.Wait.length : Int)))
          (need (InR IntKind.i64 (l.Next - (↑l.Wait.length : Int) + x2))
            (bif (l.Wait.getD x2.toNat d_Packet).Seq != l.Next - (↑l.Wait.length : Int) + x2 then some (Sum.inr (Sum.inr false))
            else
              bif decide ((l.Wait.getD x2.toNat d_Packet).Ack < (0 : Int)) then some (Sum.inr (Sum.inr false))
              else
                need (InR IntKind.i64 (l.Expect - (1 : Int)))
                  (bif decide (l.Expect - (1 : Int) < (l.Wait.getD x2.toNat d_Packet).Ack) then some (Sum.inr (Sum.inr false))
                  else
                    bif !dataB (l.Wait.getD x2.toNat d_Packet).Data then some (Sum.inr (Sum.inr false))
                    else need (InR IntKind.i64 (x2 + (1 : Int))) (some (Sum.inl (x2 + (1 : Int))))))))
  else some (Sum.inr (Sum.inl ()))
noncomputable def rvalid_s2 (l : Link) (x4 : Int) : Option (Int ⊕ Bool) :=
  bif decide (x4 < (↑l.Early.length : Int)) then
    need ((0 : Int) ≤ x4 ∧ x4 < (↑l.Early.length : Int))
      (bif decide ((l.Early.getD x4.toNat d_Packet).Seq ≤ l.Expect) then some (Sum.inr false)
      else
        need (InR IntKind.i64 (l.Expect + (64 : Int)))
          (bif decide (l.Expect + (64 : Int) < (l.Early.getD x4.toNat d_Packet).Seq) then some (Sum.inr false)
          else
            bif decide ((1099511627776 : Int) ≤ (l.Early.getD x4.toNat d_Packet).Seq) then some (Sum.inr false)
            else
              bif (l.Early.getD x4.toNat d_Packet).Ack != (0 : Int) then some (Sum.inr false)
              else
                bif !dataB (l.Early.getD x4.toNat d_Packet).Data then some (Sum.inr false)
                else
                  bif decide ((0 : Int) < x4) then
                    need (InR IntKind.i64 (x4 - (1 : Int)))
                      (need ((0 : Int) ≤ x4 - (1 : Int) ∧ x4 - (1 : Int) < (↑l.Early.length : Int))
                        (bif decide ((l.Early.getD x4.toNat d_Packet).Seq ≤ (l.Early.getD (x4 - (1 : Int)).toNat d_Packet).Seq) then some (Sum.inr false)
                        else need (InR IntKind.i64 (x4 + (1 : Int))) (some (Sum.inl (x4 + (1 : Int))))))
                  else need (InR IntKind.i64 (x4 + (1 : Int))) (some (Sum.inl (x4 + (1 : Int))))))
  else some (Sum.inr true)
noncomputable def rvalid_s3 (l : Link) : Option (Unit ⊕ Bool) :=
  loopU (rvalid_s1 l) (0 : Int)
noncomputable def rvalid_s4 (l : Link) (y3 : Unit) : Option Bool :=
  loopU (rvalid_s2 l) (0 : Int)
noncomputable def rvalid_s5 (l : Link) : Option (Unit ⊕ Bool) :=
  bif decide (l.Next < (1 : Int)) then some (Sum.inr false)
  else
    bif decide ((1099511627776 : Int) < l.Next) then some (Sum.inr false)
    else
      bif decide (l.Expect < (1 : Int)) then some (Sum.inr false)
      else
        bif decide ((1099511627776 : Int) < l.Expect) then some (Sum.inr false)
        else
          bif decide (l.Again < (0 : Int)) then some (Sum.inr false)
          else
            bif decide ((1099511627776 : Int) < l.Again) then some (Sum.inr false)
            else
              bif decide ((64 : Int) < (↑l.Wait.length : Int)) then some (Sum.inr false)
              else bif decide ((64 : Int) < (↑l.Early.length : Int)) then some (Sum.inr false) else some (Sum.inl ())
noncomputable def rvalid_s6 (l : Link) (y1 : Unit) : Option Bool :=
  bindS (rvalid_s3 l) (rvalid_s4 l)
noncomputable def rvalid (l : Link) : Option Bool :=
  bindS (rvalid_s5 l) (rvalid_s6 l)
theorem rvalid_run (l : Link) : rvalid l = (evC T S g_rvalid 151 j_rvalid (Try.f12.body.getD .skip) rs_rvalid.X (St.init (as_rvalid.enc (l)).1 (as_rvalid.enc (l)).2) (retL T S Try.f12.results.toList rs_rvalid 0 [])).run := by kernel_rfl

def as_same : ArgShp D := args (aCons (aAgg cd_Link) (a1 (aAgg cd_Link)))
theorem as_same_ok : ArgOk S as_same 0 45 := args_ok (aCons_ok (aAgg_ok cd_Link_ok) (a1_ok (aAgg_ok cd_Link_ok))) rfl
def rs_same : Shp D := shr [.slot 0 false [none]] (l1 cBool)
theorem rs_same_ok : ShpOk S rs_same := shr_ok (l1_ok cBool_ok)
def j_same : Nat → Option (Shp D) := fun _ => none
theorem j_same_ok : ∀ i sh, j_same i = some sh → ShpOk S sh := fun i sh h => by cases h
noncomputable def gt_same : List (Nat × Ct D) := [(24, ct_samePs)]
noncomputable def g_same : FuncId → Option (Ct D) := lk gt_same
theorem g_same_ok : ∀ f ct, g_same f = some ct → CtOk Try.prog S f ct := by
  intro f ct h
  have := lk_mem h
  simp only [gt_same, List.mem_cons, Prod.mk.injEq, List.not_mem_nil, or_false] at this
  rcases this with ⟨rfl, rfl⟩
  · exact ct_samePs_ok
noncomputable def same (a : Link) (b : Link) : Option Bool :=
  bif a.Next == b.Next then
    bif a.Expect == b.Expect then
      bif a.Again == b.Again then
        bif a.Due == b.Due then
          need (a.Wait = b.Wait ∧ a.Wait.length ≤ (1000000 : Nat)) (bif true then need (a.Early = b.Early ∧ a.Early.length ≤ (1000000 : Nat)) (some true) else some false)
        else some false
      else some false
    else some false
  else some false
theorem same_run (a : Link) (b : Link) : same a b = (evC T S g_same 45 j_same (Try.f15.body.getD .skip) rs_same.X (St.init (as_same.enc (a, b)).1 (as_same.enc (a, b)).2) (retL T S Try.f15.results.toList rs_same 0 [])).run := by kernel_rfl


theorem w_of {R : Type} (q k nx ex : Int) (b : Bool) (x y : Option R) : (bif q != nx then x else bif decide (q < 1) then x else bif decide (k < 0) then x else bif decide (ex < k) then x else bif !b then x else y) = if decide (1 ≤ q ∧ q = nx ∧ 0 ≤ k ∧ k ≤ ex ∧ b = true) = true then y else x := by
  simp only [decide_eq_true_eq]
  by_cases h : 1 ≤ q ∧ q = nx ∧ 0 ≤ k ∧ k ≤ ex ∧ b = true
  · obtain ⟨h1, h2, h3, h4, h5⟩ := h
    rw [if_pos ⟨h1, h2, h3, h4, h5⟩]
    have c1 : (q != nx) = false := by simpa using h2
    have c2 : ¬ q < 1 := by omega
    have c3 : ¬ k < 0 := by omega
    have c4 : ¬ ex < k := by omega
    simp only [c1, c2, c3, c4, h5, decide_false, cond_false, Bool.not_true]
  · rw [if_neg h]
    simp only [Bool.cond_eq_ite, decide_eq_true_eq, bne_iff_ne, Bool.not_eq_true']
    repeat' split
    all_goals first | rfl | (exfalso; apply h; refine ⟨by omega, by omega, by omega, by omega, ?_⟩; cases b <;> simp_all)
theorem w_of' {R : Type} (q k nx ex : Int) (b : Bool) (x y : Option R) : (bif decide (q < 1) then x else bif q != nx then x else bif decide (k < 0) then x else bif decide (ex < k) then x else bif !b then x else y) = if decide (1 ≤ q ∧ q = nx ∧ 0 ≤ k ∧ k ≤ ex ∧ b = true) = true then y else x := by
  rw [← w_of]
  cases q != nx <;> cases decide (q < 1) <;> rfl
theorem e_of {R : Type} (q z k m : Int) (b : Bool) (x y : Option R) : (bif decide (q ≤ z) then x else bif decide (m < q) then x else bif decide (1099511627776 ≤ q) then x else bif k != 0 then x else bif !b then x else y) = if decide (z < q ∧ q ≤ m ∧ q < 1099511627776 ∧ k = 0 ∧ b = true) = true then y else x := by
  simp only [decide_eq_true_eq]
  by_cases h : z < q ∧ q ≤ m ∧ q < 1099511627776 ∧ k = 0 ∧ b = true
  · obtain ⟨h1, h2, h3, h4, h5⟩ := h
    rw [if_pos ⟨h1, h2, h3, h4, h5⟩]
    have c1 : ¬ q ≤ z := by omega
    have c2 : ¬ m < q := by omega
    have c3 : ¬ 1099511627776 ≤ q := by omega
    have c4 : (k != 0) = false := by simpa using h4
    simp only [c1, c2, c3, c4, h5, decide_false, cond_false, Bool.not_true]
  · rw [if_neg h]
    simp only [Bool.cond_eq_ite, decide_eq_true_eq, bne_iff_ne, Bool.not_eq_true']
    repeat' split
    all_goals first | rfl | (exfalso; apply h; refine ⟨by omega, by omega, by omega, by omega, ?_⟩; cases b <;> simp_all)
theorem waiting_eq (l : Link) (h : HdP l ∧ l.Wait.length ≤ 100) : waiting l = some (allB (WOk l) (decide (l.Wait.length ≤ 64)) l.Wait.length) := by
  obtain ⟨⟨a1, a2, a3, a4⟩, h8⟩ := h
  unfold waiting allB
  refine loop_first0 (fun i hi => ?_) ?_
  · have hi' : (i : Int) < (l.Wait.length : Int) := by omega
    have h0 : (0 : Int) ≤ i := by omega
    have r0 : InR .i64 ((i : Int) + 1) := by simp only [InR]; omega
    have r1 : InR .i64 (l.Next - (l.Wait.length : Int)) := by simp only [InR]; omega
    have r2 : InR .i64 (l.Next - (l.Wait.length : Int) + i) := by simp only [InR]; omega
    have r3 : InR .i64 (l.Expect - 1) := by simp only [InR]; omega
    unfold waiting_s1
    simp only [hi', h0, r0, r1, r2, r3, and_self, need_true, decide_true, cond_true, Int.toNat_natCast]
    rw [w_of]
    show (if WOk l i = true then _ else _) = _
    cases WOk l i <;> rfl
  · unfold waiting_s1
    have e : decide ((l.Wait.length : Int) ≤ 64) = decide (l.Wait.length ≤ 64) := by
      by_cases h : l.Wait.length ≤ 64
      · rw [decide_eq_true h, decide_eq_true (by omega)]
      · rw [decide_eq_false h, decide_eq_false (by omega)]
    simp [e]
theorem early_eq (l : Link) (h : HdP l ∧ l.Early.length ≤ 9223372036854775807) : early l = some (allB (EOk' l) true l.Early.length) := by
  obtain ⟨⟨a1, a2, a3, a4⟩, h8⟩ := h
  unfold early allB
  refine loop_firstS (fun i => (lastOf l i, (i : Int))) (f := fun i => if EOk' l i then none else some false) (r0 := true) (n := l.Early.length) (fun i hi => ?_) ?_ l.Early.length 0 (by omega)
  · have hi' : (i : Int) < (l.Early.length : Int) := by omega
    have h0 : (0 : Int) ≤ i := by omega
    have r0 : InR .i64 ((i : Int) + 1) := by simp only [InR]; omega
    have r1 : InR .i64 (l.Expect + 64) := by simp only [InR]; omega
    have e1 : lastOf l (i + 1) = (l.Early.getD i d_Packet).Seq := by unfold lastOf; rw [if_neg (by omega), Nat.add_sub_cancel]
    unfold early_s1
    simp only [hi', h0, r0, r1, e1, and_self, need_true, decide_true, cond_true, Int.toNat_natCast]
    rw [e_of]
    show (if EOk' l i = true then _ else _) = _
    cases EOk' l i <;> rfl
  · unfold early_s1
    simp
theorem early_iff (l : Link) (n : Nat) : (∀ i, i < n → EOk' l i = true) ↔ ∀ i, i < n → EOk l i = true := by
  constructor
  · intro h
    have key : ∀ i, i < n → l.Expect < (l.Early.getD i d_Packet).Seq := by
      intro i
      induction i with
      | zero =>
        intro hi
        have := h 0 hi
        unfold EOk' lastOf at this
        rw [decide_eq_true_eq] at this
        exact this.1
      | succ i ih =>
        intro hi
        have h1 := ih (by omega)
        have := h (i + 1) hi
        unfold EOk' lastOf at this
        rw [decide_eq_true_eq, if_neg (by omega), Nat.add_sub_cancel] at this
        omega
    intro i hi
    have := h i hi
    unfold EOk' at this
    rw [decide_eq_true_eq] at this
    unfold EOk
    rw [decide_eq_true_eq]
    refine ⟨key i hi, this.2.1, this.2.2.1, this.2.2.2.1, this.2.2.2.2, fun h0 => ?_⟩
    have h1 := this.1
    unfold lastOf at h1
    rw [if_neg (by omega)] at h1
    exact h1
  · intro h i hi
    have := h i hi
    unfold EOk at this
    rw [decide_eq_true_eq] at this
    unfold EOk' lastOf
    rw [decide_eq_true_eq]
    refine ⟨?_, this.2.1, this.2.2.1, this.2.2.2.1, this.2.2.2.2.1⟩
    split
    · exact this.1
    · exact this.2.2.2.2.2 (by omega)
theorem early_len (l : Link) (n : Nat) (h : ∀ i, i < n → EOk' l i = true) : n ≤ 64 := by
  have key : ∀ i, i < n → l.Expect + 1 + i ≤ (l.Early.getD i d_Packet).Seq := by
    intro i
    induction i with
    | zero =>
      intro hi
      have := h 0 hi
      unfold EOk' lastOf at this
      rw [decide_eq_true_eq] at this
      have h1 := this.1
      simp only [if_true] at h1
      omega
    | succ i ih =>
      intro hi
      have h1 := ih (by omega)
      have := h (i + 1) hi
      unfold EOk' lastOf at this
      rw [decide_eq_true_eq, if_neg (by omega), Nat.add_sub_cancel] at this
      omega
  rcases Nat.eq_zero_or_pos n with h0 | h0
  · omega
  · have h1 := key (n - 1) (by omega)
    have h2 := h (n - 1) (by omega)
    unfold EOk' at h2
    rw [decide_eq_true_eq] at h2
    omega
theorem same_eq (a b : Link) (h : a = b ∧ a.Wait.length ≤ 1000000 ∧ a.Early.length ≤ 1000000) : same a b = some true := by
  obtain ⟨rfl, h1, h2⟩ := h
  unfold same
  simp only [beq_self_eq_true, cond_true, h1, h2, and_self, need_true]
theorem rwait_eq (l : Link) (h : HdP l) (h8 : l.Wait.length ≤ 64) : rvalid_s3 l = some (firstR (fun i => if WOk l i then none else some (.inr false)) (.inl ()) l.Wait.length 0) := by
  obtain ⟨a1, a2, a3, a4⟩ := h
  unfold rvalid_s3
  refine loop_first0 (fun i hi => ?_) ?_
  · have hi' : (i : Int) < (l.Wait.length : Int) := by omega
    have h0 : (0 : Int) ≤ i := by omega
    have r0 : InR .i64 ((i : Int) + 1) := by simp only [InR]; omega
    have r1 : InR .i64 (l.Next - (l.Wait.length : Int)) := by simp only [InR]; omega
    have r2 : InR .i64 (l.Next - (l.Wait.length : Int) + i) := by simp only [InR]; omega
    have r3 : InR .i64 (l.Expect - 1) := by simp only [InR]; omega
    unfold rvalid_s1
    simp only [hi', h0, r0, r1, r2, r3, and_self, need_true, decide_true, cond_true, Int.toNat_natCast]
    rw [w_of']
    show (if WOk l i = true then _ else _) = _
    cases WOk l i <;> rfl
  · unfold rvalid_s1
    simp
theorem firstW (p : Nat → Bool) : ∀ (k i : Nat), firstR (fun i => if p i then none else some (Sum.inr false)) (Sum.inl () : Unit ⊕ Bool) k i = if firstR (fun i => if p i then none else some false) true k i = true then .inl () else .inr false
  | 0, i => rfl
  | k + 1, i => by
    unfold firstR
    cases p i with
    | true => exact firstW p k (i + 1)
    | false => rfl
theorem rearly_eq (l : Link) (h : HdP l) (h8 : l.Early.length ≤ 64) : rvalid_s4 l () = some (allB (EOk l) true l.Early.length) := by
  obtain ⟨a1, a2, a3, a4⟩ := h
  unfold rvalid_s4 allB
  refine loop_first0 (fun i hi => ?_) ?_
  · have hi' : (i : Int) < (l.Early.length : Int) := by omega
    have h0 : (0 : Int) ≤ i := by omega
    have r0 : InR .i64 ((i : Int) + 1) := by simp only [InR]; omega
    have r1 : InR .i64 (l.Expect + 64) := by simp only [InR]; omega
    unfold rvalid_s2
    simp only [hi', h0, r0, r1, and_self, need_true, decide_true, cond_true, Int.toNat_natCast]
    rw [e_of]
    have key : EOk l i = (decide (l.Expect < (l.Early.getD i d_Packet).Seq ∧ (l.Early.getD i d_Packet).Seq ≤ l.Expect + 64 ∧ (l.Early.getD i d_Packet).Seq < 1099511627776 ∧ (l.Early.getD i d_Packet).Ack = 0 ∧ dataB (l.Early.getD i d_Packet).Data = true) && decide (0 < i → (l.Early.getD (i - 1) d_Packet).Seq < (l.Early.getD i d_Packet).Seq)) := by
      unfold EOk
      rw [← Bool.decide_and]
      congr 1
      simp only [eq_iff_iff, and_assoc]
    rw [key]
    cases decide (l.Expect < (l.Early.getD i d_Packet).Seq ∧ (l.Early.getD i d_Packet).Seq ≤ l.Expect + 64 ∧ (l.Early.getD i d_Packet).Seq < 1099511627776 ∧ (l.Early.getD i d_Packet).Ack = 0 ∧ dataB (l.Early.getD i d_Packet).Data = true) with
    | false => rfl
    | true =>
      simp only [if_true, Bool.true_and]
      by_cases hp : 0 < i
      · have hp' : (0 : Int) < i := by omega
        have e : ((i : Int) - 1).toNat = i - 1 := by omega
        have s1 : InR .i64 ((i : Int) - 1) := by simp only [InR]; omega
        have s2 : 0 ≤ (i : Int) - 1 := by omega
        have s3 : (i : Int) - 1 < l.Early.length := by omega
        simp only [hp', e, s1, s2, s3, and_self, need_true, decide_true, cond_true]
        by_cases c : (l.Early.getD i d_Packet).Seq ≤ (l.Early.getD (i - 1) d_Packet).Seq
        · rw [decide_eq_true c, decide_eq_false (fun hh => by have := hh hp; omega)]
          rfl
        · rw [decide_eq_false c, decide_eq_true (fun _ => by omega)]
          rfl
      · have hp' : ¬ (0 : Int) < i := by omega
        rw [decide_eq_false hp', decide_eq_true (fun hh => absurd hh hp)]
        rfl
  · unfold rvalid_s2
    simp
noncomputable def validB (l : Link) : Bool := (rvalid l).getD false
theorem rvalid_cases (l : Link) : (ValP l ∧ rvalid l = some true) ∨ (¬ ValP l ∧ rvalid l = some false) := by
  unfold rvalid
  by_cases hA : HdP l ∧ AgP l ∧ l.Wait.length ≤ 64 ∧ l.Early.length ≤ 64
  · obtain ⟨hd, hag, hw, he⟩ := hA
    have e5 : rvalid_s5 l = some (.inl ()) := by
      obtain ⟨a1, a2, a3, a4⟩ := hd
      obtain ⟨b1, b2⟩ := hag
      have c1 : ¬ l.Next < 1 := by omega
      have c2 : ¬ 1099511627776 < l.Next := by omega
      have c3 : ¬ l.Expect < 1 := by omega
      have c4 : ¬ 1099511627776 < l.Expect := by omega
      have c5 : ¬ l.Again < 0 := by omega
      have c6 : ¬ 1099511627776 < l.Again := by omega
      have c7 : ¬ (64 : Int) < l.Wait.length := by omega
      have c8 : ¬ (64 : Int) < l.Early.length := by omega
      unfold rvalid_s5
      simp only [c1, c2, c3, c4, c5, c6, c7, c8, decide_false, cond_false]
    rw [e5]
    show (ValP l ∧ rvalid_s6 l () = some true) ∨ (¬ ValP l ∧ rvalid_s6 l () = some false)
    unfold rvalid_s6
    rw [rwait_eq l hd hw, firstW]
    cases hc : firstR (fun i => if WOk l i then none else some false) true l.Wait.length 0 with
    | false =>
      refine .inr ⟨fun hv => ?_, rfl⟩
      have := (all_iff (WOk l) true l.Wait.length).2 ⟨rfl, hv.w⟩
      unfold allB at this
      rw [hc] at this
      cases this
    | true =>
      have hW := ((all_iff (WOk l) true l.Wait.length).1 hc).2
      show (ValP l ∧ rvalid_s4 l () = some true) ∨ (¬ ValP l ∧ rvalid_s4 l () = some false)
      rw [rearly_eq l hd he]
      cases he' : allB (EOk l) true l.Early.length with
      | true => exact .inl ⟨⟨hd, hag, hw, he, hW, ((all_iff _ _ _).1 he').2⟩, rfl⟩
      | false =>
        refine .inr ⟨fun hv => ?_, rfl⟩
        have := (all_iff (EOk l) true l.Early.length).2 ⟨rfl, hv.e⟩
        rw [he'] at this
        cases this
  · refine .inr ⟨fun hv => hA ⟨hv.hd, hv.ag, hv.lw, hv.le⟩, ?_⟩
    have e5 : rvalid_s5 l = some (.inr false) := by
      unfold rvalid_s5
      simp only [Bool.cond_eq_ite, decide_eq_true_eq]
      repeat' split
      all_goals first | rfl | (exfalso; apply hA; unfold HdP AgP; refine ⟨⟨by omega, by omega, by omega, by omega⟩, ⟨by omega, by omega⟩, by omega, by omega⟩)
    rw [e5]
    rfl
theorem rvalid_eq (l : Link) : rvalid l = some (validB l) := by
  unfold validB
  rcases rvalid_cases l with ⟨_, h⟩ | ⟨_, h⟩ <;> rw [h] <;> rfl
theorem valid_iff (l : Link) : validB l = true ↔ ValP l := by
  unfold validB
  rcases rvalid_cases l with ⟨h1, h⟩ | ⟨h1, h⟩ <;> rw [h]
  · exact ⟨fun _ => h1, fun _ => rfl⟩
  · exact ⟨fun hh => (by cases hh), fun hh => absurd hh h1⟩


noncomputable def ct_waiting : Ct D := ctN as_waiting rs_waiting 1 [] (fun a => some ((fun (l : Link) => (HdP l ∧ l.Wait.length ≤ 100 : Prop)) (a))) (fun a => (fun (l : Link) => (allB (WOk l) (decide (l.Wait.length ≤ 64)) l.Wait.length : Bool)) (a))
theorem ct_waiting_ok : CtOk Try.prog S 32 ct_waiting :=
  fn_okN mixed T_ok g_waiting_ok S_ok j_waiting_ok Try.func32 rfl (by kernel_rfl) Try.ntmps32 rfl (by kernel_rfl) as_waiting_ok rs_waiting_ok (fun a => some ((fun (l : Link) => (HdP l ∧ l.Wait.length ≤ 100 : Prop)) (a))) (fun a => (fun (l : Link) => (allB (WOk l) (decide (l.Wait.length ≤ 64)) l.Wait.length : Bool)) (a))
    (fun a h => (waiting_run (a)).symm.trans (waiting_eq (a) h))

noncomputable def ct_early : Ct D := ctN as_early rs_early 1 [] (fun a => some ((fun (l : Link) => (HdP l ∧ l.Early.length ≤ 9223372036854775807 : Prop)) (a))) (fun a => (fun (l : Link) => (allB (EOk' l) true l.Early.length : Bool)) (a))
theorem ct_early_ok : CtOk Try.prog S 33 ct_early :=
  fn_okN mixed T_ok g_early_ok S_ok j_early_ok Try.func33 rfl (by kernel_rfl) Try.ntmps33 rfl (by kernel_rfl) as_early_ok rs_early_ok (fun a => some ((fun (l : Link) => (HdP l ∧ l.Early.length ≤ 9223372036854775807 : Prop)) (a))) (fun a => (fun (l : Link) => (allB (EOk' l) true l.Early.length : Bool)) (a))
    (fun a h => (early_run (a)).symm.trans (early_eq (a) h))

noncomputable def ct_same : Ct D := ctN as_same rs_same 1 [] (fun a => some ((fun (a : Link) (b : Link) => (a = b ∧ a.Wait.length ≤ 1000000 ∧ a.Early.length ≤ 1000000 : Prop)) (a.1) (a.2))) (fun a => (fun (a : Link) (b : Link) => (true : Bool)) (a.1) (a.2))
theorem ct_same_ok : CtOk Try.prog S 15 ct_same :=
  fn_okN mixed T_ok g_same_ok S_ok j_same_ok Try.func15 rfl (by kernel_rfl) Try.ntmps15 rfl (by kernel_rfl) as_same_ok rs_same_ok (fun a => some ((fun (a : Link) (b : Link) => (a = b ∧ a.Wait.length ≤ 1000000 ∧ a.Early.length ≤ 1000000 : Prop)) (a.1) (a.2))) (fun a => (fun (a : Link) (b : Link) => (true : Bool)) (a.1) (a.2))
    (fun a h => (same_run (a.1) (a.2)).symm.trans (same_eq (a.1) (a.2) h))

noncomputable def ct_rvalid : Ct D := ctN as_rvalid rs_rvalid 1 [] (fun a => none) (fun a => (fun (l : Link) => (validB l : Bool)) (a))
theorem ct_rvalid_ok : CtOk Try.prog S 12 ct_rvalid :=
  fn_okN mixed T_ok g_rvalid_ok S_ok j_rvalid_ok Try.func12 rfl (by kernel_rfl) Try.ntmps12 rfl (by kernel_rfl) as_rvalid_ok rs_rvalid_ok (fun a => none) (fun a => (fun (l : Link) => (validB l : Bool)) (a))
    (fun a h => (rvalid_run (a)).symm.trans (rvalid_eq (a)))

def as_valid : ArgShp D := args (a1 (aAgg cd_Link))
theorem as_valid_ok : ArgOk S as_valid 0 39 := args_ok (a1_ok (aAgg_ok cd_Link_ok)) rfl
def rs_valid : Shp D := shr [.slot 0 false [none]] (l1 cBool)
theorem rs_valid_ok : ShpOk S rs_valid := shr_ok (l1_ok cBool_ok)
def j_valid : Nat → Option (Shp D) := fun _ => none
theorem j_valid_ok : ∀ i sh, j_valid i = some sh → ShpOk S sh := fun i sh h => by cases h
noncomputable def gt_valid : List (Nat × Ct D) := [(32, ct_waiting), (33, ct_early)]
noncomputable def g_valid : FuncId → Option (Ct D) := lk gt_valid
theorem g_valid_ok : ∀ f ct, g_valid f = some ct → CtOk Try.prog S f ct := by
  intro f ct h
  have := lk_mem h
  simp only [gt_valid, List.mem_cons, Prod.mk.injEq, List.not_mem_nil, or_false] at this
  rcases this with ⟨rfl, rfl⟩ | ⟨rfl, rfl⟩
  · exact ct_waiting_ok
  · exact ct_early_ok
noncomputable def valid (l : Link) : Option Bool :=
  bif decide ((1 : Int) ≤ l.Next) then
    bif decide (l.Next ≤ (1099511627776 : Int)) then
      bif decide ((1 : Int) ≤ l.Expect) then
        bif decide (l.Expect ≤ (1099511627776 : Int)) then
          bif decide ((0 : Int) ≤ l.Again) then
            bif decide (l.Again ≤ (1099511627776 : Int)) then
              need (HdP l ∧ l.Wait.length ≤ (100 : Nat))
                (bif allB (WOk l) (decide (l.Wait.length ≤ (64 : Nat))) l.Wait.length then
                  need (HdP l ∧ l.Early.length ≤ (9223372036854775807 : Nat)) (some (allB (EOk' l) true l.Early.length))
                else some false)
            else some false
          else some false
        else some false
      else some false
    else some false
  else some false
theorem valid_run (l : Link) : valid l = (evC T S g_valid 39 j_valid (Try.f11.body.getD .skip) rs_valid.X (St.init (as_valid.enc (l)).1 (as_valid.enc (l)).2) (retL T S Try.f11.results.toList rs_valid 0 [])).run := by kernel_rfl


theorem valid_eq (l : Link) (h : l.Wait.length ≤ 100 ∧ l.Early.length ≤ 9223372036854775807) : valid l = some (validB l) := by
  obtain ⟨hw, he⟩ := h
  have key : ∀ x : Bool, (x = true ↔ ValP l) → some x = some (validB l) := by
    intro x hx
    congr 1
    rw [Bool.eq_iff_iff, hx, valid_iff]
  unfold valid
  by_cases hA : HdP l ∧ AgP l
  · obtain ⟨hd, hag⟩ := hA
    obtain ⟨a1, a2, a3, a4⟩ := hd
    obtain ⟨b1, b2⟩ := hag
    have hd : HdP l := ⟨a1, a2, a3, a4⟩
    simp only [a1, a2, a3, a4, b1, b2, hd, hw, he, and_self, need_true, decide_true, cond_true]
    cases hc : allB (WOk l) (decide (l.Wait.length ≤ 64)) l.Wait.length with
    | false =>
      refine key _ ⟨fun hh => (by cases hh), fun hv => ?_⟩
      have := (all_iff (WOk l) (decide (l.Wait.length ≤ 64)) l.Wait.length).2 ⟨decide_eq_true hv.lw, hv.w⟩
      rw [hc] at this
      cases this
    | true =>
      obtain ⟨h1, h2⟩ := (all_iff _ _ _).1 hc
      rw [decide_eq_true_eq] at h1
      show some (allB (EOk' l) true l.Early.length) = _
      refine key _ ⟨fun hh => ?_, fun hv => (all_iff _ _ _).2 ⟨rfl, (early_iff l _).2 hv.e⟩⟩
      have h3 := ((all_iff _ _ _).1 hh).2
      exact ⟨hd, ⟨b1, b2⟩, h1, early_len l _ h3, h2, (early_iff l _).1 h3⟩
  · have hf : validB l = false := by
      cases hb : validB l with
      | false => rfl
      | true => exact absurd ⟨((valid_iff l).1 hb).hd, ((valid_iff l).1 hb).ag⟩ hA
    rw [hf]
    simp only [Bool.cond_eq_ite, decide_eq_true_eq]
    repeat' split
    all_goals first | rfl | (exfalso; apply hA; unfold HdP AgP; refine ⟨⟨by omega, by omega, by omega, by omega⟩, by omega, by omega⟩)


noncomputable def ct_valid : Ct D := ctN as_valid rs_valid 1 [] (fun a => some ((fun (l : Link) => (l.Wait.length ≤ 100 ∧ l.Early.length ≤ 9223372036854775807 : Prop)) (a))) (fun a => (fun (l : Link) => (validB l : Bool)) (a))
theorem ct_valid_ok : CtOk Try.prog S 11 ct_valid :=
  fn_okN mixed T_ok g_valid_ok S_ok j_valid_ok Try.func11 rfl (by kernel_rfl) Try.ntmps11 rfl (by kernel_rfl) as_valid_ok rs_valid_ok (fun a => some ((fun (l : Link) => (l.Wait.length ≤ 100 ∧ l.Early.length ≤ 9223372036854775807 : Prop)) (a))) (fun a => (fun (l : Link) => (validB l : Bool)) (a))
    (fun a h => (valid_run (a)).symm.trans (valid_eq (a) h))
end Go.Proofs.Ytjmolijohilahaa
