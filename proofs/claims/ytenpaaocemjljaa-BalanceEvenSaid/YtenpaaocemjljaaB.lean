/-
  Balance: what the small functions compute.
-/
import Derived.Test.YtenpaaocemjljaaA
namespace Go.Proofs.Ytenpaaocemjljaa
open Go.RowKit Go.Vc
set_option linter.unusedVariables false
set_option linter.unusedSimpArgs false
set_option maxRecDepth 100000

def as_count : ArgShp D := args (a1 (aLf (cInt .i64)))
theorem as_count_ok : ArgOk S as_count 0 9 := args_ok (a1_ok (aLf_ok (cInt_ok _))) rfl
def rs_count : Shp D := shr [.slot 0 false [none]] (l1 cBool)
theorem rs_count_ok : ShpOk S rs_count := shr_ok (l1_ok cBool_ok)
def j_count : Nat → Option (Shp D) := fun _ => none
theorem j_count_ok : ∀ i sh, j_count i = some sh → ShpOk S sh := fun i sh h => by cases h
def g_count : FuncId → Option (Ct D) := fun _ => none
theorem g_count_ok : ∀ f ct, g_count f = some ct → CtOk Try.prog S f ct := fun f ct h => by cases h
noncomputable def count (n : Int) : Option Bool :=
  bif decide ((0 : Int) ≤ n) then some (decide (n ≤ (1000000 : Int))) else some false
theorem count_run (n : Int) : count n = (evC T S g_count 9 j_count (Try.f28.body.getD .skip) rs_count.X (St.init (as_count.enc (n)).1 (as_count.enc (n)).2) (retL T S Try.f28.results.toList rs_count 0 [])).run := by kernel_rfl

def as_bound : ArgShp D := args (aCons (aLf (cInt .i64)) (a1 (aLf (cInt .i64))))
theorem as_bound_ok : ArgOk S as_bound 0 9 := args_ok (aCons_ok (aLf_ok (cInt_ok _)) (a1_ok (aLf_ok (cInt_ok _)))) rfl
def rs_bound : Shp D := shr [.slot 0 false [none]] (l1 (cInt .i64))
theorem rs_bound_ok : ShpOk S rs_bound := shr_ok (l1_ok (cInt_ok _))
def j_bound : Nat → Option (Shp D) := fun _ => none
theorem j_bound_ok : ∀ i sh, j_bound i = some sh → ShpOk S sh := fun i sh h => by cases h
def g_bound : FuncId → Option (Ct D) := fun _ => none
theorem g_bound_ok : ∀ f ct, g_bound f = some ct → CtOk Try.prog S f ct := fun f ct h => by cases h
noncomputable def bound (n : Int) (m : Int) : Option Int :=
  some (min (max n (0 : Int)) m)
theorem bound_run (n : Int) (m : Int) : bound n m = (evC T S g_bound 9 j_bound (Try.f30.body.getD .skip) rs_bound.X (St.init (as_bound.enc (n, m)).1 (as_bound.enc (n, m)).2) (retL T S Try.f30.results.toList rs_bound 0 [])).run := by kernel_rfl

def as_rat : ArgShp D := args (a1 (aLf (cInt .i64)))
theorem as_rat_ok : ArgOk S as_rat 0 6 := args_ok (a1_ok (aLf_ok (cInt_ok _))) rfl
def rs_rat : Shp D := shr [.slot 0 false [none]] (l1 (cInt .i64))
theorem rs_rat_ok : ShpOk S rs_rat := shr_ok (l1_ok (cInt_ok _))
def j_rat : Nat → Option (Shp D) := fun _ => none
theorem j_rat_ok : ∀ i sh, j_rat i = some sh → ShpOk S sh := fun i sh h => by cases h
def g_rat : FuncId → Option (Ct D) := fun _ => none
theorem g_rat_ok : ∀ f ct, g_rat f = some ct → CtOk Try.prog S f ct := fun f ct h => by cases h
noncomputable def rat (n : Int) : Option Int :=
  some (min (max n (0 : Int)) (1099511627776 : Int))
theorem rat_run (n : Int) : rat n = (evC T S g_rat 6 j_rat (Try.f32.body.getD .skip) rs_rat.X (St.init (as_rat.enc (n)).1 (as_rat.enc (n)).2) (retL T S Try.f32.results.toList rs_rat 0 [])).run := by kernel_rfl

def as_named : ArgShp D := args (a1 (aLf cStr))
theorem as_named_ok : ArgOk S as_named 0 40 := args_ok (a1_ok (aLf_ok cStr_ok)) rfl
def rs_named : Shp D := shr [.slot 0 false [none]] (l1 cBool)
theorem rs_named_ok : ShpOk S rs_named := shr_ok (l1_ok cBool_ok)
def jt_named : List (Nat × Shp D) := [(4, shp (fun sl => [.slot 14 false [none]]) (l1 (cInt .i64))), (100003, shp (fun sl => []) l0)]
def j_named : Nat → Option (Shp D) := lk jt_named
theorem j_named_ok : ∀ i sh, j_named i = some sh → ShpOk S sh := by
  intro i sh h
  have := lk_mem h
  simp only [jt_named, List.mem_cons, Prod.mk.injEq, List.not_mem_nil, or_false] at this
  rcases this with ⟨_, rfl⟩ | ⟨_, rfl⟩
  · exact shp_ok (l1_ok (cInt_ok _))
  · exact shp_ok l0_ok
def g_named : FuncId → Option (Ct D) := fun _ => none
theorem g_named_ok : ∀ f ct, g_named f = some ct → CtOk Try.prog S f ct := fun f ct h => by cases h
noncomputable def named_s1 (s : Str) (x2 : Int) : Option (Int ⊕ Bool) :=
  bif decide (x2 < (↑(List.length s) : Int)) then
    need ((0 : Int) ≤ x2 ∧ x2 < (↑(List.length s) : Int))
      (bif decide ((↑(List.getD s x2.toNat (0 : UInt8)).toNat : Int) < (97 : Int)) then
        need ((0 : Int) ≤ x2 ∧ x2 < (↑(List.length s) : Int))
          (bif decide ((↑(List.getD s x2.toNat (0 : UInt8)).toNat : Int) < (48 : Int)) then some (Sum.inr false)
          else
            need ((0 : Int) ≤ x2 ∧ x2 < (↑(List.length s) : Int))
              (bif decide ((57 : Int) < (↑(List.getD s x2.toNat (0 : UInt8)).toNat : Int)) then some (Sum.inr false)
              else need (InR IntKind.i64 (x2 + (1 : Int))) (some (Sum.inl (x2 + (1 : Int))))))
      else
        need ((0 : Int) ≤ x2 ∧ x2 < (↑(List.length s) : Int))
          (bif decide ((122 : Int) < (↑(List.getD s x2.toNat (0 : UInt8)).toNat : Int)) then
            need ((0 : Int) ≤ x2 ∧ x2 < (↑(List.length s) : Int))
              (bif decide ((↑(List.getD s x2.toNat (0 : UInt8)).toNat : Int) < (48 : Int)) then some (Sum.inr false)
              else
                need ((0 : Int) ≤ x2 ∧ x2 < (↑(List.length s) : Int))
                  (bif decide ((57 : Int) < (↑(List.getD s x2.toNat (0 : UInt8)).toNat : Int)) then some (Sum.inr false)
                  else need (InR IntKind.i64 (x2 + (1 : Int))) (some (Sum.inl (x2 + (1 : Int))))))
          else need (InR IntKind.i64 (x2 + (1 : Int))) (some (Sum.inl (x2 + (1 : Int))))))
  else some (Sum.inr true)
noncomputable def named_s2 (s : Str) : Option (Unit ⊕ Bool) :=
  bif decide ((↑(List.length s) : Int) < (1 : Int)) then some (Sum.inr false) else bif decide ((40 : Int) < (↑(List.length s) : Int)) then some (Sum.inr false) else some (Sum.inl ())
noncomputable def named_s3 (s : Str) (y1 : Unit) : Option Bool :=
  loopU (named_s1 s) (0 : Int)
noncomputable def named (s : Str) : Option Bool :=
  bindS (named_s2 s) (named_s3 s)
theorem named_run (s : Str) : named s = (evC T S g_named 40 j_named (Try.f27.body.getD .skip) rs_named.X (St.init (as_named.enc (s)).1 (as_named.enc (s)).2) (retL T S Try.f27.results.toList rs_named 0 [])).run := by kernel_rfl

def as_isName : ArgShp D := args (a1 (aLf cStr))
theorem as_isName_ok : ArgOk S as_isName 0 40 := args_ok (a1_ok (aLf_ok cStr_ok)) rfl
def rs_isName : Shp D := shr [.slot 0 false [none]] (l1 cBool)
theorem rs_isName_ok : ShpOk S rs_isName := shr_ok (l1_ok cBool_ok)
def jt_isName : List (Nat × Shp D) := [(4, shp (fun sl => [.slot 3 false [none]]) (l1 (cInt .i64))), (100003, shp (fun sl => []) l0)]
def j_isName : Nat → Option (Shp D) := lk jt_isName
theorem j_isName_ok : ∀ i sh, j_isName i = some sh → ShpOk S sh := by
  intro i sh h
  have := lk_mem h
  simp only [jt_isName, List.mem_cons, Prod.mk.injEq, List.not_mem_nil, or_false] at this
  rcases this with ⟨_, rfl⟩ | ⟨_, rfl⟩
  · exact shp_ok (l1_ok (cInt_ok _))
  · exact shp_ok l0_ok
def g_isName : FuncId → Option (Ct D) := fun _ => none
theorem g_isName_ok : ∀ f ct, g_isName f = some ct → CtOk Try.prog S f ct := fun f ct h => by cases h
noncomputable def isName_s1 (s : Str) (x2 : Int) : Option (Int ⊕ Bool) :=
  bif decide (x2 < (↑(List.length s) : Int)) then
    need ((0 : Int) ≤ x2 ∧ x2 < (↑(List.length s) : Int))
      (bif decide ((↑(List.getD s x2.toNat (0 : UInt8)).toNat : Int) < (97 : Int)) then
        need ((0 : Int) ≤ x2 ∧ x2 < (↑(List.length s) : Int))
          (bif decide ((↑(List.getD s x2.toNat (0 : UInt8)).toNat : Int) < (48 : Int)) then some (Sum.inr false)
          else
            need ((0 : Int) ≤ x2 ∧ x2 < (↑(List.length s) : Int))
              (bif decide ((57 : Int) < (↑(List.getD s x2.toNat (0 : UInt8)).toNat : Int)) then some (Sum.inr false)
              else need (InR IntKind.i64 (x2 + (1 : Int))) (some (Sum.inl (x2 + (1 : Int))))))
      else
        need ((0 : Int) ≤ x2 ∧ x2 < (↑(List.length s) : Int))
          (bif decide ((122 : Int) < (↑(List.getD s x2.toNat (0 : UInt8)).toNat : Int)) then
            need ((0 : Int) ≤ x2 ∧ x2 < (↑(List.length s) : Int))
              (bif decide ((↑(List.getD s x2.toNat (0 : UInt8)).toNat : Int) < (48 : Int)) then some (Sum.inr false)
              else
                need ((0 : Int) ≤ x2 ∧ x2 < (↑(List.length s) : Int))
                  (bif decide ((57 : Int) < (↑(List.getD s x2.toNat (0 : UInt8)).toNat : Int)) then some (Sum.inr false)
                  else need (InR IntKind.i64 (x2 + (1 : Int))) (some (Sum.inl (x2 + (1 : Int))))))
          else need (InR IntKind.i64 (x2 + (1 : Int))) (some (Sum.inl (x2 + (1 : Int))))))
  else some (Sum.inr true)
noncomputable def isName_s2 (s : Str) : Option (Unit ⊕ Bool) :=
  bif decide ((↑(List.length s) : Int) < (1 : Int)) then some (Sum.inr false) else bif decide ((40 : Int) < (↑(List.length s) : Int)) then some (Sum.inr false) else some (Sum.inl ())
noncomputable def isName_s3 (s : Str) (y1 : Unit) : Option Bool :=
  loopU (isName_s1 s) (0 : Int)
noncomputable def isName (s : Str) : Option Bool :=
  bindS (isName_s2 s) (isName_s3 s)
theorem isName_run (s : Str) : isName s = (evC T S g_isName 40 j_isName (Try.f29.body.getD .skip) rs_isName.X (St.init (as_isName.enc (s)).1 (as_isName.enc (s)).2) (retL T S Try.f29.results.toList rs_isName 0 [])).run := by kernel_rfl

def as_before : ArgShp D := args (aCons (aAgg cd_Backend) (a1 (aAgg cd_Backend)))
theorem as_before_ok : ArgOk S as_before 0 38 := args_ok (aCons_ok (aAgg_ok cd_Backend_ok) (a1_ok (aAgg_ok cd_Backend_ok))) rfl
def rs_before : Shp D := shr [.slot 0 false [none]] (l1 cBool)
theorem rs_before_ok : ShpOk S rs_before := shr_ok (l1_ok cBool_ok)
def j_before : Nat → Option (Shp D) := fun _ => none
theorem j_before_ok : ∀ i sh, j_before i = some sh → ShpOk S sh := fun i sh h => by cases h
def g_before : FuncId → Option (Ct D) := fun _ => none
theorem g_before_ok : ∀ f ct, g_before f = some ct → CtOk Try.prog S f ct := fun f ct h => by cases h
noncomputable def before (a : Backend) (b : Backend) : Option Bool :=
  need (InR IntKind.i64 (a.Busy + a.Load))
    (need (InR IntKind.i64 ((a.Busy + a.Load) * b.Weight))
      (need (InR IntKind.i64 (b.Busy + b.Load))
        (need (InR IntKind.i64 ((b.Busy + b.Load) * a.Weight))
          (bif decide ((a.Busy + a.Load) * b.Weight < (b.Busy + b.Load) * a.Weight) then some true
          else bif (a.Busy + a.Load) * b.Weight == (b.Busy + b.Load) * a.Weight then some (decide (a.Busy < b.Busy)) else some false))))
theorem before_run (a : Backend) (b : Backend) : before a b = (evC T S g_before 38 j_before (Try.f33.body.getD .skip) rs_before.X (St.init (as_before.enc (a, b)).1 (as_before.enc (a, b)).2) (retL T S Try.f33.results.toList rs_before 0 [])).run := by kernel_rfl

def as_find : ArgShp D := args (aCons (aLf cd_LBackend) (a1 (aLf cStr)))
theorem as_find_ok : ArgOk S as_find 0 21 := args_ok (aCons_ok (aLf_ok cd_LBackend_ok) (a1_ok (aLf_ok cStr_ok))) rfl
def rs_find : Shp D := shr [.slot 0 false [none], .slot 1 false [none]] (lCons (cInt .i64) (l1 cBool))
theorem rs_find_ok : ShpOk S rs_find := shr_ok (lCons_ok (cInt_ok _) (l1_ok cBool_ok))
def jt_find : List (Nat × Shp D) := [(2, shp (fun sl => [.slot 10 false [none]]) (l1 (cInt .i64)))]
def j_find : Nat → Option (Shp D) := lk jt_find
theorem j_find_ok : ∀ i sh, j_find i = some sh → ShpOk S sh := by
  intro i sh h
  have := lk_mem h
  simp only [jt_find, List.mem_cons, Prod.mk.injEq, List.not_mem_nil, or_false] at this
  rcases this with ⟨_, rfl⟩
  · exact shp_ok (l1_ok (cInt_ok _))
def g_find : FuncId → Option (Ct D) := fun _ => none
theorem g_find_ok : ∀ f ct, g_find f = some ct → CtOk Try.prog S f ct := fun f ct h => by cases h
noncomputable def find_s1 (l : List Backend) (name : Str) (x1 : Int) : Option (Int ⊕ Int × Bool) :=
  bif decide (x1 < (↑l.length : Int)) then
    need ((0 : Int) ≤ x1 ∧ x1 < (↑l.length : Int))
      (bif (l.getD x1.toNat d_Backend).Name == name then some (Sum.inr (x1, true)) else need (InR IntKind.i64 (x1 + (1 : Int))) (some (Sum.inl (x1 + (1 : Int)))))
  else some (Sum.inr ((0 : Int), false))
noncomputable def find (l : List Backend) (name : Str) : Option (Int × Bool) :=
  loopU (find_s1 l name) (0 : Int)
theorem find_run (l : List Backend) (name : Str) : find l name = (evC T S g_find 21 j_find (Try.f10.body.getD .skip) rs_find.X (St.init (as_find.enc (l, name)).1 (as_find.enc (l, name)).2) (retL T S Try.f10.results.toList rs_find 0 [])).run := by kernel_rfl

def as_rfind : ArgShp D := args (aCons (aLf cd_LBackend) (a1 (aLf cStr)))
theorem as_rfind_ok : ArgOk S as_rfind 0 21 := args_ok (aCons_ok (aLf_ok cd_LBackend_ok) (a1_ok (aLf_ok cStr_ok))) rfl
def rs_rfind : Shp D := shr [.slot 0 false [none], .slot 1 false [none]] (lCons (cInt .i64) (l1 cBool))
theorem rs_rfind_ok : ShpOk S rs_rfind := shr_ok (lCons_ok (cInt_ok _) (l1_ok cBool_ok))
def jt_rfind : List (Nat × Shp D) := [(2, shp (fun sl => [.slot 6 false [none]]) (l1 (cInt .i64)))]
def j_rfind : Nat → Option (Shp D) := lk jt_rfind
theorem j_rfind_ok : ∀ i sh, j_rfind i = some sh → ShpOk S sh := by
  intro i sh h
  have := lk_mem h
  simp only [jt_rfind, List.mem_cons, Prod.mk.injEq, List.not_mem_nil, or_false] at this
  rcases this with ⟨_, rfl⟩
  · exact shp_ok (l1_ok (cInt_ok _))
def g_rfind : FuncId → Option (Ct D) := fun _ => none
theorem g_rfind_ok : ∀ f ct, g_rfind f = some ct → CtOk Try.prog S f ct := fun f ct h => by cases h
noncomputable def rfind_s1 (l : List Backend) (name : Str) (x1 : Int) : Option (Int ⊕ Int × Bool) :=
  bif decide (x1 < (↑l.length : Int)) then
    need ((0 : Int) ≤ x1 ∧ x1 < (↑l.length : Int))
      (bif (l.getD x1.toNat d_Backend).Name == name then some (Sum.inr (x1, true)) else need (InR IntKind.i64 (x1 + (1 : Int))) (some (Sum.inl (x1 + (1 : Int)))))
  else some (Sum.inr ((0 : Int), false))
noncomputable def rfind (l : List Backend) (name : Str) : Option (Int × Bool) :=
  loopU (rfind_s1 l name) (0 : Int)
theorem rfind_run (l : List Backend) (name : Str) : rfind l name = (evC T S g_rfind 21 j_rfind (Try.f11.body.getD .skip) rs_rfind.X (St.init (as_rfind.enc (l, name)).1 (as_rfind.enc (l, name)).2) (retL T S Try.f11.results.toList rs_rfind 0 [])).run := by kernel_rfl

def as_pless : ArgShp D := args (aCons (aAgg cd_Backend) (a1 (aAgg cd_Backend)))
theorem as_pless_ok : ArgOk S as_pless 0 22 := args_ok (aCons_ok (aAgg_ok cd_Backend_ok) (a1_ok (aAgg_ok cd_Backend_ok))) rfl
def rs_pless : Shp D := shr [.slot 0 false [none]] (l1 cBool)
theorem rs_pless_ok : ShpOk S rs_pless := shr_ok (l1_ok cBool_ok)
def j_pless : Nat → Option (Shp D) := fun _ => none
theorem j_pless_ok : ∀ i sh, j_pless i = some sh → ShpOk S sh := fun i sh h => by cases h
def g_pless : FuncId → Option (Ct D) := fun _ => none
theorem g_pless_ok : ∀ f ct, g_pless f = some ct → CtOk Try.prog S f ct := fun f ct h => by cases h
noncomputable def pless (a : Backend) (b : Backend) : Option Bool :=
  need (InR IntKind.i64 (a.Busy + a.Load))
    (need (InR IntKind.i64 ((a.Busy + a.Load) * b.Weight))
      (need (InR IntKind.i64 (b.Busy + b.Load))
        (need (InR IntKind.i64 ((b.Busy + b.Load) * a.Weight)) (some (decide ((a.Busy + a.Load) * b.Weight < (b.Busy + b.Load) * a.Weight))))))
theorem pless_run (a : Backend) (b : Backend) : pless a b = (evC T S g_pless 22 j_pless (Try.f17.body.getD .skip) rs_pless.X (St.init (as_pless.enc (a, b)).1 (as_pless.enc (a, b)).2) (retL T S Try.f17.results.toList rs_pless 0 [])).run := by kernel_rfl

def as_clone : ArgShp D := args (a1 (aLf cd_LBackend))
theorem as_clone_ok : ArgOk S as_clone 0 8 := args_ok (a1_ok (aLf_ok cd_LBackend_ok)) rfl
def rs_clone : Shp D := shr [.slot 0 false [some 32]] (l1 cd_LBackend)
theorem rs_clone_ok : ShpOk S rs_clone := shr_ok (l1_ok cd_LBackend_ok)
def j_clone : Nat → Option (Shp D) := fun _ => none
theorem j_clone_ok : ∀ i sh, j_clone i = some sh → ShpOk S sh := fun i sh h => by cases h
def g_clone : FuncId → Option (Ct D) := fun _ => none
theorem g_clone_ok : ∀ f ct, g_clone f = some ct → CtOk Try.prog S f ct := fun f ct h => by cases h
noncomputable def clone (l : List Backend) : Option (List Backend) :=
  both (fun (b : Bool) => b = true → l.length = (0 : Nat)) (some []) (need (roomP ((0 : Nat) + l.length) (56 : Nat)) (some l))
theorem clone_run (l : List Backend) : clone l = (evC T S g_clone 8 j_clone (Try.f39.body.getD .skip) rs_clone.X (St.init (as_clone.enc (l)).1 (as_clone.enc (l)).2) (retL T S Try.f39.results.toList rs_clone 0 [])).run := by kernel_rfl

def as_rsame : ArgShp D := args (aCons (aLf cd_LBackend) (a1 (aLf cd_LBackend)))
theorem as_rsame_ok : ArgOk S as_rsame 0 26 := args_ok (aCons_ok (aLf_ok cd_LBackend_ok) (a1_ok (aLf_ok cd_LBackend_ok))) rfl
def rs_rsame : Shp D := shr [.slot 0 false [none]] (l1 cBool)
theorem rs_rsame_ok : ShpOk S rs_rsame := shr_ok (l1_ok cBool_ok)
def jt_rsame : List (Nat × Shp D) := [(4, shp (fun sl => [.slot 5 false [none]]) (l1 (cInt .i64)))]
def j_rsame : Nat → Option (Shp D) := lk jt_rsame
theorem j_rsame_ok : ∀ i sh, j_rsame i = some sh → ShpOk S sh := by
  intro i sh h
  have := lk_mem h
  simp only [jt_rsame, List.mem_cons, Prod.mk.injEq, List.not_mem_nil, or_false] at this
  rcases this with ⟨_, rfl⟩
  · exact shp_ok (l1_ok (cInt_ok _))
def g_rsame : FuncId → Option (Ct D) := fun _ => none
theorem g_rsame_ok : ∀ f ct, g_rsame f = some ct → CtOk Try.prog S f ct := fun f ct h => by cases h
noncomputable def rsame_s1 (a : List Backend) (b : List Backend) (x1 : Int) : Option (Int ⊕ Bool) :=
  bif decide (x1 < (↑a.length : Int)) then
    need ((0 : Int) ≤ x1 ∧ x1 < (↑a.length : Int))
      (need ((0 : Int) ≤ x1 ∧ x1 < (↑b.length : Int))
        (bif
            !((a.getD x1.toNat d_Backend).Name == (b.getD x1.toNat d_Backend).Name &&
                ((a.getD x1.toNat d_Backend).Load == (b.getD x1.toNat d_Backend).Load &&
                  ((a.getD x1.toNat d_Backend).Busy == (b.getD x1.toNat d_Backend).Busy &&
                    ((a.getD x1.toNat d_Backend).Weight == (b.getD x1.toNat d_Backend).Weight &&
                      ((a.getD x1.toNat d_Backend).Fails == (b.getD x1.toNat d_Backend).Fails &&
                        ((a.getD x1.toNat d_Backend).Out == (b.getD x1.toNat d_Backend).Out && true)))))) then
          some (Sum.inr false)
        else need (InR IntKind.i64 (x1 + (1 : Int))) (some (Sum.inl (x1 + (1 : Int))))))
  else some (Sum.inr true)
noncomputable def rsame (a : List Backend) (b : List Backend) : Option Bool :=
  bif (↑a.length : Int) != (↑b.length : Int) then some false else loopU (rsame_s1 a b) (0 : Int)
theorem rsame_run (a : List Backend) (b : List Backend) : rsame a b = (evC T S g_rsame 26 j_rsame (Try.f26.body.getD .skip) rs_rsame.X (St.init (as_rsame.enc (a, b)).1 (as_rsame.enc (a, b)).2) (retL T S Try.f26.results.toList rs_rsame 0 [])).run := by kernel_rfl

def as_rwith : ArgShp D := args (aCons (aLf cd_LBackend) (aCons (aLf (cInt .i64)) (a1 (aAgg cd_Backend))))
theorem as_rwith_ok : ArgOk S as_rwith 0 30 := args_ok (aCons_ok (aLf_ok cd_LBackend_ok) (aCons_ok (aLf_ok (cInt_ok _)) (a1_ok (aAgg_ok cd_Backend_ok)))) rfl
def rs_rwith : Shp D := shr [.slot 0 false [none]] (l1 cd_LBackend)
theorem rs_rwith_ok : ShpOk S rs_rwith := shr_ok (l1_ok cd_LBackend_ok)
def jt_rwith : List (Nat × Shp D) := [(3, shp (fun sl => [.slot 7 false [some 32], .slot 8 false [none]]) (lCons cd_LBackend (l1 (cInt .i64))))]
def j_rwith : Nat → Option (Shp D) := lk jt_rwith
theorem j_rwith_ok : ∀ i sh, j_rwith i = some sh → ShpOk S sh := by
  intro i sh h
  have := lk_mem h
  simp only [jt_rwith, List.mem_cons, Prod.mk.injEq, List.not_mem_nil, or_false] at this
  rcases this with ⟨_, rfl⟩
  · exact shp_ok (lCons_ok cd_LBackend_ok (l1_ok (cInt_ok _)))
def g_rwith : FuncId → Option (Ct D) := fun _ => none
theorem g_rwith_ok : ∀ f ct, g_rwith f = some ct → CtOk Try.prog S f ct := fun f ct h => by cases h
noncomputable def rwith_s1 (l : List Backend) (i : Int) (b : Backend) (x1 : List Backend × Int) : Option (List Backend × Int ⊕ List Backend) :=
  bif decide (x1.snd < (↑l.length : Int)) then
    bif x1.snd == i then need (roomP (x1.fst.length + (1 : Nat)) (56 : Nat)) (need (InR IntKind.i64 (x1.snd + (1 : Int))) (some (Sum.inl (x1.fst ++ [b], x1.snd + (1 : Int)))))
    else
      need ((0 : Int) ≤ x1.snd ∧ x1.snd < (↑l.length : Int))
        (need (roomP (x1.fst.length + (1 : Nat)) (56 : Nat))
          (need (InR IntKind.i64 (x1.snd + (1 : Int))) (some (Sum.inl (x1.fst ++ [l.getD x1.snd.toNat d_Backend], x1.snd + (1 : Int))))))
  else some (Sum.inr x1.fst)
noncomputable def rwith (l : List Backend) (i : Int) (b : Backend) : Option (List Backend) :=
  loopU (rwith_s1 l i b) ([], (0 : Int))
theorem rwith_run (l : List Backend) (i : Int) (b : Backend) : rwith l i b = (evC T S g_rwith 30 j_rwith (Try.f37.body.getD .skip) rs_rwith.X (St.init (as_rwith.enc (l, i, b)).1 (as_rwith.enc (l, i, b)).2) (retL T S Try.f37.results.toList rs_rwith 0 [])).run := by kernel_rfl

def as_pickLess : ArgShp D := argsB (aCons (aAgg cd_Backend) (aCons (aAgg cd_Backend) (a1 (aPtr 0)))) (b1 (bCells (cInt .i64)))
theorem as_pickLess_ok : ArgOk S as_pickLess 1 53 := argsB_ok (aCons_ok (aAgg_ok cd_Backend_ok) (aCons_ok (aAgg_ok cd_Backend_ok) (a1_ok (aPtr_ok 0)))) (b1_ok (bCells_ok (cInt_ok _))) rfl
def rs_pickLess : Shp D := shr [.slot 0 false [none]] (l1 cBool)
theorem rs_pickLess_ok : ShpOk S rs_pickLess := shr_ok (l1_ok cBool_ok)
def j_pickLess : Nat → Option (Shp D) := fun _ => none
theorem j_pickLess_ok : ∀ i sh, j_pickLess i = some sh → ShpOk S sh := fun i sh h => by cases h
def g_pickLess : FuncId → Option (Ct D) := fun _ => none
theorem g_pickLess_ok : ∀ f ct, g_pickLess f = some ct → CtOk Try.prog S f ct := fun f ct h => by cases h
noncomputable def pickLess (a : Backend) (b : Backend) (now : Int) : Option Bool :=
  bif decide (a.Out ≤ now) != decide (b.Out ≤ now) then some (decide (a.Out ≤ now))
  else
    need (InR IntKind.i64 (a.Busy + a.Load))
      (need (InR IntKind.i64 ((a.Busy + a.Load) * b.Weight))
        (need (InR IntKind.i64 (b.Busy + b.Load))
          (need (InR IntKind.i64 ((b.Busy + b.Load) * a.Weight))
            (bif decide ((a.Busy + a.Load) * b.Weight < (b.Busy + b.Load) * a.Weight) then some true
            else bif (a.Busy + a.Load) * b.Weight == (b.Busy + b.Load) * a.Weight then some (decide (a.Busy < b.Busy)) else some false))))
theorem pickLess_run (a : Backend) (b : Backend) (now : Int) : pickLess a b now = (evC T S g_pickLess 53 j_pickLess (Try.f31.body.getD .skip) rs_pickLess.X (St.init (as_pickLess.enc ((a, b, ()), (now))).1 (as_pickLess.enc ((a, b, ()), (now))).2) (retL T S Try.f31.results.toList rs_pickLess 1 [0])).run := by kernel_rfl


theorem count_eq (n : Int) : count n = some (decide (0 ≤ n) && decide (n ≤ 1000000)) := by unfold count; cases decide (0 ≤ n) <;> rfl
def chB (c : UInt8) : Bool := (decide (97 ≤ (c.toNat : Int)) && decide ((c.toNat : Int) ≤ 122)) || (decide (48 ≤ (c.toNat : Int)) && decide ((c.toNat : Int) ≤ 57))
def nameB (s : Str) : Bool := decide (1 ≤ s.length) && decide (s.length ≤ 40) && firstR (fun i => if chB (s.getD i 0) then none else some false) true s.length 0
theorem ch_of (c : Int) {R : Type} (x y : Option R) : (bif decide (c < 97) then bif decide (c < 48) then x else bif decide (57 < c) then x else y else bif decide (122 < c) then bif decide (c < 48) then x else bif decide (57 < c) then x else y else y) =
    if ((decide (97 ≤ c) && decide (c ≤ 122)) || (decide (48 ≤ c) && decide (c ≤ 57))) = true then y else x := by
  simp only [Bool.cond_eq_ite, decide_eq_true_eq, Bool.or_eq_true, Bool.and_eq_true]
  repeat' split
  all_goals first | rfl | (exfalso; omega)
theorem named_round (s : Str) (i : Nat) (hi : i < s.length) (hs : s.length ≤ 40) : named_s1 s i = some (orGo (if chB (s.getD i 0) then none else some false) ((i + 1 : Nat) : Int)) := by
  have hi' : (i : Int) < (s.length : Int) := by omega
  have h0 : (0 : Int) ≤ i := by omega
  have hr : InR .i64 ((i : Int) + 1) := by simp only [InR]; omega
  unfold named_s1 chB
  simp only [hi', h0, hr, and_self, need_true, decide_true, cond_true, Int.toNat_natCast]
  rw [ch_of]
  split <;> rfl
theorem named_eq (s : Str) : named s = some (nameB s) := by
  unfold named bindS named_s2 named_s3 nameB
  by_cases h1 : ((s.length : Nat) : Int) < 1
  · have : s.length = 0 := by omega
    simp [this]
  by_cases h2 : 40 < ((s.length : Nat) : Int)
  · have : ¬ s.length ≤ 40 := by omega
    simp [h1, h2, this]
  have a1 : 1 ≤ s.length := by omega
  have a2 : s.length ≤ 40 := by omega
  simp only [h1, h2, a1, a2, decide_false, cond_false, decide_true, Bool.true_and]
  exact loop_first0 (fun i hi => named_round s i hi a2) (by unfold named_s1; simp)
theorem isName_eq (s : Str) : isName s = some (nameB s) := named_eq s
def findR (l : List Backend) (name : Str) : Int × Bool := firstR (fun i => if (l.getD i d_Backend).Name == name then some ((i : Int), true) else none) (0, false) l.length 0
theorem find_eq (l : List Backend) (name : Str) (h : l.length ≤ 9223372036854775807) : find l name = some (findR l name) := by
  unfold find findR
  refine loop_first0 (fun i hi => ?_) ?_
  · have hi' : (i : Int) < l.length := by omega
    have h0 : (0 : Int) ≤ i := by omega
    have hr : InR .i64 ((i : Int) + 1) := by simp only [InR]; omega
    unfold find_s1
    simp only [hi', h0, hr, and_self, need_true, decide_true, cond_true, Int.toNat_natCast]
    cases (l.getD i d_Backend).Name == name <;> rfl
  · unfold find_s1
    simp
theorem rfind_eq (l : List Backend) (name : Str) (h : l.length ≤ 9223372036854775807) : rfind l name = some (findR l name) := find_eq l name h



theorem clone_eq (l : List Backend) (h : l.length ≤ 8) : clone l = some l := by
  unfold clone
  refine both_of ⟨false, fun e => by cases e⟩ (fun h1 => ?_) (fun _ => ?_)
  · have := h1 rfl
    cases l with
    | nil => rfl
    | cons a l => simp at this
  · exact need_pos (by unfold roomP; omega)
theorem set_getD (l : List Backend) (n k : Nat) (b : Backend) (hk : k < l.length) : (l.set n b).getD k d_Backend = if k = n then b else l.getD k d_Backend := by
  have h1 : k < (l.set n b).length := by simpa using hk
  rw [getD_some h1, getD_some hk, List.getElem_set]
  by_cases e : n = k
  · simp [e]
  · rw [if_neg e, if_neg fun h => e h.symm]
theorem rwith_eq (l : List Backend) (i : Int) (b : Backend) (h : l.length ≤ 8 ∧ 0 ≤ i ∧ i < l.length) : rwith l i b = some (l.set i.toNat b) := by
  obtain ⟨h8, hi0, hi1⟩ := h
  unfold rwith
  have key := loop_acc (step := rwith_s1 l i b) (fun a k => (a, k)) (fun k a => a = (l.set i.toNat b).take k) (fun k a => a ++ [(l.set i.toNat b).getD k d_Backend]) (n := l.length) (r := fun a => a)
    (fun k a hk ha => ?_) (fun a ha => ?_) l.length 0 [] (by omega) (by simp)
  · rw [show ((0 : Nat) : Int) = 0 from rfl] at key
    rw [key]
    have := foldI_inv (g := fun k (a : List Backend) => a ++ [(l.set i.toNat b).getD k d_Backend]) (fun k a => a = (l.set i.toNat b).take k) (n := l.length) (fun k a hk ha => ?_) l.length 0 [] (by omega) (by simp)
    · rw [this, List.take_of_length_le (by simp)]
    · have hk' : k < (l.set i.toNat b).length := by simpa using hk
      rw [ha, List.take_succ_eq_append_getElem hk', getD_some hk']
  · have hk0 : (k : Int) < l.length := by omega
    have h0 : (0 : Int) ≤ k := by omega
    have hr : InR .i64 ((k : Int) + 1) := by simp only [InR]; omega
    have hk' : k < (l.set i.toNat b).length := by simpa using hk
    have hlen : a.length = k := by rw [ha, List.length_take]; omega
    have hroom : roomP (a.length + 1) 56 := by unfold roomP; omega
    refine ⟨?_, ?_⟩
    · unfold rwith_s1
      simp only [hk0, h0, hr, hroom, and_self, need_true, decide_true, cond_true, Int.toNat_natCast]
      rw [set_getD _ _ _ _ hk]
      by_cases e : (k : Int) = i
      · have e' : k = i.toNat := by omega
        simp [e, ← e']
      · have e' : ¬ k = i.toNat := by omega
        have e2 : ((k : Int) == i) = false := by simpa using e
        simp [e2, e']
    · rw [ha, List.take_succ_eq_append_getElem hk', getD_some hk']
  · unfold rwith_s1
    simp


noncomputable def ct_clone : Ct D := ctN as_clone rs_clone 1 [] (fun a => some ((fun (l : List Backend) => (l.length ≤ 8 : Prop)) (a))) (fun a => (fun (l : List Backend) => (l : List Backend)) (a))
theorem ct_clone_ok : CtOk Try.prog S 39 ct_clone :=
  fn_okN mixed T_ok g_clone_ok S_ok j_clone_ok Try.func39 rfl (by kernel_rfl) Try.ntmps39 rfl (by kernel_rfl) as_clone_ok rs_clone_ok (fun a => some ((fun (l : List Backend) => (l.length ≤ 8 : Prop)) (a))) (fun a => (fun (l : List Backend) => (l : List Backend)) (a))
    (fun a h => (clone_run (a)).symm.trans (clone_eq (a) h))

noncomputable def ct_rwith : Ct D := ctN as_rwith rs_rwith 1 [] (fun a => some ((fun (l : List Backend) (i : Int) (b : Backend) => (l.length ≤ 8 ∧ 0 ≤ i ∧ i < l.length : Prop)) (a.1) (a.2.1) (a.2.2))) (fun a => (fun (l : List Backend) (i : Int) (b : Backend) => (l.set i.toNat b : List Backend)) (a.1) (a.2.1) (a.2.2))
theorem ct_rwith_ok : CtOk Try.prog S 37 ct_rwith :=
  fn_okN mixed T_ok g_rwith_ok S_ok j_rwith_ok Try.func37 rfl (by kernel_rfl) Try.ntmps37 rfl (by kernel_rfl) as_rwith_ok rs_rwith_ok (fun a => some ((fun (l : List Backend) (i : Int) (b : Backend) => (l.length ≤ 8 ∧ 0 ≤ i ∧ i < l.length : Prop)) (a.1) (a.2.1) (a.2.2))) (fun a => (fun (l : List Backend) (i : Int) (b : Backend) => (l.set i.toNat b : List Backend)) (a.1) (a.2.1) (a.2.2))
    (fun a h => (rwith_run (a.1) (a.2.1) (a.2.2)).symm.trans (rwith_eq (a.1) (a.2.1) (a.2.2) h))

noncomputable def ct_count : Ct D := ctN as_count rs_count 1 [] (fun a => none) (fun a => (fun (n : Int) => (decide (0 ≤ n) && decide (n ≤ 1000000) : Bool)) (a))
theorem ct_count_ok : CtOk Try.prog S 28 ct_count :=
  fn_okN mixed T_ok g_count_ok S_ok j_count_ok Try.func28 rfl (by kernel_rfl) Try.ntmps28 rfl (by kernel_rfl) as_count_ok rs_count_ok (fun a => none) (fun a => (fun (n : Int) => (decide (0 ≤ n) && decide (n ≤ 1000000) : Bool)) (a))
    (fun a h => (count_run (a)).symm.trans (count_eq (a)))

noncomputable def ct_bound : Ct D := ctN as_bound rs_bound 1 [] (fun a => none) (fun a => (fun (n : Int) (m : Int) => (min (max n 0) m : Int)) (a.1) (a.2))
theorem ct_bound_ok : CtOk Try.prog S 30 ct_bound :=
  fn_okN mixed T_ok g_bound_ok S_ok j_bound_ok Try.func30 rfl (by kernel_rfl) Try.ntmps30 rfl (by kernel_rfl) as_bound_ok rs_bound_ok (fun a => none) (fun a => (fun (n : Int) (m : Int) => (min (max n 0) m : Int)) (a.1) (a.2))
    (fun a h => (bound_run (a.1) (a.2)).symm.trans ((fun _ _ => rfl) (a.1) (a.2)))

noncomputable def ct_rat : Ct D := ctN as_rat rs_rat 1 [] (fun a => none) (fun a => (fun (n : Int) => (min (max n 0) 1099511627776 : Int)) (a))
theorem ct_rat_ok : CtOk Try.prog S 32 ct_rat :=
  fn_okN mixed T_ok g_rat_ok S_ok j_rat_ok Try.func32 rfl (by kernel_rfl) Try.ntmps32 rfl (by kernel_rfl) as_rat_ok rs_rat_ok (fun a => none) (fun a => (fun (n : Int) => (min (max n 0) 1099511627776 : Int)) (a))
    (fun a h => (rat_run (a)).symm.trans ((fun _ => rfl) (a)))

noncomputable def ct_named : Ct D := ctN as_named rs_named 1 [] (fun a => none) (fun a => (fun (s : Str) => (nameB s : Bool)) (a))
theorem ct_named_ok : CtOk Try.prog S 27 ct_named :=
  fn_okN mixed T_ok g_named_ok S_ok j_named_ok Try.func27 rfl (by kernel_rfl) Try.ntmps27 rfl (by kernel_rfl) as_named_ok rs_named_ok (fun a => none) (fun a => (fun (s : Str) => (nameB s : Bool)) (a))
    (fun a h => (named_run (a)).symm.trans (named_eq (a)))

noncomputable def ct_isName : Ct D := ctN as_isName rs_isName 1 [] (fun a => none) (fun a => (fun (s : Str) => (nameB s : Bool)) (a))
theorem ct_isName_ok : CtOk Try.prog S 29 ct_isName :=
  fn_okN mixed T_ok g_isName_ok S_ok j_isName_ok Try.func29 rfl (by kernel_rfl) Try.ntmps29 rfl (by kernel_rfl) as_isName_ok rs_isName_ok (fun a => none) (fun a => (fun (s : Str) => (nameB s : Bool)) (a))
    (fun a h => (isName_run (a)).symm.trans (isName_eq (a)))

noncomputable def ct_find : Ct D := ctN as_find rs_find 2 [] (fun a => some ((fun (l : List Backend) (name : Str) => (l.length ≤ 9223372036854775807 : Prop)) (a.1) (a.2))) (fun a => (fun (l : List Backend) (name : Str) => (findR l name : Int × Bool)) (a.1) (a.2))
theorem ct_find_ok : CtOk Try.prog S 10 ct_find :=
  fn_okN mixed T_ok g_find_ok S_ok j_find_ok Try.func10 rfl (by kernel_rfl) Try.ntmps10 rfl (by kernel_rfl) as_find_ok rs_find_ok (fun a => some ((fun (l : List Backend) (name : Str) => (l.length ≤ 9223372036854775807 : Prop)) (a.1) (a.2))) (fun a => (fun (l : List Backend) (name : Str) => (findR l name : Int × Bool)) (a.1) (a.2))
    (fun a h => (find_run (a.1) (a.2)).symm.trans (find_eq (a.1) (a.2) h))

noncomputable def ct_rfind : Ct D := ctN as_rfind rs_rfind 2 [] (fun a => some ((fun (l : List Backend) (name : Str) => (l.length ≤ 9223372036854775807 : Prop)) (a.1) (a.2))) (fun a => (fun (l : List Backend) (name : Str) => (findR l name : Int × Bool)) (a.1) (a.2))
theorem ct_rfind_ok : CtOk Try.prog S 11 ct_rfind :=
  fn_okN mixed T_ok g_rfind_ok S_ok j_rfind_ok Try.func11 rfl (by kernel_rfl) Try.ntmps11 rfl (by kernel_rfl) as_rfind_ok rs_rfind_ok (fun a => some ((fun (l : List Backend) (name : Str) => (l.length ≤ 9223372036854775807 : Prop)) (a.1) (a.2))) (fun a => (fun (l : List Backend) (name : Str) => (findR l name : Int × Bool)) (a.1) (a.2))
    (fun a h => (rfind_run (a.1) (a.2)).symm.trans (rfind_eq (a.1) (a.2) h))
end Go.Proofs.Ytenpaaocemjljaa
