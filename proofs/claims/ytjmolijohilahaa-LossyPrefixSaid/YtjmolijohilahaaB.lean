/-
  Lossy: what the small functions compute.
-/
import Derived.Test.YtjmolijohilahaaA
namespace Go.Proofs.Ytjmolijohilahaa
open Go.RowKit Go.Vc
set_option linter.unusedVariables false
set_option linter.unusedSimpArgs false
set_option maxRecDepth 100000

def as_carries : ArgShp D := args (a1 (aLf cStr))
theorem as_carries_ok : ArgOk S as_carries 0 11 := args_ok (a1_ok (aLf_ok cStr_ok)) rfl
def rs_carries : Shp D := shr [.slot 0 false [none]] (l1 cBool)
theorem rs_carries_ok : ShpOk S rs_carries := shr_ok (l1_ok cBool_ok)
def j_carries : Nat → Option (Shp D) := fun _ => none
theorem j_carries_ok : ∀ i sh, j_carries i = some sh → ShpOk S sh := fun i sh h => by cases h
def g_carries : FuncId → Option (Ct D) := fun _ => none
theorem g_carries_ok : ∀ f ct, g_carries f = some ct → CtOk Try.prog S f ct := fun f ct h => by cases h
noncomputable def carries (s : Str) : Option Bool :=
  bif decide ((1 : Int) ≤ (↑(List.length s) : Int)) then some (decide ((↑(List.length s) : Int) ≤ (16384 : Int))) else some false
theorem carries_run (s : Str) : carries s = (evC T S g_carries 11 j_carries (Try.f34.body.getD .skip) rs_carries.X (St.init (as_carries.enc (s)).1 (as_carries.enc (s)).2) (retL T S Try.f34.results.toList rs_carries 0 [])).run := by kernel_rfl

def as_proper : ArgShp D := args (a1 (aLf cStr))
theorem as_proper_ok : ArgOk S as_proper 0 10 := args_ok (a1_ok (aLf_ok cStr_ok)) rfl
def rs_proper : Shp D := shr [.slot 0 false [none]] (l1 cBool)
theorem rs_proper_ok : ShpOk S rs_proper := shr_ok (l1_ok cBool_ok)
def j_proper : Nat → Option (Shp D) := fun _ => none
theorem j_proper_ok : ∀ i sh, j_proper i = some sh → ShpOk S sh := fun i sh h => by cases h
def g_proper : FuncId → Option (Ct D) := fun _ => none
theorem g_proper_ok : ∀ f ct, g_proper f = some ct → CtOk Try.prog S f ct := fun f ct h => by cases h
noncomputable def proper (s : Str) : Option Bool :=
  bif s != #[].toList then some (decide ((↑(List.length s) : Int) ≤ (16384 : Int))) else some false
theorem proper_run (s : Str) : proper s = (evC T S g_proper 10 j_proper (Try.f35.body.getD .skip) rs_proper.X (St.init (as_proper.enc (s)).1 (as_proper.enc (s)).2) (retL T S Try.f35.results.toList rs_proper 0 [])).run := by kernel_rfl

def as_newL : ArgShp D := args a0
theorem as_newL_ok : ArgOk S as_newL 0 2 := args_ok a0_ok rfl
def rs_newL : Shp D := shr [.slot 0 true [none, none, none, none, none, none]] (l1 cd_Link)
theorem rs_newL_ok : ShpOk S rs_newL := shr_ok (l1_ok cd_Link_ok)
def j_newL : Nat → Option (Shp D) := fun _ => none
theorem j_newL_ok : ∀ i sh, j_newL i = some sh → ShpOk S sh := fun i sh h => by cases h
def g_newL : FuncId → Option (Ct D) := fun _ => none
theorem g_newL_ok : ∀ f ct, g_newL f = some ct → CtOk Try.prog S f ct := fun f ct h => by cases h
noncomputable def newL : Option Link :=
  some (Link.mk (1 : Int) [] (1 : Int) [] (0 : Int) false)
theorem newL_run : newL = (evC T S g_newL 2 j_newL (Try.f16.body.getD .skip) rs_newL.X (St.init (as_newL.enc ()).1 (as_newL.enc ()).2) (retL T S Try.f16.results.toList rs_newL 0 [])).run := by kernel_rfl

def as_rnewL : ArgShp D := args a0
theorem as_rnewL_ok : ArgOk S as_rnewL 0 2 := args_ok a0_ok rfl
def rs_rnewL : Shp D := shr [.slot 0 true [none, none, none, none, none, none]] (l1 cd_Link)
theorem rs_rnewL_ok : ShpOk S rs_rnewL := shr_ok (l1_ok cd_Link_ok)
def j_rnewL : Nat → Option (Shp D) := fun _ => none
theorem j_rnewL_ok : ∀ i sh, j_rnewL i = some sh → ShpOk S sh := fun i sh h => by cases h
def g_rnewL : FuncId → Option (Ct D) := fun _ => none
theorem g_rnewL_ok : ∀ f ct, g_rnewL f = some ct → CtOk Try.prog S f ct := fun f ct h => by cases h
noncomputable def rnewL : Option Link :=
  some (Link.mk (1 : Int) [] (1 : Int) [] (0 : Int) false)
theorem rnewL_run : rnewL = (evC T S g_rnewL 2 j_rnewL (Try.f17.body.getD .skip) rs_rnewL.X (St.init (as_rnewL.enc ()).1 (as_rnewL.enc ()).2) (retL T S Try.f17.results.toList rs_rnewL 0 [])).run := by kernel_rfl

def as_quiet : ArgShp D := args (a1 (aAgg cd_Link))
theorem as_quiet_ok : ArgOk S as_quiet 0 12 := args_ok (a1_ok (aAgg_ok cd_Link_ok)) rfl
def rs_quiet : Shp D := shr [.slot 0 false [none]] (l1 cBool)
theorem rs_quiet_ok : ShpOk S rs_quiet := shr_ok (l1_ok cBool_ok)
def j_quiet : Nat → Option (Shp D) := fun _ => none
theorem j_quiet_ok : ∀ i sh, j_quiet i = some sh → ShpOk S sh := fun i sh h => by cases h
def g_quiet : FuncId → Option (Ct D) := fun _ => none
theorem g_quiet_ok : ∀ f ct, g_quiet f = some ct → CtOk Try.prog S f ct := fun f ct h => by cases h
noncomputable def quiet (l : Link) : Option Bool :=
  bif (↑l.Wait.length : Int) == (0 : Int) then some !l.Due else some false
theorem quiet_run (l : Link) : quiet l = (evC T S g_quiet 12 j_quiet (Try.f13.body.getD .skip) rs_quiet.X (St.init (as_quiet.enc (l)).1 (as_quiet.enc (l)).2) (retL T S Try.f13.results.toList rs_quiet 0 [])).run := by kernel_rfl

def as_rquiet : ArgShp D := args (a1 (aAgg cd_Link))
theorem as_rquiet_ok : ArgOk S as_rquiet 0 12 := args_ok (a1_ok (aAgg_ok cd_Link_ok)) rfl
def rs_rquiet : Shp D := shr [.slot 0 false [none]] (l1 cBool)
theorem rs_rquiet_ok : ShpOk S rs_rquiet := shr_ok (l1_ok cBool_ok)
def j_rquiet : Nat → Option (Shp D) := fun _ => none
theorem j_rquiet_ok : ∀ i sh, j_rquiet i = some sh → ShpOk S sh := fun i sh h => by cases h
def g_rquiet : FuncId → Option (Ct D) := fun _ => none
theorem g_rquiet_ok : ∀ f ct, g_rquiet f = some ct → CtOk Try.prog S f ct := fun f ct h => by cases h
noncomputable def rquiet (l : Link) : Option Bool :=
  bif (↑l.Wait.length : Int) == (0 : Int) then some !l.Due else some false
theorem rquiet_run (l : Link) : rquiet l = (evC T S g_rquiet 12 j_rquiet (Try.f14.body.getD .skip) rs_rquiet.X (St.init (as_rquiet.enc (l)).1 (as_rquiet.enc (l)).2) (retL T S Try.f14.results.toList rs_rquiet 0 [])).run := by kernel_rfl

def as_clone : ArgShp D := args (a1 (aLf cd_LPacket))
theorem as_clone_ok : ArgOk S as_clone 0 8 := args_ok (a1_ok (aLf_ok cd_LPacket_ok)) rfl
def rs_clone : Shp D := shr [.slot 0 false [some 30]] (l1 cd_LPacket)
theorem rs_clone_ok : ShpOk S rs_clone := shr_ok (l1_ok cd_LPacket_ok)
def j_clone : Nat → Option (Shp D) := fun _ => none
theorem j_clone_ok : ∀ i sh, j_clone i = some sh → ShpOk S sh := fun i sh h => by cases h
def g_clone : FuncId → Option (Ct D) := fun _ => none
theorem g_clone_ok : ∀ f ct, g_clone f = some ct → CtOk Try.prog S f ct := fun f ct h => by cases h
noncomputable def clone (l : List Packet) : Option (List Packet) :=
  both (fun (b : Bool) => b = true → l.length = (0 : Nat)) (some []) (need (roomP ((0 : Nat) + l.length) (32 : Nat)) (some l))
theorem clone_run (l : List Packet) : clone l = (evC T S g_clone 8 j_clone (Try.f36.body.getD .skip) rs_clone.X (St.init (as_clone.enc (l)).1 (as_clone.enc (l)).2) (retL T S Try.f36.results.toList rs_clone 0 [])).run := by kernel_rfl

def as_small : ArgShp D := args (a1 (aAgg cd_Link))
theorem as_small_ok : ArgOk S as_small 0 58 := args_ok (a1_ok (aAgg_ok cd_Link_ok)) rfl
def rs_small : Shp D := shr [.slot 0 false [none]] (l1 cBool)
theorem rs_small_ok : ShpOk S rs_small := shr_ok (l1_ok cBool_ok)
def jt_small : List (Nat × Shp D) := [(5, shp (fun sl => [.slot 3 false [none], .slot 4 false [none]]) (lCons (cInt .i64) (l1 (cInt .i64)))), (9, shp (fun sl => [.slot 3 false [none], .slot 5 false [none]]) (lCons (cInt .i64) (l1 (cInt .i64)))), (100003, shp (fun sl => []) l0), (100007, shp (fun sl => []) l0), (100008, shp (fun sl => [.slot 3 false [none]]) (l1 (cInt .i64))), (100011, shp (fun sl => []) l0)]
def j_small : Nat → Option (Shp D) := lk jt_small
theorem j_small_ok : ∀ i sh, j_small i = some sh → ShpOk S sh := by
  intro i sh h
  have := lk_mem h
  simp only [jt_small, List.mem_cons, Prod.mk.injEq, List.not_mem_nil, or_false] at this
  rcases this with ⟨_, rfl⟩ | ⟨_, rfl⟩ | ⟨_, rfl⟩ | ⟨_, rfl⟩ | ⟨_, rfl⟩ | ⟨_, rfl⟩
  · exact shp_ok (lCons_ok (cInt_ok _) (l1_ok (cInt_ok _)))
  · exact shp_ok (lCons_ok (cInt_ok _) (l1_ok (cInt_ok _)))
  · exact shp_ok l0_ok
  · exact shp_ok l0_ok
  · exact shp_ok (l1_ok (cInt_ok _))
  · exact shp_ok l0_ok
def g_small : FuncId → Option (Ct D) := fun _ => none
theorem g_small_ok : ∀ f ct, g_small f = some ct → CtOk Try.prog S f ct := fun f ct h => by cases h
noncomputable def small_s1 (l : Link) (x2 : Int × Int) : Option (Unit ⊕ Int × Int ⊕ Int ⊕ Bool) :=
  bif decide (x2.snd < (↑l.Wait.length : Int)) then bif decide ((0 : Int) ≤ x2.fst) then some (Sum.inl ()) else some (Sum.inr (Sum.inr (Sum.inl x2.fst)))
  else some (Sum.inr (Sum.inr (Sum.inl x2.fst)))
noncomputable def small_s2 (l : Link) (x2 : Int × Int) (y3 : Unit) : Option (Int × Int ⊕ Int ⊕ Bool) :=
  need ((0 : Int) ≤ x2.snd ∧ x2.snd < (↑l.Wait.length : Int))
    (need (InR IntKind.i64 (x2.fst - (↑(List.length (l.Wait.getD x2.snd.toNat d_Packet).Data) : Int)))
      (need (InR IntKind.i64 (x2.snd + (1 : Int))) (some (Sum.inl (x2.fst - (↑(List.length (l.Wait.getD x2.snd.toNat d_Packet).Data) : Int), x2.snd + (1 : Int))))))
noncomputable def small_s3 (l : Link) (x2 : Int × Int) : Option (Int × Int ⊕ Int ⊕ Bool) :=
  bindS (small_s1 l x2) (small_s2 l x2)
noncomputable def small_s4 (l : Link) (x5 : Int × Int) : Option (Unit ⊕ Int × Int ⊕ Bool) :=
  bif decide (x5.snd < (↑l.Early.length : Int)) then bif decide ((0 : Int) ≤ x5.fst) then some (Sum.inl ()) else some (Sum.inr (Sum.inr (decide ((0 : Int) ≤ x5.fst))))
  else some (Sum.inr (Sum.inr (decide ((0 : Int) ≤ x5.fst))))
noncomputable def small_s5 (l : Link) (x5 : Int × Int) (y6 : Unit) : Option (Int × Int ⊕ Bool) :=
  need ((0 : Int) ≤ x5.snd ∧ x5.snd < (↑l.Early.length : Int))
    (need (InR IntKind.i64 (x5.fst - (↑(List.length (l.Early.getD x5.snd.toNat d_Packet).Data) : Int)))
      (need (InR IntKind.i64 (x5.snd + (1 : Int))) (some (Sum.inl (x5.fst - (↑(List.length (l.Early.getD x5.snd.toNat d_Packet).Data) : Int), x5.snd + (1 : Int))))))
noncomputable def small_s6 (l : Link) (x5 : Int × Int) : Option (Int × Int ⊕ Bool) :=
  bindS (small_s4 l x5) (small_s5 l x5)
noncomputable def small_s7 (l : Link) : Option (Int ⊕ Bool) :=
  loopU (small_s3 l) ((100000 : Int), (0 : Int))
noncomputable def small_s8 (l : Link) (y4 : Int) : Option Bool :=
  loopU (small_s6 l) (y4, (0 : Int))
noncomputable def small_s9 (l : Link) : Option (Unit ⊕ Bool) :=
  bif decide ((100 : Int) < (↑l.Wait.length : Int)) then some (Sum.inr false) else bif decide ((100 : Int) < (↑l.Early.length : Int)) then some (Sum.inr false) else some (Sum.inl ())
noncomputable def small_s10 (l : Link) (y1 : Unit) : Option Bool :=
  bindS (small_s7 l) (small_s8 l)
noncomputable def small (l : Link) : Option Bool :=
  bindS (small_s9 l) (small_s10 l)
theorem small_run (l : Link) : small l = (evC T S g_small 58 j_small (Try.f9.body.getD .skip) rs_small.X (St.init (as_small.enc (l)).1 (as_small.enc (l)).2) (retL T S Try.f9.results.toList rs_small 0 [])).run := by kernel_rfl

def as_samePs : ArgShp D := args (aCons (aLf cd_LPacket) (a1 (aLf cd_LPacket)))
theorem as_samePs_ok : ArgOk S as_samePs 0 54 := args_ok (aCons_ok (aLf_ok cd_LPacket_ok) (a1_ok (aLf_ok cd_LPacket_ok))) rfl
def rs_samePs : Shp D := shr [.slot 0 false [none]] (l1 cBool)
theorem rs_samePs_ok : ShpOk S rs_samePs := shr_ok (l1_ok cBool_ok)
def jt_samePs : List (Nat × Shp D) := [(4, shp (fun sl => [.slot 5 false [none]]) (l1 (cInt .i64)))]
def j_samePs : Nat → Option (Shp D) := lk jt_samePs
theorem j_samePs_ok : ∀ i sh, j_samePs i = some sh → ShpOk S sh := by
  intro i sh h
  have := lk_mem h
  simp only [jt_samePs, List.mem_cons, Prod.mk.injEq, List.not_mem_nil, or_false] at this
  rcases this with ⟨_, rfl⟩
  · exact shp_ok (l1_ok (cInt_ok _))
def g_samePs : FuncId → Option (Ct D) := fun _ => none
theorem g_samePs_ok : ∀ f ct, g_samePs f = some ct → CtOk Try.prog S f ct := fun f ct h => by cases h
noncomputable def samePs_s1 (a : List Packet) (b : List Packet) (x1 : Int) : Option (Int ⊕ Bool) :=
  bif decide (x1 < (↑a.length : Int)) then
    need ((0 : Int) ≤ x1 ∧ x1 < (↑a.length : Int))
      (need ((0 : Int) ≤ x1 ∧ x1 < (↑b.length : Int))
        (bif (a.getD x1.toNat d_Packet).Seq != (b.getD x1.toNat d_Packet).Seq then some (Sum.inr false)
        else
          need ((0 : Int) ≤ x1 ∧ x1 < (↑a.length : Int))
            (need ((0 : Int) ≤ x1 ∧ x1 < (↑b.length : Int))
              (bif (a.getD x1.toNat d_Packet).Ack != (b.getD x1.toNat d_Packet).Ack then some (Sum.inr false)
              else
                need ((0 : Int) ≤ x1 ∧ x1 < (↑a.length : Int))
                  (need ((0 : Int) ≤ x1 ∧ x1 < (↑b.length : Int))
                    (bif (a.getD x1.toNat d_Packet).Data != (b.getD x1.toNat d_Packet).Data then some (Sum.inr false)
                    else need (InR IntKind.i64 (x1 + (1 : Int))) (some (Sum.inl (x1 + (1 : Int))))))))))
  else some (Sum.inr true)
noncomputable def samePs (a : List Packet) (b : List Packet) : Option Bool :=
  bif (↑a.length : Int) != (↑b.length : Int) then some false else loopU (samePs_s1 a b) (0 : Int)
theorem samePs_run (a : List Packet) (b : List Packet) : samePs a b = (evC T S g_samePs 54 j_samePs (Try.f24.body.getD .skip) rs_samePs.X (St.init (as_samePs.enc (a, b)).1 (as_samePs.enc (a, b)).2) (retL T S Try.f24.results.toList rs_samePs 0 [])).run := by kernel_rfl

def as_sameTs : ArgShp D := args (aCons (aLf cd_Lstr) (a1 (aLf cd_Lstr)))
theorem as_sameTs_ok : ArgOk S as_sameTs 0 26 := args_ok (aCons_ok (aLf_ok cd_Lstr_ok) (a1_ok (aLf_ok cd_Lstr_ok))) rfl
def rs_sameTs : Shp D := shr [.slot 0 false [none]] (l1 cBool)
theorem rs_sameTs_ok : ShpOk S rs_sameTs := shr_ok (l1_ok cBool_ok)
def jt_sameTs : List (Nat × Shp D) := [(4, shp (fun sl => [.slot 5 false [none]]) (l1 (cInt .i64)))]
def j_sameTs : Nat → Option (Shp D) := lk jt_sameTs
theorem j_sameTs_ok : ∀ i sh, j_sameTs i = some sh → ShpOk S sh := by
  intro i sh h
  have := lk_mem h
  simp only [jt_sameTs, List.mem_cons, Prod.mk.injEq, List.not_mem_nil, or_false] at this
  rcases this with ⟨_, rfl⟩
  · exact shp_ok (l1_ok (cInt_ok _))
def g_sameTs : FuncId → Option (Ct D) := fun _ => none
theorem g_sameTs_ok : ∀ f ct, g_sameTs f = some ct → CtOk Try.prog S f ct := fun f ct h => by cases h
noncomputable def sameTs_s1 (a : List Str) (b : List Str) (x1 : Int) : Option (Int ⊕ Bool) :=
  bif decide (x1 < (↑a.length : Int)) then
    need ((0 : Int) ≤ x1 ∧ x1 < (↑a.length : Int))
      (need ((0 : Int) ≤ x1 ∧ x1 < (↑b.length : Int))
        (bif a.getD x1.toNat [] != b.getD x1.toNat [] then some (Sum.inr false) else need (InR IntKind.i64 (x1 + (1 : Int))) (some (Sum.inl (x1 + (1 : Int))))))
  else some (Sum.inr true)
noncomputable def sameTs (a : List Str) (b : List Str) : Option Bool :=
  bif (↑a.length : Int) != (↑b.length : Int) then some false else loopU (sameTs_s1 a b) (0 : Int)
theorem sameTs_run (a : List Str) (b : List Str) : sameTs a b = (evC T S g_sameTs 26 j_sameTs (Try.f27.body.getD .skip) rs_sameTs.X (St.init (as_sameTs.enc (a, b)).1 (as_sameTs.enc (a, b)).2) (retL T S Try.f27.results.toList rs_sameTs 0 [])).run := by kernel_rfl

def as_ack : ArgShp D := args (a1 (aAgg cd_Link))
theorem as_ack_ok : ArgOk S as_ack 0 10 := args_ok (a1_ok (aAgg_ok cd_Link_ok)) rfl
def rs_ack : Shp D := shr [.slot 0 true [none, none, none, none, none, none], .slot 1 true [none, none, none]] (lCons cd_Link (l1 cd_Packet))
theorem rs_ack_ok : ShpOk S rs_ack := shr_ok (lCons_ok cd_Link_ok (l1_ok cd_Packet_ok))
def j_ack : Nat → Option (Shp D) := fun _ => none
theorem j_ack_ok : ∀ i sh, j_ack i = some sh → ShpOk S sh := fun i sh h => by cases h
def g_ack : FuncId → Option (Ct D) := fun _ => none
theorem g_ack_ok : ∀ f ct, g_ack f = some ct → CtOk Try.prog S f ct := fun f ct h => by cases h
noncomputable def ack (l : Link) : Option (Link × Packet) :=
  need (InR IntKind.i64 (l.Expect - (1 : Int))) (some (Link.mk l.Next l.Wait l.Expect l.Early l.Again false, Packet.mk (0 : Int) (l.Expect - (1 : Int)) #[].toList))
theorem ack_run (l : Link) : ack l = (evC T S g_ack 10 j_ack (Try.f20.body.getD .skip) rs_ack.X (St.init (as_ack.enc (l)).1 (as_ack.enc (l)).2) (retL T S Try.f20.results.toList rs_ack 0 [])).run := by kernel_rfl

def as_rack : ArgShp D := args (a1 (aAgg cd_Link))
theorem as_rack_ok : ArgOk S as_rack 0 10 := args_ok (a1_ok (aAgg_ok cd_Link_ok)) rfl
def rs_rack : Shp D := shr [.slot 0 true [none, none, none, none, none, none], .slot 1 true [none, none, none]] (lCons cd_Link (l1 cd_Packet))
theorem rs_rack_ok : ShpOk S rs_rack := shr_ok (lCons_ok cd_Link_ok (l1_ok cd_Packet_ok))
def j_rack : Nat → Option (Shp D) := fun _ => none
theorem j_rack_ok : ∀ i sh, j_rack i = some sh → ShpOk S sh := fun i sh h => by cases h
def g_rack : FuncId → Option (Ct D) := fun _ => none
theorem g_rack_ok : ∀ f ct, g_rack f = some ct → CtOk Try.prog S f ct := fun f ct h => by cases h
noncomputable def rack (l : Link) : Option (Link × Packet) :=
  need (InR IntKind.i64 (l.Expect - (1 : Int))) (some (Link.mk l.Next l.Wait l.Expect l.Early l.Again false, Packet.mk (0 : Int) (l.Expect - (1 : Int)) #[].toList))
theorem rack_run (l : Link) : rack l = (evC T S g_rack 10 j_rack (Try.f21.body.getD .skip) rs_rack.X (St.init (as_rack.enc (l)).1 (as_rack.enc (l)).2) (retL T S Try.f21.results.toList rs_rack 0 [])).run := by kernel_rfl

def as_rresend : ArgShp D := args (a1 (aAgg cd_Link))
theorem as_rresend_ok : ArgOk S as_rresend 0 41 := args_ok (a1_ok (aAgg_ok cd_Link_ok)) rfl
def rs_rresend : Shp D := shr [.slot 0 true [none, none, none, none, none, none], .slot 1 false [none]] (lCons cd_Link (l1 cd_LPacket))
theorem rs_rresend_ok : ShpOk S rs_rresend := shr_ok (lCons_ok cd_Link_ok (l1_ok cd_LPacket_ok))
def jt_rresend : List (Nat × Shp D) := [(3, shp (fun sl => [.slot 4 false [some 30], .slot 5 false [none]]) (lCons cd_LPacket (l1 (cInt .i64)))), (100006, shp (fun sl => [.slot 4 false [some 30]]) (l1 cd_LPacket))]
def j_rresend : Nat → Option (Shp D) := lk jt_rresend
theorem j_rresend_ok : ∀ i sh, j_rresend i = some sh → ShpOk S sh := by
  intro i sh h
  have := lk_mem h
  simp only [jt_rresend, List.mem_cons, Prod.mk.injEq, List.not_mem_nil, or_false] at this
  rcases this with ⟨_, rfl⟩ | ⟨_, rfl⟩
  · exact shp_ok (lCons_ok cd_LPacket_ok (l1_ok (cInt_ok _)))
  · exact shp_ok (l1_ok cd_LPacket_ok)
def g_rresend : FuncId → Option (Ct D) := fun _ => none
theorem g_rresend_ok : ∀ f ct, g_rresend f = some ct → CtOk Try.prog S f ct := fun f ct h => by cases h
noncomputable def rresend_s1 (l : Link) (x1 : List Packet × Int) : Option (List Packet × Int ⊕ List Packet ⊕ Link × List Packet) :=
  bif decide (x1.snd < (↑l.Wait.length : Int)) then
    need ((0 : Int) ≤ x1.snd ∧ x1.snd < (↑l.Wait.length : Int))
      (need (InR IntKind.i64 (l.Expect - (1 : Int)))
        (need ((0 : Int) ≤ x1.snd ∧ x1.snd < (↑l.Wait.length : Int))
          (need (roomP (x1.fst.length + (1 : Nat)) (32 : Nat))
            (need (InR IntKind.i64 (x1.snd + (1 : Int)))
              (some (Sum.inl (x1.fst ++ [Packet.mk (l.Wait.getD x1.snd.toNat d_Packet).Seq (l.Expect - (1 : Int)) (l.Wait.getD x1.snd.toNat d_Packet).Data], x1.snd + (1 : Int))))))))
  else some (Sum.inr (Sum.inl x1.fst))
noncomputable def rresend_s2 (l : Link) : Option (List Packet ⊕ Link × List Packet) :=
  loopU (rresend_s1 l) ([], (0 : Int))
noncomputable def rresend_s3 (l : Link) (y2 : List Packet) : Option (Link × List Packet) :=
  bif decide (l.Again < (1099511627776 : Int)) then need (InR IntKind.i64 (l.Again + (1 : Int))) (some (Link.mk l.Next l.Wait l.Expect l.Early (l.Again + (1 : Int)) l.Due, y2))
  else some (l, y2)
noncomputable def rresend (l : Link) : Option (Link × List Packet) :=
  bindS (rresend_s2 l) (rresend_s3 l)
theorem rresend_run (l : Link) : rresend l = (evC T S g_rresend 41 j_rresend (Try.f23.body.getD .skip) rs_rresend.X (St.init (as_rresend.enc (l)).1 (as_rresend.enc (l)).2) (retL T S Try.f23.results.toList rs_rresend 0 [])).run := by kernel_rfl

def as_acked : ArgShp D := args (aCons (aLf cd_LPacket) (a1 (aLf (cInt .i64))))
theorem as_acked_ok : ArgOk S as_acked 0 33 := args_ok (aCons_ok (aLf_ok cd_LPacket_ok) (a1_ok (aLf_ok (cInt_ok _)))) rfl
def rs_acked : Shp D := shr [.slot 0 false [none]] (l1 cd_LPacket)
theorem rs_acked_ok : ShpOk S rs_acked := shr_ok (l1_ok cd_LPacket_ok)
def jt_acked : List (Nat × Shp D) := [(2, shp (fun sl => [.slot 5 false [none]]) (l1 (cInt .i64))), (100004, shp (fun sl => [.slot 5 false [none]]) (l1 (cInt .i64)))]
def j_acked : Nat → Option (Shp D) := lk jt_acked
theorem j_acked_ok : ∀ i sh, j_acked i = some sh → ShpOk S sh := by
  intro i sh h
  have := lk_mem h
  simp only [jt_acked, List.mem_cons, Prod.mk.injEq, List.not_mem_nil, or_false] at this
  rcases this with ⟨_, rfl⟩ | ⟨_, rfl⟩
  · exact shp_ok (l1_ok (cInt_ok _))
  · exact shp_ok (l1_ok (cInt_ok _))
def g_acked : FuncId → Option (Ct D) := fun _ => none
theorem g_acked_ok : ∀ f ct, g_acked f = some ct → CtOk Try.prog S f ct := fun f ct h => by cases h
noncomputable def acked_s1 (l : List Packet) (ack : Int) (x1 : Int) : Option (Int ⊕ Int ⊕ List Packet) :=
  bif decide (x1 < (↑l.length : Int)) then
    need ((0 : Int) ≤ x1 ∧ x1 < (↑l.length : Int))
      (bif decide ((l.getD x1.toNat d_Packet).Seq ≤ ack) then need (InR IntKind.i64 (x1 + (1 : Int))) (some (Sum.inl (x1 + (1 : Int)))) else some (Sum.inr (Sum.inl x1)))
  else some (Sum.inr (Sum.inl x1))
noncomputable def acked_s2 (l : List Packet) (ack : Int) : Option (Int ⊕ List Packet) :=
  loopU (acked_s1 l ack) (0 : Int)
noncomputable def acked_s3 (l : List Packet) (y2 : Int) : Option (List Packet) :=
  need (InR IntKind.i64 ((↑l.length : Int) - y2))
    (need
      ((↑l.length : Int) - y2 = (↑l.length : Int) - y2 ∧
        (0 : Int) ≤ (↑l.length : Int) - y2 ∧ ((↑l.length : Int) - y2) * (↑(32 : Nat) : Int) ≤ (281474976710656 : Int) ∧ (↑l.length : Int) - y2 ≤ (1099511627776 : Int))
      (need ((0 : Int) ≤ y2 ∧ y2 ≤ (↑l.length : Int) ∧ (↑l.length : Int) ≤ (↑l.length : Int))
        (some
          (List.drop (0 : Nat)
              (List.take
                (min (List.drop y2.toNat (List.take (↑l.length : Int).toNat l)).length
                  (List.replicate ((↑l.length : Int) - y2).toNat (Packet.mk (0 : Int) (0 : Int) #[].toList)).length)
                (List.drop y2.toNat (List.take (↑l.length : Int).toNat l))) ++
            List.drop
              (min (List.drop y2.toNat (List.take (↑l.length : Int).toNat l)).length
                (List.replicate ((↑l.length : Int) - y2).toNat (Packet.mk (0 : Int) (0 : Int) #[].toList)).length)
              (List.take (List.replicate ((↑l.length : Int) - y2).toNat (Packet.mk (0 : Int) (0 : Int) #[].toList)).length
                (List.replicate ((↑l.length : Int) - y2).toNat (Packet.mk (0 : Int) (0 : Int) #[].toList)))))))
noncomputable def acked (l : List Packet) (ack : Int) : Option (List Packet) :=
  bindS (acked_s2 l ack) (acked_s3 l)
theorem acked_run (l : List Packet) (ack : Int) : acked l ack = (evC T S g_acked 33 j_acked (Try.f37.body.getD .skip) rs_acked.X (St.init (as_acked.enc (l, ack)).1 (as_acked.enc (l, ack)).2) (retL T S Try.f37.results.toList rs_acked 0 [])).run := by kernel_rfl

def as_rinsert : ArgShp D := args (aCons (aLf cd_LPacket) (a1 (aAgg cd_Packet)))
theorem as_rinsert_ok : ArgOk S as_rinsert 0 53 := args_ok (aCons_ok (aLf_ok cd_LPacket_ok) (a1_ok (aAgg_ok cd_Packet_ok))) rfl
def rs_rinsert : Shp D := shr [.slot 0 false [none]] (l1 cd_LPacket)
theorem rs_rinsert_ok : ShpOk S rs_rinsert := shr_ok (l1_ok cd_LPacket_ok)
def jt_rinsert : List (Nat × Shp D) := [(4, shp (fun sl => [.slot 5 false [some 30], .slot 6 false [none], .slot 7 false [none]]) (lCons cd_LPacket (lCons cBool (l1 (cInt .i64))))), (100012, shp (fun sl => [.slot 5 false [some 30], .slot 6 false [none]]) (lCons cd_LPacket (l1 cBool)))]
def j_rinsert : Nat → Option (Shp D) := lk jt_rinsert
theorem j_rinsert_ok : ∀ i sh, j_rinsert i = some sh → ShpOk S sh := by
  intro i sh h
  have := lk_mem h
  simp only [jt_rinsert, List.mem_cons, Prod.mk.injEq, List.not_mem_nil, or_false] at this
  rcases this with ⟨_, rfl⟩ | ⟨_, rfl⟩
  · exact shp_ok (lCons_ok cd_LPacket_ok (lCons_ok cBool_ok (l1_ok (cInt_ok _))))
  · exact shp_ok (lCons_ok cd_LPacket_ok (l1_ok cBool_ok))
def g_rinsert : FuncId → Option (Ct D) := fun _ => none
theorem g_rinsert_ok : ∀ f ct, g_rinsert f = some ct → CtOk Try.prog S f ct := fun f ct h => by cases h
noncomputable def rinsert_s1 (l : List Packet) (p : Packet) (x1 : List Packet × Bool × Int) : Option (List Packet × Bool × Int ⊕ List Packet × Bool ⊕ List Packet) :=
  bif decide (x1.snd.snd < (↑l.length : Int)) then
    need ((0 : Int) ≤ x1.snd.snd ∧ x1.snd.snd < (↑l.length : Int))
      (bif (l.getD x1.snd.snd.toNat d_Packet).Seq == p.Seq then some (Sum.inr (Sum.inr l))
      else
        bif !x1.snd.fst then
          need ((0 : Int) ≤ x1.snd.snd ∧ x1.snd.snd < (↑l.length : Int))
            (bif decide (p.Seq < (l.getD x1.snd.snd.toNat d_Packet).Seq) then
              need (roomP (x1.fst.length + (1 : Nat)) (32 : Nat))
                (need ((0 : Int) ≤ x1.snd.snd ∧ x1.snd.snd < (↑l.length : Int))
                  (need (roomP ((x1.fst ++ [p]).length + (1 : Nat)) (32 : Nat))
                    (need (InR IntKind.i64 (x1.snd.snd + (1 : Int))) (some (Sum.inl (x1.fst ++ [p] ++ [l.getD x1.snd.snd.toNat d_Packet], true, x1.snd.snd + (1 : Int)))))))
            else
              need ((0 : Int) ≤ x1.snd.snd ∧ x1.snd.snd < (↑l.length : Int))
                (need (roomP (x1.fst.length + (1 : Nat)) (32 : Nat))
                  (need (InR IntKind.i64 (x1.snd.snd + (1 : Int))) (some (Sum.inl (x1.fst ++ [l.getD x1.snd.snd.toNat d_Packet], x1.snd.fst, x1.snd.snd + (1 : Int)))))))
        else
          need ((0 : Int) ≤ x1.snd.snd ∧ x1.snd.snd < (↑l.length : Int))
            (need (roomP (x1.fst.length + (1 : Nat)) (32 : Nat))
              (need (InR IntKind.i64 (x1.snd.snd + (1 : Int))) (some (Sum.inl (x1.fst ++ [l.getD x1.snd.snd.toNat d_Packet], x1.snd.fst, x1.snd.snd + (1 : Int)))))))
  else some (Sum.inr (Sum.inl (x1.fst, x1.snd.fst)))
noncomputable def rinsert_s2 (l : List Packet) (p : Packet) : Option (List Packet × Bool ⊕ List Packet) :=
  loopU (rinsert_s1 l p) ([], false, (0 : Int))
noncomputable def rinsert_s3 (p : Packet) (y2 : List Packet × Bool) : Option (List Packet) :=
  bif !y2.snd then need (roomP (y2.fst.length + (1 : Nat)) (32 : Nat)) (some (y2.fst ++ [p])) else some y2.fst
noncomputable def rinsert (l : List Packet) (p : Packet) : Option (List Packet) :=
  bindS (rinsert_s2 l p) (rinsert_s3 p)
theorem rinsert_run (l : List Packet) (p : Packet) : rinsert l p = (evC T S g_rinsert 53 j_rinsert (Try.f40.body.getD .skip) rs_rinsert.X (St.init (as_rinsert.enc (l, p)).1 (as_rinsert.enc (l, p)).2) (retL T S Try.f40.results.toList rs_rinsert 0 [])).run := by kernel_rfl

def as_without : ArgShp D := args (aCons (aLf cd_LPacket) (a1 (aLf (cInt .i64))))
theorem as_without_ok : ArgOk S as_without 0 17 := args_ok (aCons_ok (aLf_ok cd_LPacket_ok) (a1_ok (aLf_ok (cInt_ok _)))) rfl
def rs_without : Shp D := shr [.slot 0 false [some 30]] (l1 cd_LPacket)
theorem rs_without_ok : ShpOk S rs_without := shr_ok (l1_ok cd_LPacket_ok)
def j_without : Nat → Option (Shp D) := fun _ => none
theorem j_without_ok : ∀ i sh, j_without i = some sh → ShpOk S sh := fun i sh h => by cases h
def g_without : FuncId → Option (Ct D) := fun _ => none
theorem g_without_ok : ∀ f ct, g_without f = some ct → CtOk Try.prog S f ct := fun f ct h => by cases h
noncomputable def without (l : List Packet) (i : Int) : Option (List Packet) :=
  need ((0 : Int) ≤ (↑(0 : Nat) : Int) ∧ (↑(0 : Nat) : Int) ≤ i ∧ i ≤ (↑l.length : Int))
    (need (roomP (List.drop (↑(0 : Nat) : Int).toNat (List.take i.toNat l)).length (32 : Nat))
      (need (InR IntKind.i64 (i + (1 : Int)))
        (need ((0 : Int) ≤ i + (1 : Int) ∧ i + (1 : Int) ≤ (↑l.length : Int) ∧ (↑l.length : Int) ≤ (↑l.length : Int))
          (need
            (roomP ((List.drop (↑(0 : Nat) : Int).toNat (List.take i.toNat l)).length + (List.drop (i + (1 : Int)).toNat (List.take (↑l.length : Int).toNat l)).length) (32 : Nat))
            (some (List.drop (↑(0 : Nat) : Int).toNat (List.take i.toNat l) ++ List.drop (i + (1 : Int)).toNat (List.take (↑l.length : Int).toNat l)))))))
theorem without_run (l : List Packet) (i : Int) : without l i = (evC T S g_without 17 j_without (Try.f43.body.getD .skip) rs_without.X (St.init (as_without.enc (l, i)).1 (as_without.enc (l, i)).2) (retL T S Try.f43.results.toList rs_without 0 [])).run := by kernel_rfl

def as_brief : ArgShp D := args (a1 (aLf cd_Llaw48_Op))
theorem as_brief_ok : ArgOk S as_brief 0 20 := args_ok (a1_ok (aLf_ok cd_Llaw48_Op_ok)) rfl
def rs_brief : Shp D := shr [.slot 0 false [none]] (l1 cBool)
theorem rs_brief_ok : ShpOk S rs_brief := shr_ok (l1_ok cBool_ok)
def jt_brief : List (Nat × Shp D) := [(4, shp (fun sl => [.slot 3 false [none]]) (l1 (cInt .i64)))]
def j_brief : Nat → Option (Shp D) := lk jt_brief
theorem j_brief_ok : ∀ i sh, j_brief i = some sh → ShpOk S sh := by
  intro i sh h
  have := lk_mem h
  simp only [jt_brief, List.mem_cons, Prod.mk.injEq, List.not_mem_nil, or_false] at this
  rcases this with ⟨_, rfl⟩
  · exact shp_ok (l1_ok (cInt_ok _))
def g_brief : FuncId → Option (Ct D) := fun _ => none
theorem g_brief_ok : ∀ f ct, g_brief f = some ct → CtOk Try.prog S f ct := fun f ct h => by cases h
noncomputable def brief_s1 (ops : List law48_Op) (x1 : Int) : Option (Int ⊕ Bool) :=
  bif decide (x1 < (↑ops.length : Int)) then
    need ((0 : Int) ≤ x1 ∧ x1 < (↑ops.length : Int))
      (bif decide ((200 : Int) < (↑(List.length (ops.getD x1.toNat d_law48_Op).Data) : Int)) then some (Sum.inr false)
      else need (InR IntKind.i64 (x1 + (1 : Int))) (some (Sum.inl (x1 + (1 : Int)))))
  else some (Sum.inr true)
noncomputable def brief (ops : List law48_Op) : Option Bool :=
  bif decide ((60 : Int) < (↑ops.length : Int)) then some false else loopU (brief_s1 ops) (0 : Int)
theorem brief_run (ops : List law48_Op) : brief ops = (evC T S g_brief 20 j_brief (Try.f28.body.getD .skip) rs_brief.X (St.init (as_brief.enc (ops)).1 (as_brief.enc (ops)).2) (retL T S Try.f28.results.toList rs_brief 0 [])).run := by kernel_rfl


theorem len0 (s : Str) : (s != #[].toList) = decide (1 ≤ s.length) := by
  cases s with
  | nil => rfl
  | cons a s => simp
def dataB (s : Str) : Bool := decide (1 ≤ s.length) && decide (s.length ≤ 16384)
theorem carries_eq (s : Str) : carries s = some (dataB s) := by
  unfold carries dataB
  have e1 : decide ((1 : Int) ≤ (s.length : Int)) = decide (1 ≤ s.length) := by
    by_cases h : 1 ≤ s.length
    · rw [decide_eq_true h, decide_eq_true (by omega)]
    · rw [decide_eq_false h, decide_eq_false (by omega)]
  have e2 : decide ((s.length : Int) ≤ 16384) = decide (s.length ≤ 16384) := by
    by_cases h : s.length ≤ 16384
    · rw [decide_eq_true h, decide_eq_true (by omega)]
    · rw [decide_eq_false h, decide_eq_false (by omega)]
  rw [e1, e2]
  cases decide (1 ≤ s.length) <;> rfl
theorem proper_eq (s : Str) : proper s = some (dataB s) := by
  rw [← carries_eq]
  unfold proper carries
  rw [len0]
  have e1 : decide ((1 : Int) ≤ (s.length : Int)) = decide (1 ≤ s.length) := by
    by_cases h : 1 ≤ s.length
    · rw [decide_eq_true h, decide_eq_true (by omega)]
    · rw [decide_eq_false h, decide_eq_false (by omega)]
  rw [e1]
def quietB (l : Link) : Bool := decide (l.Wait.length = 0) && !l.Due
theorem quiet_eq (l : Link) : quiet l = some (quietB l) := by
  unfold quiet quietB
  by_cases h : l.Wait.length = 0
  · have h' : (((l.Wait.length : Nat) : Int) == 0) = true := by rw [beq_iff_eq]; omega
    rw [h', decide_eq_true h]
    rfl
  · have h' : (((l.Wait.length : Nat) : Int) == 0) = false := by rw [beq_eq_false_iff_ne]; omega
    rw [h', decide_eq_false h]
    rfl
theorem rquiet_eq (l : Link) : rquiet l = some (quietB l) := quiet_eq l
theorem clone_eq (l : List Packet) (h : l.length ≤ 1000000) : clone l = some l := by
  unfold clone
  refine both_of ⟨false, fun e => by cases e⟩ (fun h1 => ?_) (fun _ => ?_)
  · have := h1 rfl
    cases l with
    | nil => rfl
    | cons a l => simp at this
  · exact need_pos (by unfold roomP; omega)
theorem samePs_eq (a b : List Packet) (h : a = b ∧ a.length ≤ 1000000) : samePs a b = some true := by
  obtain ⟨rfl, h8⟩ := h
  unfold samePs
  rw [bne_self_eq_false, cond_false]
  refine (loop_first0 (f := fun _ => none) (r0 := true) (n := a.length) (fun k hk => ?_) ?_).trans (congrArg some (firstR_none _ _ fun _ _ _ => rfl))
  · have hk' : (k : Int) < a.length := by omega
    have hk0 : (0 : Int) ≤ k := by omega
    have hr : InR .i64 ((k : Int) + 1) := by simp only [InR]; omega
    unfold samePs_s1
    simp only [hk', hk0, hr, and_self, need_true, decide_true, cond_true, bne_self_eq_false, cond_false]
    rfl
  · unfold samePs_s1
    simp
theorem sameTs_eq (a b : List Str) (h : a = b ∧ a.length ≤ 1000000) : sameTs a b = some true := by
  obtain ⟨rfl, h8⟩ := h
  unfold sameTs
  rw [bne_self_eq_false, cond_false]
  refine (loop_first0 (f := fun _ => none) (r0 := true) (n := a.length) (fun k hk => ?_) ?_).trans (congrArg some (firstR_none _ _ fun _ _ _ => rfl))
  · have hk' : (k : Int) < a.length := by omega
    have hk0 : (0 : Int) ≤ k := by omega
    have hr : InR .i64 ((k : Int) + 1) := by simp only [InR]; omega
    unfold sameTs_s1
    simp only [hk', hk0, hr, and_self, need_true, decide_true, cond_true, bne_self_eq_false, cond_false]
    rfl
  · unfold sameTs_s1
    simp
/-! small -/
def Texts (l : List Packet) : Prop := ∀ p ∈ l, p.Data.length ≤ 9223372036854775807
theorem Texts.at {l : List Packet} (h : Texts l) {k : Nat} (hk : k < l.length) : (l.getD k d_Packet).Data.length ≤ 9223372036854775807 := by
  rw [getD_some hk]
  exact h _ (List.getElem_mem hk)
theorem small_w (l : Link) (h8 : l.Wait.length ≤ 100) (ht : Texts l.Wait) : ∃ r, small_s7 l = some r ∧ ∃ n, r = Sum.inl n ∧ n ≤ 100000 ∧ -9223372036854775808 ≤ n := by
  unfold small_s7
  refine loopU_inv (fun x : Int × Int => 0 ≤ x.2 ∧ x.2 ≤ l.Wait.length ∧ x.1 ≤ 100000 ∧ -9223372036854775808 ≤ x.1) (fun x => (l.Wait.length - x.2).toNat) _ (fun x hx => ?_) _ ⟨by omega, by omega, by omega, by omega⟩
  obtain ⟨a, k⟩ := x
  obtain ⟨h1, h2, h3, h4⟩ := hx
  dsimp only at *
  unfold small_s3 small_s1
  by_cases c1 : k < (l.Wait.length : Int)
  · by_cases c2 : 0 ≤ a
    · left
      have hk : k.toNat < l.Wait.length := by omega
      have hd := ht.at hk
      have r1 : InR .i64 (a - ((l.Wait.getD k.toNat d_Packet).Data.length : Int)) := by simp only [InR]; omega
      have r2 : InR .i64 (k + 1) := by simp only [InR]; omega
      refine ⟨(a - ((l.Wait.getD k.toNat d_Packet).Data.length : Int), k + 1), ?_, ⟨by dsimp only; omega, by dsimp only; omega, by dsimp only; omega, by dsimp only; omega⟩, by dsimp only; omega⟩
      simp only [c1, c2, decide_true, cond_true]
      show small_s2 l (a, k) () = _
      unfold small_s2
      simp only [h1, c1, r1, r2, and_self, need_true]
    · right
      refine ⟨_, ?_, a, rfl, h3, h4⟩
      simp only [c1, c2, decide_true, decide_false, cond_true, cond_false]
      rfl
  · right
    refine ⟨_, ?_, a, rfl, h3, h4⟩
    simp only [c1, decide_false, cond_false]
    rfl
theorem small_e (l : Link) (n : Int) (h8 : l.Early.length ≤ 100) (ht : Texts l.Early) (hn : n ≤ 100000 ∧ -9223372036854775808 ≤ n) : ∃ r, small_s8 l n = some r ∧ True := by
  unfold small_s8
  refine loopU_inv (fun x : Int × Int => 0 ≤ x.2 ∧ x.2 ≤ l.Early.length ∧ x.1 ≤ 100000 ∧ -9223372036854775808 ≤ x.1) (fun x => (l.Early.length - x.2).toNat) _ (fun x hx => ?_) _ ⟨by omega, by omega, by dsimp only; omega, by dsimp only; omega⟩
  obtain ⟨a, k⟩ := x
  obtain ⟨h1, h2, h3, h4⟩ := hx
  dsimp only at *
  unfold small_s6 small_s4
  by_cases c1 : k < (l.Early.length : Int)
  · by_cases c2 : 0 ≤ a
    · left
      have hk : k.toNat < l.Early.length := by omega
      have hd := ht.at hk
      have r1 : InR .i64 (a - ((l.Early.getD k.toNat d_Packet).Data.length : Int)) := by simp only [InR]; omega
      have r2 : InR .i64 (k + 1) := by simp only [InR]; omega
      refine ⟨(a - ((l.Early.getD k.toNat d_Packet).Data.length : Int), k + 1), ?_, ⟨by dsimp only; omega, by dsimp only; omega, by dsimp only; omega, by dsimp only; omega⟩, by dsimp only; omega⟩
      simp only [c1, c2, decide_true, cond_true]
      show small_s5 l (a, k) () = _
      unfold small_s5
      simp only [h1, c1, r1, r2, and_self, need_true]
    · right
      refine ⟨false, ?_, trivial⟩
      simp only [c1, c2, decide_true, decide_false, cond_true, cond_false]
      rfl
  · right
    refine ⟨decide (0 ≤ a), ?_, trivial⟩
    simp only [c1, decide_false, cond_false]
    rfl
noncomputable def smallV (l : Link) : Bool := (small l).getD false
theorem small_eq (l : Link) (h : Texts l.Wait ∧ Texts l.Early) : small l = some (smallV l) := by
  refine get_of ?_
  unfold small small_s9
  by_cases c1 : (100 : Int) < (l.Wait.length : Int)
  · simp only [c1, decide_true, cond_true]
    exact fun hh => by cases hh
  by_cases c2 : (100 : Int) < (l.Early.length : Int)
  · simp only [c1, c2, decide_true, decide_false, cond_true, cond_false]
    exact fun hh => by cases hh
  simp only [c1, c2, decide_false, cond_false]
  show small_s10 l () ≠ none
  unfold small_s10
  obtain ⟨r, hr, n, rfl, hn⟩ := small_w l (by omega) h.1
  rw [hr]
  obtain ⟨b, hb, _⟩ := small_e l n (by omega) h.2 hn
  show small_s8 l n ≠ none
  rw [hb]
  exact fun hh => by cases hh
theorem small_len {l : Link} (h : smallV l = true) : l.Wait.length ≤ 100 ∧ l.Early.length ≤ 100 := by
  unfold smallV small small_s9 at h
  by_cases c1 : (100 : Int) < (l.Wait.length : Int)
  · simp only [c1, decide_true, cond_true] at h
    cases h
  by_cases c2 : (100 : Int) < (l.Early.length : Int)
  · simp only [c1, c2, decide_true, decide_false, cond_true, cond_false] at h
    cases h
  omega


noncomputable def ct_carries : Ct D := ctN as_carries rs_carries 1 [] (fun a => none) (fun a => (fun (s : Str) => (dataB s : Bool)) (a))
theorem ct_carries_ok : CtOk Try.prog S 34 ct_carries :=
  fn_okN mixed T_ok g_carries_ok S_ok j_carries_ok Try.func34 rfl (by kernel_rfl) Try.ntmps34 rfl (by kernel_rfl) as_carries_ok rs_carries_ok (fun a => none) (fun a => (fun (s : Str) => (dataB s : Bool)) (a))
    (fun a h => (carries_run (a)).symm.trans (carries_eq (a)))

noncomputable def ct_proper : Ct D := ctN as_proper rs_proper 1 [] (fun a => none) (fun a => (fun (s : Str) => (dataB s : Bool)) (a))
theorem ct_proper_ok : CtOk Try.prog S 35 ct_proper :=
  fn_okN mixed T_ok g_proper_ok S_ok j_proper_ok Try.func35 rfl (by kernel_rfl) Try.ntmps35 rfl (by kernel_rfl) as_proper_ok rs_proper_ok (fun a => none) (fun a => (fun (s : Str) => (dataB s : Bool)) (a))
    (fun a h => (proper_run (a)).symm.trans (proper_eq (a)))

noncomputable def ct_quiet : Ct D := ctN as_quiet rs_quiet 1 [] (fun a => none) (fun a => (fun (l : Link) => (quietB l : Bool)) (a))
theorem ct_quiet_ok : CtOk Try.prog S 13 ct_quiet :=
  fn_okN mixed T_ok g_quiet_ok S_ok j_quiet_ok Try.func13 rfl (by kernel_rfl) Try.ntmps13 rfl (by kernel_rfl) as_quiet_ok rs_quiet_ok (fun a => none) (fun a => (fun (l : Link) => (quietB l : Bool)) (a))
    (fun a h => (quiet_run (a)).symm.trans (quiet_eq (a)))

noncomputable def ct_rquiet : Ct D := ctN as_rquiet rs_rquiet 1 [] (fun a => none) (fun a => (fun (l : Link) => (quietB l : Bool)) (a))
theorem ct_rquiet_ok : CtOk Try.prog S 14 ct_rquiet :=
  fn_okN mixed T_ok g_rquiet_ok S_ok j_rquiet_ok Try.func14 rfl (by kernel_rfl) Try.ntmps14 rfl (by kernel_rfl) as_rquiet_ok rs_rquiet_ok (fun a => none) (fun a => (fun (l : Link) => (quietB l : Bool)) (a))
    (fun a h => (rquiet_run (a)).symm.trans (rquiet_eq (a)))

noncomputable def ct_newL : Ct D := ctN as_newL rs_newL 1 [] (fun a => none) (fun a => ((Link.mk 1 [] 1 [] 0 false : Link)))
theorem ct_newL_ok : CtOk Try.prog S 16 ct_newL :=
  fn_okN mixed T_ok g_newL_ok S_ok j_newL_ok Try.func16 rfl (by kernel_rfl) Try.ntmps16 rfl (by kernel_rfl) as_newL_ok rs_newL_ok (fun a => none) (fun a => ((Link.mk 1 [] 1 [] 0 false : Link)))
    (fun a h => (newL_run).symm.trans (rfl))

noncomputable def ct_rnewL : Ct D := ctN as_rnewL rs_rnewL 1 [] (fun a => none) (fun a => ((Link.mk 1 [] 1 [] 0 false : Link)))
theorem ct_rnewL_ok : CtOk Try.prog S 17 ct_rnewL :=
  fn_okN mixed T_ok g_rnewL_ok S_ok j_rnewL_ok Try.func17 rfl (by kernel_rfl) Try.ntmps17 rfl (by kernel_rfl) as_rnewL_ok rs_rnewL_ok (fun a => none) (fun a => ((Link.mk 1 [] 1 [] 0 false : Link)))
    (fun a h => (rnewL_run).symm.trans (rfl))

noncomputable def ct_clone : Ct D := ctN as_clone rs_clone 1 [] (fun a => some ((fun (l : List Packet) => (l.length ≤ 1000000 : Prop)) (a))) (fun a => (fun (l : List Packet) => (l : List Packet)) (a))
theorem ct_clone_ok : CtOk Try.prog S 36 ct_clone :=
  fn_okN mixed T_ok g_clone_ok S_ok j_clone_ok Try.func36 rfl (by kernel_rfl) Try.ntmps36 rfl (by kernel_rfl) as_clone_ok rs_clone_ok (fun a => some ((fun (l : List Packet) => (l.length ≤ 1000000 : Prop)) (a))) (fun a => (fun (l : List Packet) => (l : List Packet)) (a))
    (fun a h => (clone_run (a)).symm.trans (clone_eq (a) h))

noncomputable def ct_samePs : Ct D := ctN as_samePs rs_samePs 1 [] (fun a => some ((fun (a : List Packet) (b : List Packet) => (a = b ∧ a.length ≤ 1000000 : Prop)) (a.1) (a.2))) (fun a => (fun (a : List Packet) (b : List Packet) => (true : Bool)) (a.1) (a.2))
theorem ct_samePs_ok : CtOk Try.prog S 24 ct_samePs :=
  fn_okN mixed T_ok g_samePs_ok S_ok j_samePs_ok Try.func24 rfl (by kernel_rfl) Try.ntmps24 rfl (by kernel_rfl) as_samePs_ok rs_samePs_ok (fun a => some ((fun (a : List Packet) (b : List Packet) => (a = b ∧ a.length ≤ 1000000 : Prop)) (a.1) (a.2))) (fun a => (fun (a : List Packet) (b : List Packet) => (true : Bool)) (a.1) (a.2))
    (fun a h => (samePs_run (a.1) (a.2)).symm.trans (samePs_eq (a.1) (a.2) h))

noncomputable def ct_sameTs : Ct D := ctN as_sameTs rs_sameTs 1 [] (fun a => some ((fun (a : List Str) (b : List Str) => (a = b ∧ a.length ≤ 1000000 : Prop)) (a.1) (a.2))) (fun a => (fun (a : List Str) (b : List Str) => (true : Bool)) (a.1) (a.2))
theorem ct_sameTs_ok : CtOk Try.prog S 27 ct_sameTs :=
  fn_okN mixed T_ok g_sameTs_ok S_ok j_sameTs_ok Try.func27 rfl (by kernel_rfl) Try.ntmps27 rfl (by kernel_rfl) as_sameTs_ok rs_sameTs_ok (fun a => some ((fun (a : List Str) (b : List Str) => (a = b ∧ a.length ≤ 1000000 : Prop)) (a.1) (a.2))) (fun a => (fun (a : List Str) (b : List Str) => (true : Bool)) (a.1) (a.2))
    (fun a h => (sameTs_run (a.1) (a.2)).symm.trans (sameTs_eq (a.1) (a.2) h))

noncomputable def ct_small : Ct D := ctN as_small rs_small 1 [] (fun a => some ((fun (l : Link) => (Texts l.Wait ∧ Texts l.Early : Prop)) (a))) (fun a => (fun (l : Link) => (smallV l : Bool)) (a))
theorem ct_small_ok : CtOk Try.prog S 9 ct_small :=
  fn_okN mixed T_ok g_small_ok S_ok j_small_ok Try.func9 rfl (by kernel_rfl) Try.ntmps9 rfl (by kernel_rfl) as_small_ok rs_small_ok (fun a => some ((fun (l : Link) => (Texts l.Wait ∧ Texts l.Early : Prop)) (a))) (fun a => (fun (l : Link) => (smallV l : Bool)) (a))
    (fun a h => (small_run (a)).symm.trans (small_eq (a) h))
end Go.Proofs.Ytjmolijohilahaa
