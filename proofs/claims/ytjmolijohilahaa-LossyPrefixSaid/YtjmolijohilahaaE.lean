/-
  Lossy: the laws on Valid and Send.
-/
import Derived.Test.YtjmolijohilahaaD
namespace Go.Proofs.Ytjmolijohilahaa
open Go.RowKit Go.Vc
set_option linter.unusedVariables false
set_option linter.unusedSimpArgs false
set_option maxRecDepth 100000

def as_lossyValids : ArgShp D := args (a1 (aAgg cd_Link))
theorem as_lossyValids_ok : ArgOk S as_lossyValids 0 27 := args_ok (a1_ok (aAgg_ok cd_Link_ok)) rfl
def rs_lossyValids : Shp D := shr [.slot 0 false [none]] (l1 cBool)
theorem rs_lossyValids_ok : ShpOk S rs_lossyValids := shr_ok (l1_ok cBool_ok)
def j_lossyValids : Nat → Option (Shp D) := fun _ => none
theorem j_lossyValids_ok : ∀ i sh, j_lossyValids i = some sh → ShpOk S sh := fun i sh h => by cases h
noncomputable def gt_lossyValids : List (Nat × Ct D) := [(9, ct_small), (10, ct_awake), (11, ct_valid), (12, ct_rvalid), (13, ct_quiet), (14, ct_rquiet), (15, ct_same), (16, ct_newL), (17, ct_rnewL)]
noncomputable def g_lossyValids : FuncId → Option (Ct D) := lk gt_lossyValids
theorem g_lossyValids_ok : ∀ f ct, g_lossyValids f = some ct → CtOk Try.prog S f ct := by
  intro f ct h
  have := lk_mem h
  simp only [gt_lossyValids, List.mem_cons, Prod.mk.injEq, List.not_mem_nil, or_false] at this
  rcases this with ⟨rfl, rfl⟩ | ⟨rfl, rfl⟩ | ⟨rfl, rfl⟩ | ⟨rfl, rfl⟩ | ⟨rfl, rfl⟩ | ⟨rfl, rfl⟩ | ⟨rfl, rfl⟩ | ⟨rfl, rfl⟩ | ⟨rfl, rfl⟩
  · exact ct_small_ok
  · exact ct_awake_ok
  · exact ct_valid_ok
  · exact ct_rvalid_ok
  · exact ct_quiet_ok
  · exact ct_rquiet_ok
  · exact ct_same_ok
  · exact ct_newL_ok
  · exact ct_rnewL_ok
noncomputable def lossyValids (l : Link) : Option Bool :=
  need (Texts l.Wait ∧ Texts l.Early)
    (bif !smallV l then some true
    else
      need (l.Wait.length ≤ (100 : Nat) ∧ l.Early.length ≤ (9223372036854775807 : Nat))
        (bif validB l == validB l then
          bif quietB l == quietB l then
            need (Link.mk (1 : Int) [] (1 : Int) [] (0 : Int) false = Link.mk (1 : Int) [] (1 : Int) [] (0 : Int) false ∧ (0 : Nat) ≤ (1000000 : Nat) ∧ (0 : Nat) ≤ (1000000 : Nat))
              (bif true then some true else some false)
          else some false
        else some false))
theorem lossyValids_run (l : Link) : lossyValids l = (evC T S g_lossyValids 27 j_lossyValids (Try.f3.body.getD .skip) rs_lossyValids.X (St.init (as_lossyValids.enc (l)).1 (as_lossyValids.enc (l)).2) (retL T S Try.f3.results.toList rs_lossyValids 0 [])).run := by kernel_rfl

def as_lossySends : ArgShp D := args (aCons (aAgg cd_Link) (a1 (aLf cStr)))
theorem as_lossySends_ok : ArgOk S as_lossySends 0 102 := args_ok (aCons_ok (aAgg_ok cd_Link_ok) (a1_ok (aLf_ok cStr_ok))) rfl
def rs_lossySends : Shp D := shr [.slot 0 false [none]] (l1 cBool)
theorem rs_lossySends_ok : ShpOk S rs_lossySends := shr_ok (l1_ok cBool_ok)
def jt_lossySends : List (Nat × Shp D) := [(100003, shp (fun sl => []) l0)]
def j_lossySends : Nat → Option (Shp D) := lk jt_lossySends
theorem j_lossySends_ok : ∀ i sh, j_lossySends i = some sh → ShpOk S sh := by
  intro i sh h
  have := lk_mem h
  simp only [jt_lossySends, List.mem_cons, Prod.mk.injEq, List.not_mem_nil, or_false] at this
  rcases this with ⟨_, rfl⟩
  · exact shp_ok l0_ok
noncomputable def gt_lossySends : List (Nat × Ct D) := [(9, ct_small), (10, ct_awake), (12, ct_rvalid), (15, ct_same), (18, ct_send), (19, ct_rsend), (20, ct_ack), (21, ct_rack), (22, ct_resend), (23, ct_rresend), (24, ct_samePs)]
noncomputable def g_lossySends : FuncId → Option (Ct D) := lk gt_lossySends
theorem g_lossySends_ok : ∀ f ct, g_lossySends f = some ct → CtOk Try.prog S f ct := by
  intro f ct h
  have := lk_mem h
  simp only [gt_lossySends, List.mem_cons, Prod.mk.injEq, List.not_mem_nil, or_false] at this
  rcases this with ⟨rfl, rfl⟩ | ⟨rfl, rfl⟩ | ⟨rfl, rfl⟩ | ⟨rfl, rfl⟩ | ⟨rfl, rfl⟩ | ⟨rfl, rfl⟩ | ⟨rfl, rfl⟩ | ⟨rfl, rfl⟩ | ⟨rfl, rfl⟩ | ⟨rfl, rfl⟩ | ⟨rfl, rfl⟩
  · exact ct_small_ok
  · exact ct_awake_ok
  · exact ct_rvalid_ok
  · exact ct_same_ok
  · exact ct_send_ok
  · exact ct_rsend_ok
  · exact ct_ack_ok
  · exact ct_rack_ok
  · exact ct_resend_ok
  · exact ct_rresend_ok
  · exact ct_samePs_ok
noncomputable def lossySends_s1 (l : Link) (data : Str) : Option (Unit ⊕ Bool) :=
  need (Texts l.Wait ∧ Texts l.Early)
    (bif !smallV l then some (Sum.inr true)
    else bif !validB l then some (Sum.inr true) else bif decide ((20000 : Int) < (↑(List.length data) : Int)) then some (Sum.inr true) else some (Sum.inl ()))
noncomputable def lossySends_s2 (l : Link) (data : Str) (y1 : Unit) : Option Bool :=
  need (HdP l ∧ l.Wait.length ≤ (1000 : Nat))
    (need (HdP l ∧ l.Wait.length ≤ (1000 : Nat))
      (need (HdP l)
        (need (HdP l)
          (need (HdP l ∧ AgP l ∧ l.Wait.length ≤ (1000 : Nat))
            (need (HdP l ∧ AgP l ∧ l.Wait.length ≤ (1000 : Nat))
              (need ((sendR l data).fst = (sendR l data).fst ∧ (sendR l data).fst.Wait.length ≤ (1000000 : Nat) ∧ (sendR l data).fst.Early.length ≤ (1000000 : Nat))
                (bif true then
                  bif (sendR l data).snd.snd == (sendR l data).snd.snd then
                    need ([(sendR l data).snd.fst, (ackR l).snd] = [(sendR l data).snd.fst, (ackR l).snd] ∧ (2 : Nat) ≤ (1000000 : Nat))
                      (bif true then
                        need ((ackR l).fst = (ackR l).fst ∧ (ackR l).fst.Wait.length ≤ (1000000 : Nat) ∧ (ackR l).fst.Early.length ≤ (1000000 : Nat))
                          (bif true then
                            need ((resendR l).fst = (resendR l).fst ∧ (resendR l).fst.Wait.length ≤ (1000000 : Nat) ∧ (resendR l).fst.Early.length ≤ (1000000 : Nat))
                              (bif true then need ((resendR l).snd = (resendR l).snd ∧ (resendR l).snd.length ≤ (1000000 : Nat)) (bif true then some true else some false)
                              else some false)
                          else some false)
                      else some false)
                  else some false
                else some false)))))))
noncomputable def lossySends (l : Link) (data : Str) : Option Bool :=
  bindS (lossySends_s1 l data) (lossySends_s2 l data)
theorem lossySends_run (l : Link) (data : Str) : lossySends l data = (evC T S g_lossySends 102 j_lossySends (Try.f4.body.getD .skip) rs_lossySends.X (St.init (as_lossySends.enc (l, data)).1 (as_lossySends.enc (l, data)).2) (retL T S Try.f4.results.toList rs_lossySends 0 [])).run := by kernel_rfl


theorem lossyValids_eq (l : Link) (h : Texts l.Wait ∧ Texts l.Early) : lossyValids l = some true := by
  unfold lossyValids
  rw [need_pos h]
  cases hs : smallV l with
  | false => rfl
  | true =>
    obtain ⟨h1, h2⟩ := small_len hs
    have h3 : l.Early.length ≤ 9223372036854775807 := by omega
    simp [h1, h3]
theorem sendR_len (l : Link) (data : Str) (h1 : l.Wait.length ≤ 100) (h2 : l.Early.length ≤ 100) : (sendR l data).1.Wait.length ≤ 1000000 ∧ (sendR l data).1.Early.length ≤ 1000000 := by
  unfold sendR
  split
  · exact ⟨by dsimp only; omega, by dsimp only; omega⟩
  split
  · exact ⟨by dsimp only; omega, by dsimp only; omega⟩
  · exact ⟨by simp only [List.length_append, List.length_singleton]; omega, by dsimp only; omega⟩
theorem lossySends_eq (l : Link) (data : Str) (h : Texts l.Wait ∧ Texts l.Early) : lossySends l data = some true := by
  unfold lossySends lossySends_s1
  rw [need_pos h]
  cases hs : smallV l with
  | false => rfl
  | true =>
    cases hv : validB l with
    | false => rfl
    | true =>
      obtain ⟨h1, h2⟩ := small_len hs
      have V := (valid_iff l).1 hv
      have g1 := V.hd
      have g2 := V.ag
      have g3 : l.Wait.length ≤ 1000 := by omega
      obtain ⟨k1, k2⟩ := sendR_len l data h1 h2
      have k3 : (ackR l).1.Wait.length ≤ 1000000 := by show l.Wait.length ≤ _; omega
      have k4 : (ackR l).1.Early.length ≤ 1000000 := by show l.Early.length ≤ _; omega
      have k5 : (resendR l).1.Wait.length ≤ 1000000 := by show l.Wait.length ≤ _; omega
      have k6 : (resendR l).1.Early.length ≤ 1000000 := by show l.Early.length ≤ _; omega
      have k7 : (resendR l).2.length ≤ 1000000 := by show (l.Wait.map _).length ≤ _; rw [List.length_map]; omega
      have k8 : (2 : Nat) ≤ 1000000 := by omega
      have e2 : lossySends_s2 l data () = some true := by
        unfold lossySends_s2
        simp only [g1, g2, g3, k1, k2, k3, k4, k5, k6, k7, k8, and_self, need_true, cond_true, beq_self_eq_true]
      by_cases c : (20000 : Int) < (data.length : Int)
      · simp only [c, Bool.not_true, decide_true, cond_true, cond_false]
        rfl
      · simp only [c, Bool.not_true, decide_false, cond_false]
        exact e2


noncomputable def ct_lossyValids : Ct D := ctN as_lossyValids rs_lossyValids 1 [] (fun a => some ((fun (l : Link) => (Texts l.Wait ∧ Texts l.Early : Prop)) (a))) (fun a => (fun (l : Link) => (true : Bool)) (a))
theorem ct_lossyValids_ok : CtOk Try.prog S 3 ct_lossyValids :=
  fn_okN mixed T_ok g_lossyValids_ok S_ok j_lossyValids_ok Try.func3 rfl (by kernel_rfl) Try.ntmps3 rfl (by kernel_rfl) as_lossyValids_ok rs_lossyValids_ok (fun a => some ((fun (l : Link) => (Texts l.Wait ∧ Texts l.Early : Prop)) (a))) (fun a => (fun (l : Link) => (true : Bool)) (a))
    (fun a h => (lossyValids_run (a)).symm.trans (lossyValids_eq (a) h))

noncomputable def ct_lossySends : Ct D := ctN as_lossySends rs_lossySends 1 [] (fun a => some ((fun (l : Link) (data : Str) => (Texts l.Wait ∧ Texts l.Early : Prop)) (a.1) (a.2))) (fun a => (fun (l : Link) (data : Str) => (true : Bool)) (a.1) (a.2))
theorem ct_lossySends_ok : CtOk Try.prog S 4 ct_lossySends :=
  fn_okN mixed T_ok g_lossySends_ok S_ok j_lossySends_ok Try.func4 rfl (by kernel_rfl) Try.ntmps4 rfl (by kernel_rfl) as_lossySends_ok rs_lossySends_ok (fun a => some ((fun (l : Link) (data : Str) => (Texts l.Wait ∧ Texts l.Early : Prop)) (a.1) (a.2))) (fun a => (fun (l : Link) (data : Str) => (true : Bool)) (a.1) (a.2))
    (fun a h => (lossySends_run (a.1) (a.2)).symm.trans (lossySends_eq (a.1) (a.2) h))
end Go.Proofs.Ytjmolijohilahaa
