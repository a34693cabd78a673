/-
  Lossy: the laws on Receive.
-/
import Derived.Test.YtjmolijohilahaaE
namespace Go.Proofs.Ytjmolijohilahaa
open Go.RowKit Go.Vc
set_option linter.unusedVariables false
set_option linter.unusedSimpArgs false
set_option maxRecDepth 100000


theorem loop_go {X R : Type} {step : X → Option (X ⊕ R)} (st : Nat → X) {n : Nat} (h : ∀ k, k < n → step (st k) = some (.inl (st (k + 1)))) : ∀ (k i : Nat), i + k = n → loopU step (st i) = loopU step (st n)
  | 0, i, e => by rw [show i = n by omega]
  | k + 1, i, e => by
    rw [loopU_eq, h i (by omega)]
    exact loop_go st h k (i + 1) (by omega)
theorem take_snoc {A : Type} (l : List A) (d : A) (k : Nat) (h : k < l.length) : l.take k ++ [l.getD k d] = l.take (k + 1) := by
  rw [List.take_succ_eq_append_getElem h, getD_some h]
theorem drop_cons {A : Type} (l : List A) (d : A) (k : Nat) (h : k < l.length) : l.getD k d :: l.drop (k + 1) = l.drop k := by
  rw [getD_some h]
  exact (List.drop_eq_getElem_cons h).symm
/-! lists by number -/
def SrtP (l : List Packet) : Prop := ∀ i, i + 1 < l.length → (l.getD i d_Packet).Seq < (l.getD (i + 1) d_Packet).Seq
theorem SrtP.lt {l : List Packet} (h : SrtP l) (i : Nat) : ∀ k, i + (k + 1) < l.length → (l.getD i d_Packet).Seq < (l.getD (i + (k + 1)) d_Packet).Seq
  | 0, hk => h i hk
  | k + 1, hk => Int.lt_trans (h.lt i k (by omega)) (h (i + (k + 1)) (by omega))
theorem SrtP.le {l : List Packet} (h : SrtP l) {i j : Nat} (hi : i ≤ j) (hj : j < l.length) : (l.getD i d_Packet).Seq ≤ (l.getD j d_Packet).Seq := by
  by_cases e : i = j
  · subst e; exact Int.le_refl _
  · obtain ⟨k, rfl⟩ : ∃ k, j = i + (k + 1) := ⟨j - i - 1, by omega⟩
    exact Int.le_of_lt (h.lt i k hj)
theorem SrtP.after {l : List Packet} (h : SrtP l) (ack : Int) {j : Nat} (h1 : cnt ack l ≤ j) (h2 : j < l.length) : ack < (l.getD j d_Packet).Seq := by
  have := cnt_at ack l (by omega)
  have := h.le h1 h2
  omega
def insR (l : List Packet) (p : Packet) : List Packet :=
  if cnt (p.Seq - 1) l < l.length ∧ (l.getD (cnt (p.Seq - 1) l) d_Packet).Seq = p.Seq then l else l.take (cnt (p.Seq - 1) l) ++ [p] ++ l.drop (cnt (p.Seq - 1) l)
theorem rins_tail (l : List Packet) (p : Packet) (i : Nat) (o : List Packet) (hi : i ≤ l.length) (hne : ∀ j, i ≤ j → j < l.length → (l.getD j d_Packet).Seq ≠ p.Seq) (h8 : o.length + (l.length - i) ≤ 1000002) (h9 : l.length ≤ 1000000) :
    loopU (rinsert_s1 l p) (o, true, (i : Int)) = some (.inl (o ++ l.drop i, true)) := by
  have key := loop_go (step := rinsert_s1 l p) (fun k => (o ++ (l.drop i).take k, true, ((i + k : Nat) : Int))) (n := l.length - i) (fun k hk => ?_) (l.length - i) 0 (by omega)
  · simp only [List.take_zero, List.append_nil, Nat.add_zero] at key
    rw [key, loopU_eq]
    unfold rinsert_s1
    have h1 : ¬ ((i + (l.length - i) : Nat) : Int) < (l.length : Int) := by omega
    simp only [h1, decide_false, cond_false]
    rw [List.take_of_length_le (by rw [List.length_drop]; omega)]
  · have h1 : ((i + k : Nat) : Int) < (l.length : Int) := by omega
    have h0 : (0 : Int) ≤ ((i + k : Nat) : Int) := by omega
    have r1 : InR .i64 (((i + k : Nat) : Int) + 1) := by simp only [InR]; omega
    have r2 : roomP ((o ++ (l.drop i).take k).length + 1) 32 := by
      unfold roomP
      simp only [List.length_append, List.length_take, List.length_drop]
      omega
    have c1 : ((l.getD (i + k) d_Packet).Seq == p.Seq) = false := by rw [beq_eq_false_iff_ne]; exact hne _ (by omega) (by omega)
    unfold rinsert_s1
    simp only [Int.toNat_natCast, h1, h0, r1, r2, c1, and_self, need_true, decide_true, cond_true, cond_false, Bool.not_true]
    have e1 : (l.drop i).getD k d_Packet = l.getD (i + k) d_Packet := by simp [List.getD]
    rw [← e1, List.append_assoc, take_snoc _ _ _ (by rw [List.length_drop]; omega)]
    rfl
theorem rinsert_eq (l : List Packet) (p : Packet) (h : SrtP l ∧ l.length ≤ 1000000) : rinsert l p = some (insR l p) := by
  obtain ⟨hs, h8⟩ := h
  have hle := cnt_le (p.Seq - 1) l
  have key := loop_go (step := rinsert_s1 l p) (fun k => (l.take k, false, (k : Int))) (n := cnt (p.Seq - 1) l) (fun k hk => ?_) (cnt (p.Seq - 1) l) 0 (by omega)
  · unfold rinsert rinsert_s2 insR
    simp only [List.take_zero] at key
    rw [show ([], false, (0 : Int)) = (([] : List Packet), false, ((0 : Nat) : Int)) from rfl, key, loopU_eq]
    by_cases c : cnt (p.Seq - 1) l < l.length
    · have h1 : ((cnt (p.Seq - 1) l : Nat) : Int) < (l.length : Int) := by omega
      have h0 : (0 : Int) ≤ ((cnt (p.Seq - 1) l : Nat) : Int) := by omega
      by_cases c2 : (l.getD (cnt (p.Seq - 1) l) d_Packet).Seq = p.Seq
      · rw [if_pos ⟨c, c2⟩]
        have e1 : rinsert_s1 l p (l.take (cnt (p.Seq - 1) l), false, ((cnt (p.Seq - 1) l : Nat) : Int)) = some (.inr (.inr l)) := by
          unfold rinsert_s1
          simp only [Int.toNat_natCast, h1, h0, beq_iff_eq.2 c2, and_self, need_true, decide_true, cond_true]
        rw [e1]
        rfl
      · rw [if_neg fun hh => c2 hh.2]
        have hat := cnt_at (p.Seq - 1) l c
        have c3 : p.Seq < (l.getD (cnt (p.Seq - 1) l) d_Packet).Seq := by omega
        have r1 : InR .i64 (((cnt (p.Seq - 1) l : Nat) : Int) + 1) := by simp only [InR]; omega
        have r2 : roomP ((l.take (cnt (p.Seq - 1) l)).length + 1) 32 := by
          unfold roomP
          simp only [List.length_take]
          omega
        have r3 : roomP ((l.take (cnt (p.Seq - 1) l) ++ [p]).length + 1) 32 := by
          unfold roomP
          simp only [List.length_append, List.length_take, List.length_singleton]
          omega
        have e1 : rinsert_s1 l p (l.take (cnt (p.Seq - 1) l), false, ((cnt (p.Seq - 1) l : Nat) : Int)) = some (.inl (l.take (cnt (p.Seq - 1) l) ++ [p] ++ [l.getD (cnt (p.Seq - 1) l) d_Packet], true, ((cnt (p.Seq - 1) l + 1 : Nat) : Int))) := by
          unfold rinsert_s1
          simp only [Int.toNat_natCast, h1, h0, beq_eq_false_iff_ne.2 c2, c3, r1, r2, r3, and_self, need_true, decide_true, cond_true, cond_false, Bool.not_false]
          rfl
        rw [e1]
        show bindS (loopU (rinsert_s1 l p) _) _ = _
        rw [rins_tail l p (cnt (p.Seq - 1) l + 1) _ (by omega) (fun j hj hl => ?_) (by simp only [List.length_append, List.length_take, List.length_singleton]; omega) h8]
        · show rinsert_s3 p _ = _
          unfold rinsert_s3
          simp only [Bool.not_true, cond_false]
          rw [List.append_assoc, List.singleton_append, drop_cons _ _ _ c]
        · have := hs.le (i := cnt (p.Seq - 1) l) (j := j) (by omega) hl
          omega
    · rw [if_neg fun hh => c hh.1]
      have h1 : ¬ ((cnt (p.Seq - 1) l : Nat) : Int) < (l.length : Int) := by omega
      have e1 : rinsert_s1 l p (l.take (cnt (p.Seq - 1) l), false, ((cnt (p.Seq - 1) l : Nat) : Int)) = some (.inr (.inl (l.take (cnt (p.Seq - 1) l), false))) := by
        unfold rinsert_s1
        simp only [h1, decide_false, cond_false]
      rw [e1]
      show rinsert_s3 p _ = _
      unfold rinsert_s3
      have r2 : roomP ((l.take (cnt (p.Seq - 1) l)).length + 1) 32 := by
        unfold roomP
        simp only [List.length_take]
        omega
      simp only [Bool.not_false, cond_true]
      rw [need_pos r2, List.drop_of_length_le (by omega), List.append_nil]
  · have h1 : (k : Int) < (l.length : Int) := by omega
    have h0 : (0 : Int) ≤ (k : Int) := by omega
    have hq := cnt_lt (p.Seq - 1) l k hk
    have r1 : InR .i64 ((k : Int) + 1) := by simp only [InR]; omega
    have r2 : roomP ((l.take k).length + 1) 32 := by
      unfold roomP
      simp only [List.length_take]
      omega
    have c1 : ((l.getD k d_Packet).Seq == p.Seq) = false := by rw [beq_eq_false_iff_ne]; omega
    have c2 : ¬ p.Seq < (l.getD k d_Packet).Seq := by omega
    unfold rinsert_s1
    simp only [Int.toNat_natCast, h1, h0, r1, r2, c1, c2, and_self, need_true, decide_true, decide_false, cond_true, cond_false, Bool.not_false]
    rw [take_snoc _ _ _ (by omega)]
    rfl


noncomputable def ct_rinsert : Ct D := ctN as_rinsert rs_rinsert 1 [] (fun a => some ((fun (l : List Packet) (p : Packet) => (SrtP l ∧ l.length ≤ 1000000 : Prop)) (a.1) (a.2))) (fun a => (fun (l : List Packet) (p : Packet) => (insR l p : List Packet)) (a.1) (a.2))
theorem ct_rinsert_ok : CtOk Try.prog S 40 ct_rinsert :=
  fn_okN mixed T_ok g_rinsert_ok S_ok j_rinsert_ok Try.func40 rfl (by kernel_rfl) Try.ntmps40 rfl (by kernel_rfl) as_rinsert_ok rs_rinsert_ok (fun a => some ((fun (l : List Packet) (p : Packet) => (SrtP l ∧ l.length ≤ 1000000 : Prop)) (a.1) (a.2))) (fun a => (fun (l : List Packet) (p : Packet) => (insR l p : List Packet)) (a.1) (a.2))
    (fun a h => (rinsert_run (a.1) (a.2)).symm.trans (rinsert_eq (a.1) (a.2) h))

def as_rreceive : ArgShp D := args (aCons (aAgg cd_Link) (a1 (aAgg cd_Packet)))
theorem as_rreceive_ok : ArgOk S as_rreceive 0 129 := args_ok (aCons_ok (aAgg_ok cd_Link_ok) (a1_ok (aAgg_ok cd_Packet_ok))) rfl
def rs_rreceive : Shp D := shr [.slot 0 true [none, none, none, none, none, none], .slot 1 false [none]] (lCons cd_Link (l1 cd_Lstr))
theorem rs_rreceive_ok : ShpOk S rs_rreceive := shr_ok (lCons_ok cd_Link_ok (l1_ok cd_Lstr_ok))
def jt_rreceive : List (Nat × Shp D) := [(3, shp (fun sl => [.slot 6 false [some 30], .slot 7 false [none]]) (lCons cd_LPacket (l1 (cInt .i64)))), (19, shp (fun sl => [.slot 8 false [some 9], .slot 9 false [none], .cells (pid (sl 2)) [none, none, none, none, none, none]]) (lCons cd_Lstr (lCons (cInt .i64) (l1 cd_Link)))), (100007, shp (fun sl => [.slot 6 false [some 30]]) (l1 cd_LPacket)), (100010, shp (fun sl => [.cells (pid (sl 4)) [none, none, none, none, none, none]]) (l1 cd_Link)), (100020, shp (fun sl => []) l0), (100023, shp (fun sl => [.slot 8 false [some 9], .slot 9 false [none], .cells (pid (sl 2)) [none, none, none, none, none, none]]) (lCons cd_Lstr (lCons (cInt .i64) (l1 cd_Link))))]
def j_rreceive : Nat → Option (Shp D) := lk jt_rreceive
theorem j_rreceive_ok : ∀ i sh, j_rreceive i = some sh → ShpOk S sh := by
  intro i sh h
  have := lk_mem h
  simp only [jt_rreceive, List.mem_cons, Prod.mk.injEq, List.not_mem_nil, or_false] at this
  rcases this with ⟨_, rfl⟩ | ⟨_, rfl⟩ | ⟨_, rfl⟩ | ⟨_, rfl⟩ | ⟨_, rfl⟩ | ⟨_, rfl⟩
  · exact shp_ok (lCons_ok cd_LPacket_ok (l1_ok (cInt_ok _)))
  · exact shp_ok (lCons_ok cd_Lstr_ok (lCons_ok (cInt_ok _) (l1_ok cd_Link_ok)))
  · exact shp_ok (l1_ok cd_LPacket_ok)
  · exact shp_ok (l1_ok cd_Link_ok)
  · exact shp_ok l0_ok
  · exact shp_ok (lCons_ok cd_Lstr_ok (lCons_ok (cInt_ok _) (l1_ok cd_Link_ok)))
noncomputable def gt_rreceive : List (Nat × Ct D) := [(34, ct_carries), (40, ct_rinsert)]
noncomputable def g_rreceive : FuncId → Option (Ct D) := lk gt_rreceive
theorem g_rreceive_ok : ∀ f ct, g_rreceive f = some ct → CtOk Try.prog S f ct := by
  intro f ct h
  have := lk_mem h
  simp only [gt_rreceive, List.mem_cons, Prod.mk.injEq, List.not_mem_nil, or_false] at this
  rcases this with ⟨rfl, rfl⟩ | ⟨rfl, rfl⟩
  · exact ct_carries_ok
  · exact ct_rinsert_ok
noncomputable def rreceive_s1 (l : Link) (p : Packet) (x1 : List Packet × Int) : Option (List Packet × Int ⊕ List Packet ⊕ Link × List Str) :=
  bif decide (x1.snd < (↑l.Wait.length : Int)) then
    need ((0 : Int) ≤ x1.snd ∧ x1.snd < (↑l.Wait.length : Int))
      (bif decide (p.Ack < (l.Wait.getD x1.snd.toNat d_Packet).Seq) then
        need ((0 : Int) ≤ x1.snd ∧ x1.snd < (↑l.Wait.length : Int))
          (need (roomP (x1.fst.length + (1 : Nat)) (32 : Nat))
            (need (InR IntKind.i64 (x1.snd + (1 : Int))) (some (Sum.inl (x1.fst ++ [l.Wait.getD x1.snd.toNat d_Packet], x1.snd + (1 : Int))))))
      else need (InR IntKind.i64 (x1.snd + (1 : Int))) (some (Sum.inl (x1.fst, x1.snd + (1 : Int)))))
  else some (Sum.inr (Sum.inl x1.fst))
noncomputable def rreceive_s2 (x4 : List Str × Int × Link) : Option (Unit ⊕ List Str × Int × Link ⊕ List Str × Int × Link ⊕ Link × List Str) :=
  bif decide (x4.snd.fst < (↑x4.snd.snd.Early.length : Int)) then
    need ((0 : Int) ≤ x4.snd.fst ∧ x4.snd.fst < (↑x4.snd.snd.Early.length : Int))
      (bif (x4.snd.snd.Early.getD x4.snd.fst.toNat d_Packet).Seq == x4.snd.snd.Expect then some (Sum.inl ()) else some (Sum.inr (Sum.inr (Sum.inl x4))))
  else some (Sum.inr (Sum.inr (Sum.inl x4)))
noncomputable def rreceive_s3 (x4 : List Str × Int × Link) (y5 : Unit) : Option (List Str × Int × Link ⊕ List Str × Int × Link ⊕ Link × List Str) :=
  need ((0 : Int) ≤ x4.snd.fst ∧ x4.snd.fst < (↑x4.snd.snd.Early.length : Int))
    (need (roomP (x4.fst.length + (1 : Nat)) (16 : Nat))
      (need (InR IntKind.i64 (x4.snd.snd.Expect + (1 : Int)))
        (need (InR IntKind.i64 (x4.snd.fst + (1 : Int)))
          (some
            (Sum.inl
              (x4.fst ++ [(x4.snd.snd.Early.getD x4.snd.fst.toNat d_Packet).Data], x4.snd.fst + (1 : Int),
                Link.mk x4.snd.snd.Next x4.snd.snd.Wait (x4.snd.snd.Expect + (1 : Int)) x4.snd.snd.Early x4.snd.snd.Again x4.snd.snd.Due))))))
noncomputable def rreceive_s4 (x4 : List Str × Int × Link) : Option (List Str × Int × Link ⊕ List Str × Int × Link ⊕ Link × List Str) :=
  bindS (rreceive_s2 x4) (rreceive_s3 x4)
noncomputable def rreceive_s5 (l : Link) (p : Packet) (y2 : List Packet) : Option (List Str × Int × Link ⊕ Link × List Str) :=
  loopU rreceive_s4 ([p.Data], (0 : Int), Link.mk l.Next y2 (l.Expect + (1 : Int)) l.Early l.Again true)
noncomputable def rreceive_s6 (y6 : List Str × Int × Link) : Option (Link × List Str) :=
  need ((0 : Int) ≤ y6.snd.fst ∧ y6.snd.fst ≤ (↑y6.snd.snd.Early.length : Int) ∧ (↑y6.snd.snd.Early.length : Int) ≤ (↑y6.snd.snd.Early.length : Int))
    (need (roomP (List.drop y6.snd.fst.toNat (List.take (↑y6.snd.snd.Early.length : Int).toNat y6.snd.snd.Early)).length (32 : Nat))
      (some
        (Link.mk y6.snd.snd.Next y6.snd.snd.Wait y6.snd.snd.Expect (List.drop y6.snd.fst.toNat (List.take (↑y6.snd.snd.Early.length : Int).toNat y6.snd.snd.Early)) y6.snd.snd.Again
            y6.snd.snd.Due,
          y6.fst)))
noncomputable def rreceive_s7 (l : Link) (p : Packet) (y2 : List Packet) : Option (Link ⊕ Link × List Str) :=
  bif !dataB p.Data then some (Sum.inr (Link.mk l.Next y2 l.Expect l.Early l.Again l.Due, []))
  else
    bif decide (p.Seq < (1 : Int)) then some (Sum.inr (Link.mk l.Next y2 l.Expect l.Early l.Again l.Due, []))
    else
      bif decide ((1099511627776 : Int) ≤ p.Seq) then some (Sum.inr (Link.mk l.Next y2 l.Expect l.Early l.Again l.Due, []))
      else
        need (InR IntKind.i64 (p.Seq - l.Expect))
          (bif decide ((64 : Int) < p.Seq - l.Expect) then some (Sum.inr (Link.mk l.Next y2 l.Expect l.Early l.Again l.Due, []))
          else some (Sum.inl (Link.mk (0 : Int) [] (0 : Int) [] (0 : Int) false)))
noncomputable def rreceive_s8 (l : Link) (p : Packet) (y2 : List Packet) (y3 : Link) : Option (Link × List Str) :=
  bif decide (p.Seq < l.Expect) then some (Link.mk l.Next y2 l.Expect l.Early l.Again true, [])
  else
    bif decide (l.Expect < p.Seq) then
      need (SrtP l.Early ∧ l.Early.length ≤ (1000000 : Nat)) (some (Link.mk l.Next y2 l.Expect (insR l.Early (Packet.mk p.Seq (0 : Int) p.Data)) l.Again true, []))
    else need (InR IntKind.i64 (l.Expect + (1 : Int))) (bindS (rreceive_s5 l p y2) rreceive_s6)
noncomputable def rreceive_s9 (l : Link) (p : Packet) : Option (List Packet ⊕ Link × List Str) :=
  loopU (rreceive_s1 l p) ([], (0 : Int))
noncomputable def rreceive_s10 (l : Link) (p : Packet) (y2 : List Packet) : Option (Link × List Str) :=
  bindS (rreceive_s7 l p y2) (rreceive_s8 l p y2)
noncomputable def rreceive (l : Link) (p : Packet) : Option (Link × List Str) :=
  bindS (rreceive_s9 l p) (rreceive_s10 l p)
theorem rreceive_run (l : Link) (p : Packet) : rreceive l p = (evC T S g_rreceive 129 j_rreceive (Try.f26.body.getD .skip) rs_rreceive.X (St.init (as_rreceive.enc (l, p)).1 (as_rreceive.enc (l, p)).2) (retL T S Try.f26.results.toList rs_rreceive 0 [])).run := by kernel_rfl


theorem rrec_wait (l : Link) (p : Packet) (hs : SrtP l.Wait) (h8 : l.Wait.length ≤ 1000) : rreceive_s9 l p = some (.inl (ackedR l.Wait p.Ack)) := by
  have hle := cnt_le p.Ack l.Wait
  have key := loop_go (step := rreceive_s1 l p) (fun k => ((l.Wait.take k).drop (cnt p.Ack l.Wait), (k : Int))) (n := l.Wait.length) (fun k hk => ?_) l.Wait.length 0 (by omega)
  · unfold rreceive_s9 ackedR
    simp only [List.take_zero, List.drop_nil, List.take_length] at key
    rw [show (([] : List Packet), (0 : Int)) = (([] : List Packet), ((0 : Nat) : Int)) from rfl, key, loopU_eq]
    unfold rreceive_s1
    have h1 : ¬ ((l.Wait.length : Nat) : Int) < (l.Wait.length : Int) := by omega
    simp only [h1, decide_false, cond_false]
  · have h1 : (k : Int) < (l.Wait.length : Int) := by omega
    have h0 : (0 : Int) ≤ (k : Int) := by omega
    have r1 : InR .i64 ((k : Int) + 1) := by simp only [InR]; omega
    unfold rreceive_s1
    by_cases c : k < cnt p.Ack l.Wait
    · have hq := cnt_lt p.Ack l.Wait k c
      have c1 : ¬ p.Ack < (l.Wait.getD k d_Packet).Seq := by omega
      simp only [Int.toNat_natCast, h1, h0, r1, c1, and_self, need_true, decide_true, decide_false, cond_true, cond_false]
      rw [List.drop_of_length_le (by rw [List.length_take]; omega), List.drop_of_length_le (by rw [List.length_take]; omega)]
      rfl
    · have c1 := hs.after p.Ack (j := k) (by omega) hk
      have r2 : roomP (((l.Wait.take k).drop (cnt p.Ack l.Wait)).length + 1) 32 := by
        unfold roomP
        simp only [List.length_drop, List.length_take]
        omega
      simp only [Int.toNat_natCast, h1, h0, r1, r2, c1, and_self, need_true, decide_true, cond_true]
      rw [← take_snoc l.Wait d_Packet k hk, List.drop_append_of_le_length (by rw [List.length_take]; omega)]
      rfl
theorem rdel_loop (N : Int) (W E : List Packet) (A : Int) (Du : Bool) (h9 : E.length ≤ 1000000) : ∀ (r : List Packet) (k : Nat) (e : Int) (o : List Str), E.drop k = r → k ≤ E.length → 0 ≤ e → e + r.length ≤ 4398046511104 → o.length + r.length ≤ 1000000 →
    ∃ k' : Nat, loopU rreceive_s4 (o, (k : Int), Link.mk N W e E A Du) = some (.inl ((delGo r e o).1, (k' : Int), Link.mk N W (delGo r e o).2.2 E A Du)) ∧ E.drop k' = (delGo r e o).2.1 ∧ k' ≤ E.length
  | [], k, e, o, hr, hk, h0, h1, h2 => by
    refine ⟨k, ?_, hr, hk⟩
    have hkl : E.length ≤ k := by
      have := congrArg List.length hr
      simp only [List.length_drop, List.length_nil] at this
      omega
    rw [loopU_eq]
    have hs : rreceive_s4 (o, (k : Int), Link.mk N W e E A Du) = some (.inr (.inl (o, (k : Int), Link.mk N W e E A Du))) := by
      unfold rreceive_s4 rreceive_s2
      have c1 : ¬ (k : Int) < (E.length : Int) := by omega
      simp only [c1, decide_false, cond_false]
      rfl
    rw [hs]
    rfl
  | p :: r, k, e, o, hr, hk, h0, h1, h2 => by
    simp only [List.length_cons] at h1 h2
    have hl := congrArg List.length hr
    simp only [List.length_drop, List.length_cons] at hl
    have hkl : k < E.length := by omega
    have hd := drop_cons E d_Packet k hkl
    rw [hr] at hd
    obtain ⟨hp, hr'⟩ := List.cons.inj hd
    have c1 : (k : Int) < (E.length : Int) := by omega
    have c0 : (0 : Int) ≤ (k : Int) := by omega
    unfold delGo
    by_cases c : p.Seq = e
    · rw [if_pos c]
      obtain ⟨k', g1, g2, g3⟩ := rdel_loop N W E A Du h9 r (k + 1) (e + 1) (o ++ [p.Data]) hr' (by omega) (by omega) (by omega) (by simp only [List.length_append, List.length_singleton]; omega)
      refine ⟨k', ?_, g2, g3⟩
      rw [← g1, loopU_eq]
      have hs : rreceive_s4 (o, (k : Int), Link.mk N W e E A Du) = some (.inl (o ++ [p.Data], ((k + 1 : Nat) : Int), Link.mk N W (e + 1) E A Du)) := by
        have c' : ((E.getD k d_Packet).Seq == e) = true := by rw [beq_iff_eq, hp]; exact c
        unfold rreceive_s4 rreceive_s2
        simp only [Int.toNat_natCast, c1, c0, c', and_self, need_true, decide_true, cond_true]
        show rreceive_s3 _ () = _
        unfold rreceive_s3
        have r1 : roomP (o.length + 1) 16 := by unfold roomP; omega
        have r3 : InR .i64 (e + 1) := by simp only [InR]; omega
        have r4 : InR .i64 ((k : Int) + 1) := by simp only [InR]; omega
        simp only [Int.toNat_natCast, c1, c0, r1, r3, r4, and_self, need_true, hp]
        rfl
      rw [hs]
    · rw [if_neg c]
      refine ⟨k, ?_, hr, hk⟩
      rw [loopU_eq]
      have hs : rreceive_s4 (o, (k : Int), Link.mk N W e E A Du) = some (.inr (.inl (o, (k : Int), Link.mk N W e E A Du))) := by
        have c' : ((E.getD k d_Packet).Seq == e) = false := by rw [beq_eq_false_iff_ne, hp]; exact c
        unfold rreceive_s4 rreceive_s2
        simp only [Int.toNat_natCast, c1, c0, c', and_self, need_true, decide_true, cond_true, cond_false]
        rfl
      rw [hs]
theorem rdeliver (l : Link) (p : Packet) (W : List Packet) (hd : HdP l) (he : l.Early.length ≤ 1000) : need (InR IntKind.i64 (l.Expect + (1 : Int))) (bindS (rreceive_s5 l p W) rreceive_s6) = some (delR ⟨l.Next, W, l.Expect, l.Early, l.Again, true⟩ p.Data) := by
  obtain ⟨a1, a2, a3, a4⟩ := hd
  rw [need_pos (by simp only [InR]; omega)]
  unfold rreceive_s5
  obtain ⟨k', g1, g2, g3⟩ := rdel_loop l.Next W l.Early l.Again true (by omega) l.Early 0 (l.Expect + 1) [p.Data] rfl (by omega) (by omega) (by omega) (by simp only [List.length_singleton]; omega)
  rw [show ([p.Data], (0 : Int), Link.mk l.Next W (l.Expect + 1) l.Early l.Again true) = ([p.Data], ((0 : Nat) : Int), Link.mk l.Next W (l.Expect + 1) l.Early l.Again true) from rfl, g1]
  show rreceive_s6 _ = _
  unfold rreceive_s6 delR
  have c1 : (0 : Int) ≤ (k' : Int) ∧ (k' : Int) ≤ (l.Early.length : Int) ∧ (l.Early.length : Int) ≤ (l.Early.length : Int) := by omega
  have r1 : roomP (l.Early.drop k').length 32 := by unfold roomP; rw [List.length_drop]; omega
  rw [g2] at r1
  simp only [Int.toNat_natCast, List.take_length, c1, g2, r1, and_self, need_true]
theorem rreceive_eq (l : Link) (p : Packet) (h : HdP l ∧ SrtP l.Wait ∧ SrtP l.Early ∧ l.Wait.length ≤ 1000 ∧ l.Early.length ≤ 1000) : rreceive l p = some (recR l p) := by
  obtain ⟨hd, sw, se, hw, he⟩ := h
  have hd' := hd
  obtain ⟨a1, a2, a3, a4⟩ := hd'
  unfold rreceive
  rw [rrec_wait l p sw hw]
  show rreceive_s10 l p _ = _
  unfold rreceive_s10 rreceive_s7 recR
  cases dataB p.Data with
  | false => rfl
  | true =>
    simp only [Bool.not_true, cond_false, Bool.true_eq_false, false_or]
    by_cases c1 : p.Seq < 1
    · simp only [c1, decide_true, cond_true, true_or, if_true]; rfl
    by_cases c2 : 1099511627776 ≤ p.Seq
    · simp only [c1, c2, decide_true, decide_false, cond_true, cond_false, false_or, true_or, if_true]; rfl
    have r1 : InR .i64 (p.Seq - l.Expect) := by simp only [InR]; omega
    by_cases c3 : l.Expect < p.Seq - 64
    · have c3' : (64 : Int) < p.Seq - l.Expect := by omega
      simp only [c1, c2, c3, c3', r1, need_true, decide_true, decide_false, cond_true, cond_false, false_or, or_self, if_true]; rfl
    have c3' : ¬ (64 : Int) < p.Seq - l.Expect := by omega
    simp only [c1, c2, c3, c3', r1, need_true, decide_false, cond_false, or_self, if_false]
    show rreceive_s8 l p (ackedR l.Wait p.Ack) (Link.mk 0 [] 0 [] 0 false) = _
    unfold rreceive_s8
    by_cases c4 : p.Seq = l.Expect
    · rw [if_pos c4, decide_eq_false (by omega), decide_eq_false (by omega), cond_false, cond_false]
      exact rdeliver l p _ hd he
    · rw [if_neg c4]
      by_cases c5 : l.Expect < p.Seq
      · rw [if_pos c5, decide_eq_false (by omega), decide_eq_true c5, cond_true, cond_false, need_pos ⟨se, by omega⟩]
        rfl
      · rw [if_neg c5, decide_eq_true (by omega), cond_true]
theorem ValP.sw {l : Link} (V : ValP l) : SrtP l.Wait := fun i hi => by
  have h1 := V.w i (by omega)
  have h2 := V.w (i + 1) hi
  unfold WOk at h1 h2
  simp only [decide_eq_true_eq] at h1 h2
  omega
theorem ValP.se {l : Link} (V : ValP l) : SrtP l.Early := fun i hi => by
  have h2 := V.e (i + 1) hi
  unfold EOk at h2
  simp only [decide_eq_true_eq] at h2
  exact h2.2.2.2.2.2 (by omega)
theorem delGo_len : ∀ (r : List Packet) (e : Int) (o : List Str), (delGo r e o).1.length ≤ o.length + r.length ∧ (delGo r e o).2.1.length ≤ r.length
  | [], e, o => ⟨by unfold delGo; simp, by unfold delGo; simp⟩
  | p :: r, e, o => by
    unfold delGo
    split
    · have := delGo_len r (e + 1) (o ++ [p.Data])
      simp only [List.length_append, List.length_nil, List.length_cons] at this ⊢
      omega
    · simp only [List.length_cons]; omega
theorem ackedR_len (l : List Packet) (a : Int) : (ackedR l a).length ≤ l.length := by
  unfold ackedR
  rw [List.length_drop]
  omega
theorem keepR_len (l : List Packet) (p : Packet) : (keepR l p).length ≤ l.length + 1 := by
  unfold keepR
  split
  · omega
  · simp only [List.length_append, List.length_take, List.length_drop, List.length_singleton]
    omega
theorem recR_len (l : Link) (p : Packet) : (recR l p).1.Wait.length ≤ l.Wait.length ∧ (recR l p).1.Early.length ≤ l.Early.length + 1 ∧ (recR l p).2.length ≤ l.Early.length + 1 := by
  have h1 := ackedR_len l.Wait p.Ack
  have h2 := keepR_len l.Early p
  have h3 := delGo_len l.Early (l.Expect + 1) [p.Data]
  simp only [List.length_singleton] at h3
  unfold recR delR
  split
  · refine ⟨h1, ?_, ?_⟩ <;> simp
  split
  · exact ⟨h1, by dsimp only; omega, by dsimp only; omega⟩
  split
  · exact ⟨h1, h2, by simp⟩
  · refine ⟨h1, ?_, ?_⟩ <;> simp


noncomputable def ct_rreceive : Ct D := ctN as_rreceive rs_rreceive 2 [] (fun a => some ((fun (l : Link) (p : Packet) => (HdP l ∧ SrtP l.Wait ∧ SrtP l.Early ∧ l.Wait.length ≤ 1000 ∧ l.Early.length ≤ 1000 : Prop)) (a.1) (a.2))) (fun a => (fun (l : Link) (p : Packet) => (recR l p : Link × List Str)) (a.1) (a.2))
theorem ct_rreceive_ok : CtOk Try.prog S 26 ct_rreceive :=
  fn_okN mixed T_ok g_rreceive_ok S_ok j_rreceive_ok Try.func26 rfl (by kernel_rfl) Try.ntmps26 rfl (by kernel_rfl) as_rreceive_ok rs_rreceive_ok (fun a => some ((fun (l : Link) (p : Packet) => (HdP l ∧ SrtP l.Wait ∧ SrtP l.Early ∧ l.Wait.length ≤ 1000 ∧ l.Early.length ≤ 1000 : Prop)) (a.1) (a.2))) (fun a => (fun (l : Link) (p : Packet) => (recR l p : Link × List Str)) (a.1) (a.2))
    (fun a h => (rreceive_run (a.1) (a.2)).symm.trans (rreceive_eq (a.1) (a.2) h))

def as_lossyReceives : ArgShp D := args (aCons (aAgg cd_Link) (a1 (aAgg cd_Packet)))
theorem as_lossyReceives_ok : ArgOk S as_lossyReceives 0 47 := args_ok (aCons_ok (aAgg_ok cd_Link_ok) (a1_ok (aAgg_ok cd_Packet_ok))) rfl
def rs_lossyReceives : Shp D := shr [.slot 0 false [none]] (l1 cBool)
theorem rs_lossyReceives_ok : ShpOk S rs_lossyReceives := shr_ok (l1_ok cBool_ok)
def jt_lossyReceives : List (Nat × Shp D) := [(100003, shp (fun sl => []) l0)]
def j_lossyReceives : Nat → Option (Shp D) := lk jt_lossyReceives
theorem j_lossyReceives_ok : ∀ i sh, j_lossyReceives i = some sh → ShpOk S sh := by
  intro i sh h
  have := lk_mem h
  simp only [jt_lossyReceives, List.mem_cons, Prod.mk.injEq, List.not_mem_nil, or_false] at this
  rcases this with ⟨_, rfl⟩
  · exact shp_ok l0_ok
noncomputable def gt_lossyReceives : List (Nat × Ct D) := [(9, ct_small), (10, ct_awake), (12, ct_rvalid), (15, ct_same), (25, ct_receive), (26, ct_rreceive), (27, ct_sameTs)]
noncomputable def g_lossyReceives : FuncId → Option (Ct D) := lk gt_lossyReceives
theorem g_lossyReceives_ok : ∀ f ct, g_lossyReceives f = some ct → CtOk Try.prog S f ct := by
  intro f ct h
  have := lk_mem h
  simp only [gt_lossyReceives, List.mem_cons, Prod.mk.injEq, List.not_mem_nil, or_false] at this
  rcases this with ⟨rfl, rfl⟩ | ⟨rfl, rfl⟩ | ⟨rfl, rfl⟩ | ⟨rfl, rfl⟩ | ⟨rfl, rfl⟩ | ⟨rfl, rfl⟩ | ⟨rfl, rfl⟩
  · exact ct_small_ok
  · exact ct_awake_ok
  · exact ct_rvalid_ok
  · exact ct_same_ok
  · exact ct_receive_ok
  · exact ct_rreceive_ok
  · exact ct_sameTs_ok
noncomputable def lossyReceives_s1 (l : Link) (p : Packet) : Option (Unit ⊕ Bool) :=
  need (Texts l.Wait ∧ Texts l.Early)
    (bif !smallV l then some (Sum.inr true)
    else bif !validB l then some (Sum.inr true) else bif decide ((20000 : Int) < (↑(List.length p.Data) : Int)) then some (Sum.inr true) else some (Sum.inl ()))
noncomputable def lossyReceives_s2 (l : Link) (p : Packet) (y1 : Unit) : Option Bool :=
  need (HdP l ∧ l.Wait.length ≤ (1000 : Nat) ∧ l.Early.length ≤ (1000 : Nat))
    (need (HdP l ∧ SrtP l.Wait ∧ SrtP l.Early ∧ l.Wait.length ≤ (1000 : Nat) ∧ l.Early.length ≤ (1000 : Nat))
      (need ((recR l p).fst = (recR l p).fst ∧ (recR l p).fst.Wait.length ≤ (1000000 : Nat) ∧ (recR l p).fst.Early.length ≤ (1000000 : Nat))
        (bif true then need ((recR l p).snd = (recR l p).snd ∧ (recR l p).snd.length ≤ (1000000 : Nat)) (bif true then some true else some false) else some false)))
noncomputable def lossyReceives (l : Link) (p : Packet) : Option Bool :=
  bindS (lossyReceives_s1 l p) (lossyReceives_s2 l p)
theorem lossyReceives_run (l : Link) (p : Packet) : lossyReceives l p = (evC T S g_lossyReceives 47 j_lossyReceives (Try.f5.body.getD .skip) rs_lossyReceives.X (St.init (as_lossyReceives.enc (l, p)).1 (as_lossyReceives.enc (l, p)).2) (retL T S Try.f5.results.toList rs_lossyReceives 0 [])).run := by kernel_rfl

def as_lossyKeeps : ArgShp D := args (aCons (aAgg cd_Link) (aCons (aLf cStr) (a1 (aAgg cd_Packet))))
theorem as_lossyKeeps_ok : ArgOk S as_lossyKeeps 0 92 := args_ok (aCons_ok (aAgg_ok cd_Link_ok) (aCons_ok (aLf_ok cStr_ok) (a1_ok (aAgg_ok cd_Packet_ok)))) rfl
def rs_lossyKeeps : Shp D := shr [.slot 0 false [none]] (l1 cBool)
theorem rs_lossyKeeps_ok : ShpOk S rs_lossyKeeps := shr_ok (l1_ok cBool_ok)
def jt_lossyKeeps : List (Nat × Shp D) := [(100003, shp (fun sl => []) l0)]
def j_lossyKeeps : Nat → Option (Shp D) := lk jt_lossyKeeps
theorem j_lossyKeeps_ok : ∀ i sh, j_lossyKeeps i = some sh → ShpOk S sh := by
  intro i sh h
  have := lk_mem h
  simp only [jt_lossyKeeps, List.mem_cons, Prod.mk.injEq, List.not_mem_nil, or_false] at this
  rcases this with ⟨_, rfl⟩
  · exact shp_ok l0_ok
noncomputable def gt_lossyKeeps : List (Nat × Ct D) := [(9, ct_small), (10, ct_awake), (11, ct_valid), (12, ct_rvalid), (18, ct_send), (20, ct_ack), (22, ct_resend), (25, ct_receive)]
noncomputable def g_lossyKeeps : FuncId → Option (Ct D) := lk gt_lossyKeeps
theorem g_lossyKeeps_ok : ∀ f ct, g_lossyKeeps f = some ct → CtOk Try.prog S f ct := by
  intro f ct h
  have := lk_mem h
  simp only [gt_lossyKeeps, List.mem_cons, Prod.mk.injEq, List.not_mem_nil, or_false] at this
  rcases this with ⟨rfl, rfl⟩ | ⟨rfl, rfl⟩ | ⟨rfl, rfl⟩ | ⟨rfl, rfl⟩ | ⟨rfl, rfl⟩ | ⟨rfl, rfl⟩ | ⟨rfl, rfl⟩ | ⟨rfl, rfl⟩
  · exact ct_small_ok
  · exact ct_awake_ok
  · exact ct_valid_ok
  · exact ct_rvalid_ok
  · exact ct_send_ok
  · exact ct_ack_ok
  · exact ct_resend_ok
  · exact ct_receive_ok
noncomputable def lossyKeeps_s1 (l : Link) (data : Str) (p : Packet) : Option (Unit ⊕ Bool) :=
  need (Texts l.Wait ∧ Texts l.Early)
    (bif !smallV l then some (Sum.inr true)
    else
      bif !validB l then some (Sum.inr true)
      else
        bif decide ((20000 : Int) < (↑(List.length data) : Int)) then some (Sum.inr true)
        else bif decide ((20000 : Int) < (↑(List.length p.Data) : Int)) then some (Sum.inr true) else some (Sum.inl ()))
noncomputable def lossyKeeps_s2 (l : Link) (data : Str) (p : Packet) (y1 : Unit) : Option Bool :=
  need (HdP l ∧ l.Wait.length ≤ (1000 : Nat))
    (need (HdP l ∧ l.Wait.length ≤ (1000 : Nat) ∧ l.Early.length ≤ (1000 : Nat))
      (need (HdP l)
        (need (HdP l ∧ AgP l ∧ l.Wait.length ≤ (1000 : Nat))
          (bif validB (sendR l data).fst then
            bif validB (recR l p).fst then
              bif validB (ackR l).fst then
                bif validB (resendR l).fst then
                  need ((sendR l data).fst.Wait.length ≤ (100 : Nat) ∧ (sendR l data).fst.Early.length ≤ (9223372036854775807 : Nat))
                    (bif validB (sendR l data).fst then
                      need ((recR l p).fst.Wait.length ≤ (100 : Nat) ∧ (recR l p).fst.Early.length ≤ (9223372036854775807 : Nat))
                        (bif validB (recR l p).fst then
                          need ((ackR l).fst.Wait.length ≤ (100 : Nat) ∧ (ackR l).fst.Early.length ≤ (9223372036854775807 : Nat))
                            (bif validB (ackR l).fst then
                              need ((resendR l).fst.Wait.length ≤ (100 : Nat) ∧ (resendR l).fst.Early.length ≤ (9223372036854775807 : Nat))
                                (bif validB (resendR l).fst then some true else some false)
                            else some false)
                        else some false)
                    else some false)
                else some false
              else some false
            else some false
          else some false))))
noncomputable def lossyKeeps (l : Link) (data : Str) (p : Packet) : Option Bool :=
  bindS (lossyKeeps_s1 l data p) (lossyKeeps_s2 l data p)
theorem lossyKeeps_run (l : Link) (data : Str) (p : Packet) : lossyKeeps l data p = (evC T S g_lossyKeeps 92 j_lossyKeeps (Try.f6.body.getD .skip) rs_lossyKeeps.X (St.init (as_lossyKeeps.enc (l, data, p)).1 (as_lossyKeeps.enc (l, data, p)).2) (retL T S Try.f6.results.toList rs_lossyKeeps 0 [])).run := by kernel_rfl



/-! validity, by lists -/
def PkE (lo hi : Int) (p : Packet) : Prop := lo < p.Seq ∧ p.Seq ≤ hi ∧ p.Seq < 1099511627776 ∧ p.Ack = 0 ∧ dataB p.Data = true
def Up (l : List Packet) : Prop := l.Pairwise fun a b => a.Seq < b.Seq
theorem mem_getD {l : List Packet} {p : Packet} (h : p ∈ l) : ∃ i, i < l.length ∧ l.getD i d_Packet = p := by
  obtain ⟨i, hi, e⟩ := List.getElem_of_mem h
  exact ⟨i, hi, by rw [getD_some hi]; exact e⟩
theorem getD_mem {l : List Packet} {i : Nat} (h : i < l.length) : l.getD i d_Packet ∈ l := by
  rw [getD_some h]
  exact List.getElem_mem h
theorem up_iff (l : List Packet) : Up l ↔ SrtP l := by
  unfold Up
  constructor
  · intro h i hi
    have := List.pairwise_iff_getElem.1 h i (i + 1) (by omega) hi (by omega)
    rw [getD_some (by omega), getD_some hi]
    exact this
  · intro h
    refine List.pairwise_iff_getElem.2 fun i j hi hj hij => ?_
    obtain ⟨k, rfl⟩ : ∃ k, j = i + (k + 1) := ⟨j - i - 1, by omega⟩
    have := h.lt i k hj
    rw [getD_some hi, getD_some hj] at this
    exact this
structure ValL (l : Link) : Prop where
  hd : HdP l
  ag : AgP l
  lw : l.Wait.length ≤ 64
  w : ∀ i, i < l.Wait.length → WOk l i = true
  e : ∀ p ∈ l.Early, PkE l.Expect (l.Expect + 64) p
  up : Up l.Early
theorem up_len : ∀ (l : List Packet) (lo hi : Int), lo ≤ hi → (∀ p ∈ l, lo < p.Seq ∧ p.Seq ≤ hi) → Up l → (l.length : Int) ≤ hi - lo
  | [], lo, hi, h, _, _ => by simp only [List.length_nil]; omega
  | p :: r, lo, hi, h, hb, hu => by
    have hp := hb p (List.mem_cons_self ..)
    have hu' := List.pairwise_cons.1 hu
    have := up_len r p.Seq hi (by omega) (fun q hq => ⟨hu'.1 q hq, (hb q (List.mem_cons_of_mem _ hq)).2⟩) hu'.2
    simp only [List.length_cons]
    omega
theorem valL_of {l : Link} (V : ValP l) : ValL l := by
  refine ⟨V.hd, V.ag, V.lw, V.w, fun p hp => ?_, (up_iff _).2 V.se⟩
  obtain ⟨i, hi, rfl⟩ := mem_getD hp
  have := V.e i hi
  unfold EOk at this
  simp only [decide_eq_true_eq] at this
  exact ⟨this.1, this.2.1, this.2.2.1, this.2.2.2.1, this.2.2.2.2.1⟩
theorem valP_of' {l : Link} (V : ValL l) : ValP l := by
  refine ⟨V.hd, V.ag, V.lw, ?_, V.w, fun i hi => ?_⟩
  · have := up_len l.Early l.Expect (l.Expect + 64) (by omega) (fun p hp => ⟨(V.e p hp).1, (V.e p hp).2.1⟩) V.up
    omega
  · have := V.e _ (getD_mem hi)
    unfold EOk
    simp only [decide_eq_true_eq]
    refine ⟨this.1, this.2.1, this.2.2.1, this.2.2.2.1, this.2.2.2.2, fun h0 => ?_⟩
    have := (up_iff _).1 V.up (i - 1) (by omega)
    rw [show i - 1 + 1 = i by omega] at this
    exact this
theorem ValL.b {l : Link} (V : ValL l) : validB l = true := (valid_iff l).2 (valP_of' V)
theorem val_ack {l : Link} (V : ValL l) : ValL (ackR l).1 := ⟨V.hd, V.ag, V.lw, V.w, V.e, V.up⟩
theorem val_resend {l : Link} (V : ValL l) : ValL (resendR l).1 := by
  have := V.ag
  unfold AgP at this
  refine ⟨V.hd, ?_, V.lw, V.w, V.e, V.up⟩
  unfold AgP resendR
  dsimp only
  omega
theorem val_send {l : Link} (data : Str) (V : ValL l) : ValL (sendR l data).1 := by
  unfold sendR
  split
  · exact V
  split
  · exact V
  rename_i h1 h2
  obtain ⟨a1, a2, a3, a4⟩ := V.hd
  refine ⟨⟨by dsimp only; omega, by dsimp only; omega, a3, a4⟩, V.ag, by simp only [List.length_append, List.length_singleton]; omega, fun i hi => ?_, V.e, V.up⟩
  simp only [List.length_append, List.length_singleton] at hi
  unfold WOk
  simp only [decide_eq_true_eq, List.length_append, List.length_singleton]
  by_cases c : i < l.Wait.length
  · have := V.w i c
    unfold WOk at this
    simp only [decide_eq_true_eq] at this
    have e1 : (l.Wait ++ [Packet.mk l.Next (l.Expect - 1) data]).getD i d_Packet = l.Wait.getD i d_Packet := by simp [List.getD, List.getElem?_append_left c]
    rw [e1]
    obtain ⟨b1, b2, b3, b4, b5⟩ := this
    exact ⟨b1, by omega, b3, b4, b5⟩
  · have hi' : i = l.Wait.length := by omega
    subst hi'
    have e1 : (l.Wait ++ [Packet.mk l.Next (l.Expect - 1) data]).getD l.Wait.length d_Packet = Packet.mk l.Next (l.Expect - 1) data := by simp [List.getD]
    rw [e1]
    refine ⟨a1, by dsimp only; omega, by dsimp only; omega, by dsimp only; omega, ?_⟩
    cases hb : dataB data with
    | true => rfl
    | false => exact absurd hb h1
theorem delGo_val : ∀ (r : List Packet) (e M : Int) (o : List Str), (∀ p ∈ r, PkE (e - 1) M p) → Up r → e ≤ 1099511627776 → e ≤ (delGo r e o).2.2 ∧ (delGo r e o).2.2 ≤ 1099511627776 ∧ (∀ p ∈ (delGo r e o).2.1, PkE (delGo r e o).2.2 M p) ∧ Up (delGo r e o).2.1
  | [], e, M, o, h, hu, he => by
    unfold delGo
    exact ⟨Int.le_refl _, he, fun p hp => absurd hp List.not_mem_nil, hu⟩
  | p :: r, e, M, o, h, hu, he => by
    have hp := h p (List.mem_cons_self ..)
    have hu' := List.pairwise_cons.1 hu
    unfold delGo
    split
    · rename_i c
      have := delGo_val r (e + 1) M (o ++ [p.Data]) (fun q hq => ?_) hu'.2 (by unfold PkE at hp; omega)
      · exact ⟨by omega, this.2⟩
      · have h1 := h q (List.mem_cons_of_mem _ hq)
        have h2 := hu'.1 q hq
        exact ⟨by omega, h1.2⟩
    · rename_i c
      refine ⟨Int.le_refl _, he, fun q hq => ?_, hu⟩
      have h1 := h q hq
      refine ⟨?_, h1.2⟩
      dsimp only
      rcases List.mem_cons.1 hq with rfl | hq
      · have := hp.1; omega
      · have h2 := hu'.1 q hq
        have := hp.1
        omega
theorem getD_drop (l : List Packet) (k i : Nat) : (l.drop k).getD i d_Packet = l.getD (k + i) d_Packet := by simp [List.getD]
theorem w_acked {l : Link} (V : ValL l) (ack : Int) (e : Int) (E : List Packet) (A : Int) (Du : Bool) (he : l.Expect ≤ e) : ∀ i, i < (ackedR l.Wait ack).length → WOk ⟨l.Next, ackedR l.Wait ack, e, E, A, Du⟩ i = true := by
  intro i hi
  unfold ackedR at hi ⊢
  have hle := cnt_le ack l.Wait
  rw [List.length_drop] at hi
  have := V.w (cnt ack l.Wait + i) (by omega)
  unfold WOk at this ⊢
  simp only [decide_eq_true_eq, List.length_drop, getD_drop] at this ⊢
  obtain ⟨b1, b2, b3, b4, b5⟩ := this
  exact ⟨b1, by omega, b3, by omega, b5⟩
theorem mem_take_cnt {ack : Int} {l : List Packet} {p : Packet} (h : p ∈ l.take (cnt ack l)) : p.Seq ≤ ack := by
  obtain ⟨i, hi, e⟩ := List.getElem_of_mem h
  rw [List.length_take] at hi
  rw [List.getElem_take] at e
  have := cnt_lt ack l i (by omega)
  rw [getD_some (by omega), e] at this
  exact this
theorem mem_drop_cnt {ack : Int} {l : List Packet} (hs : SrtP l) {p : Packet} (h : p ∈ l.drop (cnt ack l)) : ack < p.Seq ∧ (l.getD (cnt ack l) d_Packet).Seq ≤ p.Seq := by
  obtain ⟨i, hi, e⟩ := List.getElem_of_mem h
  rw [List.length_drop] at hi
  rw [List.getElem_drop] at e
  have h1 := hs.after ack (j := cnt ack l + i) (by omega) (by omega)
  have h2 := hs.le (i := cnt ack l) (j := cnt ack l + i) (by omega) (by omega)
  rw [getD_some (show cnt ack l + i < l.length by omega), e] at h1 h2
  exact ⟨h1, h2⟩
theorem keepR_mem {l : List Packet} {p q : Packet} (h : q ∈ keepR l p) : q ∈ l ∨ q = ⟨p.Seq, 0, p.Data⟩ := by
  unfold keepR at h
  split at h
  · exact .inl h
  · simp only [List.mem_append, List.mem_singleton] at h
    rcases h with (h | h) | h
    · exact .inl (List.mem_of_mem_take h)
    · exact .inr h
    · exact .inl (List.mem_of_mem_drop h)
theorem keepR_up {l : List Packet} (p : Packet) (hu : Up l) : Up (keepR l p) := by
  unfold keepR
  split
  · exact hu
  rename_i c
  have hs := (up_iff l).1 hu
  unfold Up at hu ⊢
  refine List.pairwise_append.2 ⟨List.pairwise_append.2 ⟨hu.sublist (List.take_sublist ..), List.pairwise_singleton _ _, fun a ha b hb => ?_⟩, hu.sublist (List.drop_sublist ..), fun a ha b hb => ?_⟩
  · rw [List.mem_singleton.1 hb]
    have := mem_take_cnt ha
    dsimp only
    omega
  · obtain ⟨h1, h2⟩ := mem_drop_cnt hs hb
    rcases List.mem_append.1 ha with ha | ha
    · have := mem_take_cnt ha
      omega
    · rw [List.mem_singleton.1 ha]
      dsimp only
      have hl : cnt (p.Seq - 1) l < l.length := by
        have := List.length_pos_of_mem hb
        rw [List.length_drop] at this
        omega
      have h3 := cnt_at (p.Seq - 1) l hl
      have h4 : (l.getD (cnt (p.Seq - 1) l) d_Packet).Seq ≠ p.Seq := fun hh => c ⟨hl, hh⟩
      omega
theorem val_rec {l : Link} (p : Packet) (V : ValL l) : ValL (recR l p).1 := by
  obtain ⟨a1, a2, a3, a4⟩ := V.hd
  have hw := ackedR_len l.Wait p.Ack
  have hlw := V.lw
  unfold recR
  split
  · exact ⟨⟨a1, a2, a3, a4⟩, V.ag, by dsimp only; omega, w_acked V _ _ _ _ _ (Int.le_refl _), V.e, V.up⟩
  rename_i c
  have c1 : dataB p.Data = true := by
    cases hb : dataB p.Data with
    | true => rfl
    | false => exact absurd (.inl hb) c
  have c2 : 1 ≤ p.Seq ∧ p.Seq < 1099511627776 ∧ p.Seq - 64 ≤ l.Expect := by
    refine ⟨?_, ?_, ?_⟩ <;> (refine Int.not_lt.1 fun h => c ?_)
    · exact .inr (.inl h)
    · exact .inr (.inr (.inl (by omega)))
    · exact .inr (.inr (.inr h))
  split
  · rename_i c3
    unfold delR
    dsimp only
    obtain ⟨g1, g2, g3, g4⟩ := delGo_val l.Early (l.Expect + 1) (l.Expect + 64) [p.Data] (fun q hq => ⟨by have := (V.e q hq).1; omega, (V.e q hq).2⟩) V.up (by omega)
    refine ⟨⟨a1, a2, by dsimp only; omega, g2⟩, V.ag, by dsimp only; omega, w_acked V _ _ _ _ _ (by omega), fun q hq => ?_, g4⟩
    have := g3 q hq
    exact ⟨this.1, by dsimp only; have := this.2.1; omega, this.2.2⟩
  rename_i c3
  split
  · rename_i c4
    refine ⟨⟨a1, a2, a3, a4⟩, V.ag, by dsimp only; omega, w_acked V _ _ _ _ _ (Int.le_refl _), fun q hq => ?_, keepR_up p V.up⟩
    rcases keepR_mem hq with h | rfl
    · exact V.e q h
    · exact ⟨c4, by dsimp only; omega, c2.2.1, rfl, c1⟩
  · exact ⟨⟨a1, a2, a3, a4⟩, V.ag, by dsimp only; omega, w_acked V _ _ _ _ _ (Int.le_refl _), V.e, V.up⟩
theorem lossyReceives_eq (l : Link) (p : Packet) (h : Texts l.Wait ∧ Texts l.Early) : lossyReceives l p = some true := by
  unfold lossyReceives lossyReceives_s1
  rw [need_pos h]
  cases hs : smallV l with
  | false => rfl
  | true =>
    cases hv : validB l with
    | false => rfl
    | true =>
      obtain ⟨h1, h2⟩ := small_len hs
      have V := (valid_iff l).1 hv
      have g1 := V.hd
      have g2 := V.sw
      have g3 := V.se
      have g4 : l.Wait.length ≤ 1000 := by omega
      have g5 : l.Early.length ≤ 1000 := by omega
      obtain ⟨k1, k2, k3⟩ := recR_len l p
      have k1' : (recR l p).1.Wait.length ≤ 1000000 := by omega
      have k2' : (recR l p).1.Early.length ≤ 1000000 := by omega
      have k3' : (recR l p).2.length ≤ 1000000 := by omega
      have e2 : lossyReceives_s2 l p () = some true := by
        unfold lossyReceives_s2
        simp only [g1, g2, g3, g4, g5, k1', k2', k3', and_self, need_true, cond_true]
      by_cases c : (20000 : Int) < (p.Data.length : Int)
      · simp only [c, Bool.not_true, decide_true, cond_true, cond_false]
        rfl
      · simp only [c, Bool.not_true, decide_false, cond_false]
        exact e2
theorem lossyKeeps_eq (l : Link) (data : Str) (p : Packet) (h : Texts l.Wait ∧ Texts l.Early) : lossyKeeps l data p = some true := by
  unfold lossyKeeps lossyKeeps_s1
  rw [need_pos h]
  cases hs : smallV l with
  | false => rfl
  | true =>
    cases hv : validB l with
    | false => rfl
    | true =>
      obtain ⟨h1, h2⟩ := small_len hs
      have V := valL_of ((valid_iff l).1 hv)
      have g1 := V.hd
      have g2 := V.ag
      have g4 : l.Wait.length ≤ 1000 := by omega
      have g5 : l.Early.length ≤ 1000 := by omega
      have v1 := (val_send data V).b
      have v2 := (val_rec p V).b
      have v3 := (val_ack V).b
      have v4 := (val_resend V).b
      have w1 := (val_send data V).lw
      have w2 := (val_rec p V).lw
      have w3 := (val_ack V).lw
      have w4 := (val_resend V).lw
      have e1 := (valP_of' (val_send data V)).le
      have e2 := (valP_of' (val_rec p V)).le
      have e3 := (valP_of' (val_ack V)).le
      have e4 := (valP_of' (val_resend V)).le
      have n1 : (sendR l data).1.Wait.length ≤ 100 ∧ (sendR l data).1.Early.length ≤ 9223372036854775807 := by omega
      have n2 : (recR l p).1.Wait.length ≤ 100 ∧ (recR l p).1.Early.length ≤ 9223372036854775807 := by omega
      have n3 : (ackR l).1.Wait.length ≤ 100 ∧ (ackR l).1.Early.length ≤ 9223372036854775807 := by omega
      have n4 : (resendR l).1.Wait.length ≤ 100 ∧ (resendR l).1.Early.length ≤ 9223372036854775807 := by omega
      have e2 : lossyKeeps_s2 l data p () = some true := by
        unfold lossyKeeps_s2
        rw [need_pos ⟨g1, g4⟩, need_pos ⟨g1, g4, g5⟩, need_pos g1, need_pos ⟨g1, g2, g4⟩, need_pos n1, need_pos n2, need_pos n3, need_pos n4]
        simp only [v1, v2, v3, v4, cond_true]
      by_cases c : (20000 : Int) < (data.length : Int)
      · simp only [c, Bool.not_true, decide_true, cond_true, cond_false]
        rfl
      by_cases c2 : (20000 : Int) < (p.Data.length : Int)
      · simp only [c, c2, Bool.not_true, decide_true, decide_false, cond_true, cond_false]
        rfl
      · simp only [c, c2, Bool.not_true, decide_false, cond_false]
        exact e2


noncomputable def ct_lossyReceives : Ct D := ctN as_lossyReceives rs_lossyReceives 1 [] (fun a => some ((fun (l : Link) (p : Packet) => (Texts l.Wait ∧ Texts l.Early : Prop)) (a.1) (a.2))) (fun a => (fun (l : Link) (p : Packet) => (true : Bool)) (a.1) (a.2))
theorem ct_lossyReceives_ok : CtOk Try.prog S 5 ct_lossyReceives :=
  fn_okN mixed T_ok g_lossyReceives_ok S_ok j_lossyReceives_ok Try.func5 rfl (by kernel_rfl) Try.ntmps5 rfl (by kernel_rfl) as_lossyReceives_ok rs_lossyReceives_ok (fun a => some ((fun (l : Link) (p : Packet) => (Texts l.Wait ∧ Texts l.Early : Prop)) (a.1) (a.2))) (fun a => (fun (l : Link) (p : Packet) => (true : Bool)) (a.1) (a.2))
    (fun a h => (lossyReceives_run (a.1) (a.2)).symm.trans (lossyReceives_eq (a.1) (a.2) h))

noncomputable def ct_lossyKeeps : Ct D := ctN as_lossyKeeps rs_lossyKeeps 1 [] (fun a => some ((fun (l : Link) (data : Str) (p : Packet) => (Texts l.Wait ∧ Texts l.Early : Prop)) (a.1) (a.2.1) (a.2.2))) (fun a => (fun (l : Link) (data : Str) (p : Packet) => (true : Bool)) (a.1) (a.2.1) (a.2.2))
theorem ct_lossyKeeps_ok : CtOk Try.prog S 6 ct_lossyKeeps :=
  fn_okN mixed T_ok g_lossyKeeps_ok S_ok j_lossyKeeps_ok Try.func6 rfl (by kernel_rfl) Try.ntmps6 rfl (by kernel_rfl) as_lossyKeeps_ok rs_lossyKeeps_ok (fun a => some ((fun (l : Link) (data : Str) (p : Packet) => (Texts l.Wait ∧ Texts l.Early : Prop)) (a.1) (a.2.1) (a.2.2))) (fun a => (fun (l : Link) (data : Str) (p : Packet) => (true : Bool)) (a.1) (a.2.1) (a.2.2))
    (fun a h => (lossyKeeps_run (a.1) (a.2.1) (a.2.2)).symm.trans (lossyKeeps_eq (a.1) (a.2.1) (a.2.2) h))
end Go.Proofs.Ytjmolijohilahaa
