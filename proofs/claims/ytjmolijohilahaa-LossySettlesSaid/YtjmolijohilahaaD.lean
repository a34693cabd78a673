/-
  Lossy: Send, Ack, Resend, Receive.
-/
import Derived.Test.YtjmolijohilahaaI
namespace Go.Proofs.Ytjmolijohilahaa
open Go.RowKit Go.Vc
set_option linter.unusedVariables false
set_option linter.unusedSimpArgs false
set_option maxRecDepth 100000

def as_send : ArgShp D := args (aCons (aAgg cd_Link) (a1 (aLf cStr)))
theorem as_send_ok : ArgOk S as_send 0 44 := args_ok (aCons_ok (aAgg_ok cd_Link_ok) (a1_ok (aLf_ok cStr_ok))) rfl
def rs_send : Shp D := shr [.slot 0 true [none, none, none, none, none, none], .slot 1 true [none, none, none], .slot 2 false [none]] (lCons cd_Link (lCons cd_Packet (l1 (cInt .i64))))
theorem rs_send_ok : ShpOk S rs_send := shr_ok (lCons_ok cd_Link_ok (lCons_ok cd_Packet_ok (l1_ok (cInt_ok _))))
def jt_send : List (Nat × Shp D) := [(100005, shp (fun sl => [.cells (pid (sl 4)) [none, none, none, none, none, none], .cells (pid (sl 5)) [none, none, none]]) (lCons cd_Link (l1 cd_Packet)))]
def j_send : Nat → Option (Shp D) := lk jt_send
theorem j_send_ok : ∀ i sh, j_send i = some sh → ShpOk S sh := by
  intro i sh h
  have := lk_mem h
  simp only [jt_send, List.mem_cons, Prod.mk.injEq, List.not_mem_nil, or_false] at this
  rcases this with ⟨_, rfl⟩
  · exact shp_ok (lCons_ok cd_Link_ok (l1_ok cd_Packet_ok))
noncomputable def gt_send : List (Nat × Ct D) := [(35, ct_proper), (36, ct_clone)]
noncomputable def g_send : FuncId → Option (Ct D) := lk gt_send
theorem g_send_ok : ∀ f ct, g_send f = some ct → CtOk Try.prog S f ct := by
  intro f ct h
  have := lk_mem h
  simp only [gt_send, List.mem_cons, Prod.mk.injEq, List.not_mem_nil, or_false] at this
  rcases this with ⟨rfl, rfl⟩ | ⟨rfl, rfl⟩
  · exact ct_proper_ok
  · exact ct_clone_ok
noncomputable def send_s1 (l : Link) : Option (Link × Packet ⊕ Link × Packet × Int) :=
  bif decide ((64 : Int) ≤ (↑l.Wait.length : Int)) then some (Sum.inr (l, Packet.mk (0 : Int) (0 : Int) #[].toList, (22 : Int)))
  else
    bif decide ((1099511627776 : Int) ≤ l.Next) then some (Sum.inr (l, Packet.mk (0 : Int) (0 : Int) #[].toList, (22 : Int)))
    else some (Sum.inl (Link.mk (0 : Int) [] (0 : Int) [] (0 : Int) false, Packet.mk (0 : Int) (0 : Int) #[].toList))
noncomputable def send_s2 (l : Link) (data : Str) (y1 : Link × Packet) : Option (Link × Packet × Int) :=
  need (InR IntKind.i64 (l.Expect - (1 : Int)))
    (need (l.Wait.length ≤ (1000000 : Nat))
      (need (roomP (l.Wait.length + (1 : Nat)) (32 : Nat))
        (need (InR IntKind.i64 (l.Next + (1 : Int)))
          (some
            (Link.mk (l.Next + (1 : Int)) (l.Wait ++ [Packet.mk l.Next (l.Expect - (1 : Int)) data]) l.Expect l.Early l.Again l.Due, Packet.mk l.Next (l.Expect - (1 : Int)) data,
              (0 : Int))))))
noncomputable def send (l : Link) (data : Str) : Option (Link × Packet × Int) :=
  bif !dataB data then some (l, Packet.mk (0 : Int) (0 : Int) #[].toList, (1 : Int)) else bindS (send_s1 l) (send_s2 l data)
theorem send_run (l : Link) (data : Str) : send l data = (evC T S g_send 44 j_send (Try.f18.body.getD .skip) rs_send.X (St.init (as_send.enc (l, data)).1 (as_send.enc (l, data)).2) (retL T S Try.f18.results.toList rs_send 0 [])).run := by kernel_rfl

def as_rsend : ArgShp D := args (aCons (aAgg cd_Link) (a1 (aLf cStr)))
theorem as_rsend_ok : ArgOk S as_rsend 0 47 := args_ok (aCons_ok (aAgg_ok cd_Link_ok) (a1_ok (aLf_ok cStr_ok))) rfl
def rs_rsend : Shp D := shr [.slot 0 true [none, none, none, none, none, none], .slot 1 true [none, none, none], .slot 2 false [none]] (lCons cd_Link (lCons cd_Packet (l1 (cInt .i64))))
theorem rs_rsend_ok : ShpOk S rs_rsend := shr_ok (lCons_ok cd_Link_ok (lCons_ok cd_Packet_ok (l1_ok (cInt_ok _))))
def jt_rsend : List (Nat × Shp D) := [(100005, shp (fun sl => [.cells (pid (sl 4)) [none, none, none, none, none, none], .cells (pid (sl 5)) [none, none, none]]) (lCons cd_Link (l1 cd_Packet)))]
def j_rsend : Nat → Option (Shp D) := lk jt_rsend
theorem j_rsend_ok : ∀ i sh, j_rsend i = some sh → ShpOk S sh := by
  intro i sh h
  have := lk_mem h
  simp only [jt_rsend, List.mem_cons, Prod.mk.injEq, List.not_mem_nil, or_false] at this
  rcases this with ⟨_, rfl⟩
  · exact shp_ok (lCons_ok cd_Link_ok (l1_ok cd_Packet_ok))
noncomputable def gt_rsend : List (Nat × Ct D) := [(34, ct_carries)]
noncomputable def g_rsend : FuncId → Option (Ct D) := lk gt_rsend
theorem g_rsend_ok : ∀ f ct, g_rsend f = some ct → CtOk Try.prog S f ct := by
  intro f ct h
  have := lk_mem h
  simp only [gt_rsend, List.mem_cons, Prod.mk.injEq, List.not_mem_nil, or_false] at this
  rcases this with ⟨rfl, rfl⟩
  · exact ct_carries_ok
noncomputable def rsend_s1 (l : Link) : Option (Link × Packet ⊕ Link × Packet × Int) :=
  bif decide ((64 : Int) ≤ (↑l.Wait.length : Int)) then some (Sum.inr (l, Packet.mk (0 : Int) (0 : Int) #[].toList, (22 : Int)))
  else
    bif decide ((1099511627776 : Int) ≤ l.Next) then some (Sum.inr (l, Packet.mk (0 : Int) (0 : Int) #[].toList, (22 : Int)))
    else some (Sum.inl (Link.mk (0 : Int) [] (0 : Int) [] (0 : Int) false, Packet.mk (0 : Int) (0 : Int) #[].toList))
noncomputable def rsend_s2 (l : Link) (data : Str) (y1 : Link × Packet) : Option (Link × Packet × Int) :=
  need (InR IntKind.i64 (l.Expect - (1 : Int)))
    (need (roomP l.Wait.length (32 : Nat))
      (need (roomP (l.Wait.length + (1 : Nat)) (32 : Nat))
        (need (InR IntKind.i64 (l.Next + (1 : Int)))
          (some
            (Link.mk (l.Next + (1 : Int)) (l.Wait ++ [Packet.mk l.Next (l.Expect - (1 : Int)) data]) l.Expect l.Early l.Again l.Due, Packet.mk l.Next (l.Expect - (1 : Int)) data,
              (0 : Int))))))
noncomputable def rsend (l : Link) (data : Str) : Option (Link × Packet × Int) :=
  bif !dataB data then some (l, Packet.mk (0 : Int) (0 : Int) #[].toList, (1 : Int)) else bindS (rsend_s1 l) (rsend_s2 l data)
theorem rsend_run (l : Link) (data : Str) : rsend l data = (evC T S g_rsend 47 j_rsend (Try.f19.body.getD .skip) rs_rsend.X (St.init (as_rsend.enc (l, data)).1 (as_rsend.enc (l, data)).2) (retL T S Try.f19.results.toList rs_rsend 0 [])).run := by kernel_rfl

def as_resend : ArgShp D := args (a1 (aAgg cd_Link))
theorem as_resend_ok : ArgOk S as_resend 0 29 := args_ok (a1_ok (aAgg_ok cd_Link_ok)) rfl
def rs_resend : Shp D := shr [.slot 0 true [none, none, none, none, none, none], .slot 1 false [none]] (lCons cd_Link (l1 cd_LPacket))
theorem rs_resend_ok : ShpOk S rs_resend := shr_ok (lCons_ok cd_Link_ok (l1_ok cd_LPacket_ok))
def jt_resend : List (Nat × Shp D) := [(3, shp (fun sl => [.slot 11 false [none], .row (pid (sl 4)) 30]) (lCons (cInt .i64) (l1 cd_LPacket)))]
def j_resend : Nat → Option (Shp D) := lk jt_resend
theorem j_resend_ok : ∀ i sh, j_resend i = some sh → ShpOk S sh := by
  intro i sh h
  have := lk_mem h
  simp only [jt_resend, List.mem_cons, Prod.mk.injEq, List.not_mem_nil, or_false] at this
  rcases this with ⟨_, rfl⟩
  · exact shp_ok (lCons_ok (cInt_ok _) (l1_ok cd_LPacket_ok))
noncomputable def gt_resend : List (Nat × Ct D) := [(36, ct_clone)]
noncomputable def g_resend : FuncId → Option (Ct D) := lk gt_resend
theorem g_resend_ok : ∀ f ct, g_resend f = some ct → CtOk Try.prog S f ct := by
  intro f ct h
  have := lk_mem h
  simp only [gt_resend, List.mem_cons, Prod.mk.injEq, List.not_mem_nil, or_false] at this
  rcases this with ⟨rfl, rfl⟩
  · exact ct_clone_ok
noncomputable def resend_s1 (l : Link) (x1 : Int × List Packet) : Option (Int × List Packet ⊕ Link × List Packet) :=
  bif decide (x1.fst < (↑l.Wait.length : Int)) then
    need (InR IntKind.i64 (l.Expect - (1 : Int)))
      (need ((0 : Int) ≤ x1.fst ∧ x1.fst < (↑x1.snd.length : Int))
        (need (x1.fst.toNat < x1.snd.length)
          (need (InR IntKind.i64 (x1.fst + (1 : Int)))
            (some
              (Sum.inl
                (x1.fst + (1 : Int), x1.snd.set x1.fst.toNat (Packet.mk (x1.snd.getD x1.fst.toNat d_Packet).Seq (l.Expect - (1 : Int)) (x1.snd.getD x1.fst.toNat d_Packet).Data)))))))
  else need (InR IntKind.i64 (l.Again + (1 : Int))) (some (Sum.inr (Link.mk l.Next l.Wait l.Expect l.Early (min (l.Again + (1 : Int)) (1099511627776 : Int)) l.Due, x1.snd)))
noncomputable def resend (l : Link) : Option (Link × List Packet) :=
  need (l.Wait.length ≤ (1000000 : Nat)) (loopU (resend_s1 l) ((0 : Int), l.Wait))
theorem resend_run (l : Link) : resend l = (evC T S g_resend 29 j_resend (Try.f22.body.getD .skip) rs_resend.X (St.init (as_resend.enc (l)).1 (as_resend.enc (l)).2) (retL T S Try.f22.results.toList rs_resend 0 [])).run := by kernel_rfl


def zeroP : Packet := ⟨0, 0, []⟩
def sendR (l : Link) (data : Str) : Link × Packet × Int :=
  if dataB data = false then (l, zeroP, 1) else if 64 ≤ l.Wait.length ∨ 1099511627776 ≤ l.Next then (l, zeroP, 22)
  else (⟨l.Next + 1, l.Wait ++ [⟨l.Next, l.Expect - 1, data⟩], l.Expect, l.Early, l.Again, l.Due⟩, ⟨l.Next, l.Expect - 1, data⟩, 0)
theorem send_eq (l : Link) (data : Str) (h : HdP l ∧ l.Wait.length ≤ 1000) : send l data = some (sendR l data) := by
  obtain ⟨⟨a1, a2, a3, a4⟩, h8⟩ := h
  unfold send sendR
  cases dataB data with
  | false => rfl
  | true =>
    simp only [Bool.not_true, cond_false, Bool.true_eq_false, if_false]
    unfold send_s1
    by_cases c1 : 64 ≤ l.Wait.length
    · have c1' : (64 : Int) ≤ l.Wait.length := by omega
      simp only [c1, c1', true_or, if_true, decide_true, cond_true]
      rfl
    · have c1' : ¬ (64 : Int) ≤ l.Wait.length := by omega
      by_cases c2 : 1099511627776 ≤ l.Next
      · simp only [c1, c1', c2, or_true, if_true, decide_true, decide_false, cond_true, cond_false]
        rfl
      · simp only [c1, c1', c2, or_self, if_false, decide_false, cond_false]
        show send_s2 l data (Link.mk 0 [] 0 [] 0 false, Packet.mk 0 0 #[].toList) = _
        have r1 : InR .i64 (l.Expect - 1) := by simp only [InR]; omega
        have r2 : InR .i64 (l.Next + 1) := by simp only [InR]; omega
        have r3 : roomP (l.Wait.length + 1) 32 := by unfold roomP; omega
        have r4 : l.Wait.length ≤ 1000000 := by omega
        unfold send_s2
        simp only [r1, r2, r3, r4, need_true]
theorem rsend_eq (l : Link) (data : Str) (h : HdP l ∧ l.Wait.length ≤ 1000) : rsend l data = some (sendR l data) := by
  obtain ⟨⟨a1, a2, a3, a4⟩, h8⟩ := h
  unfold rsend sendR
  cases dataB data with
  | false => rfl
  | true =>
    simp only [Bool.not_true, cond_false, Bool.true_eq_false, if_false]
    unfold rsend_s1
    by_cases c1 : 64 ≤ l.Wait.length
    · have c1' : (64 : Int) ≤ l.Wait.length := by omega
      simp only [c1, c1', true_or, if_true, decide_true, cond_true]
      rfl
    · have c1' : ¬ (64 : Int) ≤ l.Wait.length := by omega
      by_cases c2 : 1099511627776 ≤ l.Next
      · simp only [c1, c1', c2, or_true, if_true, decide_true, decide_false, cond_true, cond_false]
        rfl
      · simp only [c1, c1', c2, or_self, if_false, decide_false, cond_false]
        show rsend_s2 l data (Link.mk 0 [] 0 [] 0 false, Packet.mk 0 0 #[].toList) = _
        have r1 : InR .i64 (l.Expect - 1) := by simp only [InR]; omega
        have r2 : InR .i64 (l.Next + 1) := by simp only [InR]; omega
        have r3 : roomP (l.Wait.length + 1) 32 := by unfold roomP; omega
        have r4 : roomP l.Wait.length 32 := by unfold roomP; omega
        unfold rsend_s2
        simp only [r1, r2, r3, r4, need_true]
def ackR (l : Link) : Link × Packet := (⟨l.Next, l.Wait, l.Expect, l.Early, l.Again, false⟩, ⟨0, l.Expect - 1, []⟩)
theorem ack_eq (l : Link) (h : HdP l) : ack l = some (ackR l) := by
  obtain ⟨a1, a2, a3, a4⟩ := h
  exact need_pos (by simp only [InR]; omega)
theorem rack_eq (l : Link) (h : HdP l) : rack l = some (ackR l) := ack_eq l h
def againP (e : Int) (p : Packet) : Packet := ⟨p.Seq, e - 1, p.Data⟩
def resendR (l : Link) : Link × List Packet := (⟨l.Next, l.Wait, l.Expect, l.Early, min (l.Again + 1) 1099511627776, l.Due⟩, l.Wait.map (againP l.Expect))
theorem psetD (l : List Packet) (n k : Nat) (b : Packet) (hk : k < l.length) : (l.set n b).getD k d_Packet = if k = n then b else l.getD k d_Packet := by
  have h1 : k < (l.set n b).length := by simpa using hk
  rw [getD_some h1, getD_some hk, List.getElem_set]
  by_cases e : n = k
  · simp [e]
  · rw [if_neg e, if_neg fun h => e h.symm]
theorem resend_eq (l : Link) (h : HdP l ∧ AgP l ∧ l.Wait.length ≤ 1000) : resend l = some (resendR l) := by
  obtain ⟨⟨a1, a2, a3, a4⟩, ⟨b1, b2⟩, h8⟩ := h
  unfold resend
  rw [need_pos (by omega)]
  have r1 : InR .i64 (l.Expect - 1) := by simp only [InR]; omega
  have r2 : InR .i64 (l.Again + 1) := by simp only [InR]; omega
  have key := loop_acc (step := resend_s1 l) (fun a k => (k, a)) (fun _ a => a.length = l.Wait.length) (fun k a => a.set k (againP l.Expect (a.getD k d_Packet))) (n := l.Wait.length) (r := fun a => (⟨l.Next, l.Wait, l.Expect, l.Early, min (l.Again + 1) 1099511627776, l.Due⟩, a))
    (fun k a hk ha => ⟨?_, by simpa using ha⟩) (fun a ha => ?_) l.Wait.length 0 l.Wait (by omega) rfl
  · rw [show ((0 : Nat) : Int) = 0 from rfl] at key
    rw [key]
    have hf := foldI_inv (g := fun k (a : List Packet) => a.set k (againP l.Expect (a.getD k d_Packet))) (fun k a => a.length = l.Wait.length ∧ ∀ j, j < l.Wait.length → a.getD j d_Packet = if j < k then againP l.Expect (l.Wait.getD j d_Packet) else l.Wait.getD j d_Packet) (n := l.Wait.length)
      (fun k a hk ha => ⟨by simpa using ha.1, fun j hj => ?_⟩) l.Wait.length 0 l.Wait (by omega) ⟨rfl, fun j hj => by rw [if_neg (by omega)]⟩
    · have he : foldI (fun k (a : List Packet) => a.set k (againP l.Expect (a.getD k d_Packet))) l.Wait.length 0 l.Wait = l.Wait.map (againP l.Expect) := by
        refine List.ext_getElem (by rw [hf.1, List.length_map]) fun j h1 h2 => ?_
        have hj : j < l.Wait.length := by rw [hf.1] at h1; exact h1
        have := hf.2 j hj
        rw [getD_some h1, if_pos hj, getD_some hj] at this
        rw [this, List.getElem_map]
      rw [he]
      rfl
    · rw [psetD _ _ _ _ (by omega)]
      by_cases e : j = k
      · rw [if_pos e, if_pos (by omega), ha.2 k hk, if_neg (by omega), e]
      · rw [if_neg e, ha.2 j hj]
        by_cases e2 : j < k
        · rw [if_pos e2, if_pos (by omega)]
        · rw [if_neg e2, if_neg (by omega)]
  · have hk1 : (k : Int) < l.Wait.length := by omega
    have hk2 : (0 : Int) ≤ k ∧ (k : Int) < a.length := by omega
    have hk3 : k < a.length := by omega
    have r3 : InR .i64 ((k : Int) + 1) := by simp only [InR]; omega
    unfold resend_s1
    simp only [Int.toNat_natCast, hk1, hk2, hk3, r1, r3, and_self, need_true, decide_true, cond_true]
    rfl
  · unfold resend_s1
    have hn : ¬ (l.Wait.length : Int) < l.Wait.length := by omega
    simp only [hn, r2, decide_false, cond_false, need_true]
theorem rresend_eq (l : Link) (h : HdP l ∧ AgP l ∧ l.Wait.length ≤ 1000) : rresend l = some (resendR l) := by
  obtain ⟨⟨a1, a2, a3, a4⟩, ⟨b1, b2⟩, h8⟩ := h
  have r1 : InR .i64 (l.Expect - 1) := by simp only [InR]; omega
  have r2 : InR .i64 (l.Again + 1) := by simp only [InR]; omega
  have e2 : rresend_s2 l = some (.inl (l.Wait.map (againP l.Expect))) := by
    unfold rresend_s2
    have key := loop_acc (step := rresend_s1 l) (fun a k => (a, k)) (fun k a => a = (l.Wait.map (againP l.Expect)).take k) (fun k a => a ++ [againP l.Expect (l.Wait.getD k d_Packet)]) (n := l.Wait.length) (r := fun a => (Sum.inl a : List Packet ⊕ Link × List Packet))
      (fun k a hk ha => ?_) (fun a ha => ?_) l.Wait.length 0 [] (by omega) (by simp)
    · rw [show ((0 : Nat) : Int) = 0 from rfl] at key
      rw [key]
      have := foldI_inv (g := fun k (a : List Packet) => a ++ [againP l.Expect (l.Wait.getD k d_Packet)]) (fun k a => a = (l.Wait.map (againP l.Expect)).take k) (n := l.Wait.length) (fun k a hk ha => ?_) l.Wait.length 0 [] (by omega) (by simp)
      · rw [this, List.take_of_length_le (by simp)]
      · have hk' : k < (l.Wait.map (againP l.Expect)).length := by simpa using hk
        rw [ha, List.take_succ_eq_append_getElem hk', List.getElem_map, getD_some hk]
    · have hk1 : (k : Int) < l.Wait.length := by omega
      have hk0 : (0 : Int) ≤ k := by omega
      have hk' : k < (l.Wait.map (againP l.Expect)).length := by simpa using hk
      have hlen : a.length = k := by rw [ha, List.length_take]; omega
      have r3 : InR .i64 ((k : Int) + 1) := by simp only [InR]; omega
      have r4 : roomP (a.length + 1) 32 := by unfold roomP; omega
      refine ⟨?_, ?_⟩
      · unfold rresend_s1
        simp only [Int.toNat_natCast, hk1, hk0, r1, r3, r4, and_self, need_true, decide_true, cond_true]
        rfl
      · rw [ha, List.take_succ_eq_append_getElem hk', List.getElem_map, getD_some hk]
    · unfold rresend_s1
      simp
  unfold rresend
  rw [e2]
  show rresend_s3 l _ = _
  unfold rresend_s3 resendR
  by_cases c : l.Again < 1099511627776
  · have e : min (l.Again + 1) 1099511627776 = l.Again + 1 := by omega
    simp only [c, r2, e, decide_true, cond_true, need_true]
  · have e : min (l.Again + 1) 1099511627776 = l.Again := by omega
    simp only [c, e, decide_false, cond_false]


noncomputable def ct_send : Ct D := ctN as_send rs_send 3 [] (fun a => some ((fun (l : Link) (data : Str) => (HdP l ∧ l.Wait.length ≤ 1000 : Prop)) (a.1) (a.2))) (fun a => (fun (l : Link) (data : Str) => (sendR l data : Link × Packet × Int)) (a.1) (a.2))
theorem ct_send_ok : CtOk Try.prog S 18 ct_send :=
  fn_okN mixed T_ok g_send_ok S_ok j_send_ok Try.func18 rfl (by kernel_rfl) Try.ntmps18 rfl (by kernel_rfl) as_send_ok rs_send_ok (fun a => some ((fun (l : Link) (data : Str) => (HdP l ∧ l.Wait.length ≤ 1000 : Prop)) (a.1) (a.2))) (fun a => (fun (l : Link) (data : Str) => (sendR l data : Link × Packet × Int)) (a.1) (a.2))
    (fun a h => (send_run (a.1) (a.2)).symm.trans (send_eq (a.1) (a.2) h))

noncomputable def ct_rsend : Ct D := ctN as_rsend rs_rsend 3 [] (fun a => some ((fun (l : Link) (data : Str) => (HdP l ∧ l.Wait.length ≤ 1000 : Prop)) (a.1) (a.2))) (fun a => (fun (l : Link) (data : Str) => (sendR l data : Link × Packet × Int)) (a.1) (a.2))
theorem ct_rsend_ok : CtOk Try.prog S 19 ct_rsend :=
  fn_okN mixed T_ok g_rsend_ok S_ok j_rsend_ok Try.func19 rfl (by kernel_rfl) Try.ntmps19 rfl (by kernel_rfl) as_rsend_ok rs_rsend_ok (fun a => some ((fun (l : Link) (data : Str) => (HdP l ∧ l.Wait.length ≤ 1000 : Prop)) (a.1) (a.2))) (fun a => (fun (l : Link) (data : Str) => (sendR l data : Link × Packet × Int)) (a.1) (a.2))
    (fun a h => (rsend_run (a.1) (a.2)).symm.trans (rsend_eq (a.1) (a.2) h))

noncomputable def ct_ack : Ct D := ctN as_ack rs_ack 2 [] (fun a => some ((fun (l : Link) => (HdP l : Prop)) (a))) (fun a => (fun (l : Link) => (ackR l : Link × Packet)) (a))
theorem ct_ack_ok : CtOk Try.prog S 20 ct_ack :=
  fn_okN mixed T_ok g_ack_ok S_ok j_ack_ok Try.func20 rfl (by kernel_rfl) Try.ntmps20 rfl (by kernel_rfl) as_ack_ok rs_ack_ok (fun a => some ((fun (l : Link) => (HdP l : Prop)) (a))) (fun a => (fun (l : Link) => (ackR l : Link × Packet)) (a))
    (fun a h => (ack_run (a)).symm.trans (ack_eq (a) h))

noncomputable def ct_rack : Ct D := ctN as_rack rs_rack 2 [] (fun a => some ((fun (l : Link) => (HdP l : Prop)) (a))) (fun a => (fun (l : Link) => (ackR l : Link × Packet)) (a))
theorem ct_rack_ok : CtOk Try.prog S 21 ct_rack :=
  fn_okN mixed T_ok g_rack_ok S_ok j_rack_ok Try.func21 rfl (by kernel_rfl) Try.ntmps21 rfl (by kernel_rfl) as_rack_ok rs_rack_ok (fun a => some ((fun (l : Link) => (HdP l : Prop)) (a))) (fun a => (fun (l : Link) => (ackR l : Link × Packet)) (a))
    (fun a h => (rack_run (a)).symm.trans (rack_eq (a) h))

noncomputable def ct_resend : Ct D := ctN as_resend rs_resend 2 [] (fun a => some ((fun (l : Link) => (HdP l ∧ AgP l ∧ l.Wait.length ≤ 1000 : Prop)) (a))) (fun a => (fun (l : Link) => (resendR l : Link × List Packet)) (a))
theorem ct_resend_ok : CtOk Try.prog S 22 ct_resend :=
  fn_okN mixed T_ok g_resend_ok S_ok j_resend_ok Try.func22 rfl (by kernel_rfl) Try.ntmps22 rfl (by kernel_rfl) as_resend_ok rs_resend_ok (fun a => some ((fun (l : Link) => (HdP l ∧ AgP l ∧ l.Wait.length ≤ 1000 : Prop)) (a))) (fun a => (fun (l : Link) => (resendR l : Link × List Packet)) (a))
    (fun a h => (resend_run (a)).symm.trans (resend_eq (a) h))

noncomputable def ct_rresend : Ct D := ctN as_rresend rs_rresend 2 [] (fun a => some ((fun (l : Link) => (HdP l ∧ AgP l ∧ l.Wait.length ≤ 1000 : Prop)) (a))) (fun a => (fun (l : Link) => (resendR l : Link × List Packet)) (a))
theorem ct_rresend_ok : CtOk Try.prog S 23 ct_rresend :=
  fn_okN mixed T_ok g_rresend_ok S_ok j_rresend_ok Try.func23 rfl (by kernel_rfl) Try.ntmps23 rfl (by kernel_rfl) as_rresend_ok rs_rresend_ok (fun a => some ((fun (l : Link) => (HdP l ∧ AgP l ∧ l.Wait.length ≤ 1000 : Prop)) (a))) (fun a => (fun (l : Link) => (resendR l : Link × List Packet)) (a))
    (fun a h => (rresend_run (a)).symm.trans (rresend_eq (a) h))

def as_keep : ArgShp D := args (aCons (aLf cd_LPacket) (a1 (aAgg cd_Packet)))
theorem as_keep_ok : ArgOk S as_keep 0 47 := args_ok (aCons_ok (aLf_ok cd_LPacket_ok) (a1_ok (aAgg_ok cd_Packet_ok))) rfl
def rs_keep : Shp D := shr [.slot 0 false [none]] (l1 cd_LPacket)
theorem rs_keep_ok : ShpOk S rs_keep := shr_ok (l1_ok cd_LPacket_ok)
def jt_keep : List (Nat × Shp D) := [(2, shp (fun sl => [.slot 5 false [none]]) (l1 (cInt .i64))), (100004, shp (fun sl => [.slot 5 false [none]]) (l1 (cInt .i64)))]
def j_keep : Nat → Option (Shp D) := lk jt_keep
theorem j_keep_ok : ∀ i sh, j_keep i = some sh → ShpOk S sh := by
  intro i sh h
  have := lk_mem h
  simp only [jt_keep, List.mem_cons, Prod.mk.injEq, List.not_mem_nil, or_false] at this
  rcases this with ⟨_, rfl⟩ | ⟨_, rfl⟩
  · exact shp_ok (l1_ok (cInt_ok _))
  · exact shp_ok (l1_ok (cInt_ok _))
noncomputable def gt_keep : List (Nat × Ct D) := [(36, ct_clone), (42, ct_insert)]
noncomputable def g_keep : FuncId → Option (Ct D) := lk gt_keep
theorem g_keep_ok : ∀ f ct, g_keep f = some ct → CtOk Try.prog S f ct := by
  intro f ct h
  have := lk_mem h
  simp only [gt_keep, List.mem_cons, Prod.mk.injEq, List.not_mem_nil, or_false] at this
  rcases this with ⟨rfl, rfl⟩ | ⟨rfl, rfl⟩
  · exact ct_clone_ok
  · exact ct_insert_ok
noncomputable def keep_s1 (l : List Packet) (p : Packet) (x1 : Int) : Option (Int ⊕ Int ⊕ List Packet) :=
  bif decide (x1 < (↑l.length : Int)) then
    need ((0 : Int) ≤ x1 ∧ x1 < (↑l.length : Int))
      (bif decide ((l.getD x1.toNat d_Packet).Seq < p.Seq) then need (InR IntKind.i64 (x1 + (1 : Int))) (some (Sum.inl (x1 + (1 : Int)))) else some (Sum.inr (Sum.inl x1)))
  else some (Sum.inr (Sum.inl x1))
noncomputable def keep_s2 (l : List Packet) (p : Packet) : Option (Int ⊕ List Packet) :=
  loopU (keep_s1 l p) (0 : Int)
noncomputable def keep_s3 (l : List Packet) (p : Packet) (y2 : Int) : Option (List Packet) :=
  bif decide (y2 < (↑l.length : Int)) then
    need ((0 : Int) ≤ y2 ∧ y2 < (↑l.length : Int))
      (bif (l.getD y2.toNat d_Packet).Seq == p.Seq then some l
      else
        need (l.length ≤ (1000000 : Nat))
          (need ((0 : Int) ≤ y2 ∧ y2 ≤ (↑l.length : Int) ∧ (0 : Nat) < (1 : Nat) ∧ roomP (l.length + (1 : Nat)) (32 : Nat))
            (some (List.drop (0 : Nat) (List.take y2.toNat l) ++ ([Packet.mk p.Seq (0 : Int) p.Data] ++ List.drop y2.toNat (List.take l.length l))))))
  else
    need (l.length ≤ (1000000 : Nat))
      (need ((0 : Int) ≤ y2 ∧ y2 ≤ (↑l.length : Int) ∧ (0 : Nat) < (1 : Nat) ∧ roomP (l.length + (1 : Nat)) (32 : Nat))
        (some (List.drop (0 : Nat) (List.take y2.toNat l) ++ ([Packet.mk p.Seq (0 : Int) p.Data] ++ List.drop y2.toNat (List.take l.length l)))))
noncomputable def keep (l : List Packet) (p : Packet) : Option (List Packet) :=
  bindS (keep_s2 l p) (keep_s3 l p)
theorem keep_run (l : List Packet) (p : Packet) : keep l p = (evC T S g_keep 47 j_keep (Try.f39.body.getD .skip) rs_keep.X (St.init (as_keep.enc (l, p)).1 (as_keep.enc (l, p)).2) (retL T S Try.f39.results.toList rs_keep 0 [])).run := by kernel_rfl

def as_deliver : ArgShp D := args (aCons (aAgg cd_Link) (a1 (aLf cStr)))
theorem as_deliver_ok : ArgOk S as_deliver 0 46 := args_ok (aCons_ok (aAgg_ok cd_Link_ok) (a1_ok (aLf_ok cStr_ok))) rfl
def rs_deliver : Shp D := shr [.slot 0 true [none, none, none, none, none, none], .slot 1 false [none]] (lCons cd_Link (l1 cd_Lstr))
theorem rs_deliver_ok : ShpOk S rs_deliver := shr_ok (lCons_ok cd_Link_ok (l1_ok cd_Lstr_ok))
def jt_deliver : List (Nat × Shp D) := [(4, shp (fun sl => [.slot 6 false [some 9], .slot 7 false [none], .cells (pid (sl 2)) [none, none, none, none, none, none]]) (lCons cd_Lstr (lCons cd_LPacket (l1 cd_Link)))), (100005, shp (fun sl => []) l0), (100008, shp (fun sl => [.slot 6 false [some 9], .slot 7 false [none], .cells (pid (sl 2)) [none, none, none, none, none, none]]) (lCons cd_Lstr (lCons cd_LPacket (l1 cd_Link))))]
def j_deliver : Nat → Option (Shp D) := lk jt_deliver
theorem j_deliver_ok : ∀ i sh, j_deliver i = some sh → ShpOk S sh := by
  intro i sh h
  have := lk_mem h
  simp only [jt_deliver, List.mem_cons, Prod.mk.injEq, List.not_mem_nil, or_false] at this
  rcases this with ⟨_, rfl⟩ | ⟨_, rfl⟩ | ⟨_, rfl⟩
  · exact shp_ok (lCons_ok cd_Lstr_ok (lCons_ok cd_LPacket_ok (l1_ok cd_Link_ok)))
  · exact shp_ok l0_ok
  · exact shp_ok (lCons_ok cd_Lstr_ok (lCons_ok cd_LPacket_ok (l1_ok cd_Link_ok)))
noncomputable def gt_deliver : List (Nat × Ct D) := [(36, ct_clone)]
noncomputable def g_deliver : FuncId → Option (Ct D) := lk gt_deliver
theorem g_deliver_ok : ∀ f ct, g_deliver f = some ct → CtOk Try.prog S f ct := by
  intro f ct h
  have := lk_mem h
  simp only [gt_deliver, List.mem_cons, Prod.mk.injEq, List.not_mem_nil, or_false] at this
  rcases this with ⟨rfl, rfl⟩
  · exact ct_clone_ok
noncomputable def deliver_s1 (x1 : List Str × List Packet × Link) : Option (Unit ⊕ List Str × List Packet × Link ⊕ List Str × List Packet × Link ⊕ Link × List Str) :=
  bif decide ((0 : Int) < (↑x1.snd.fst.length : Int)) then
    need ((0 : Int) ≤ (0 : Int) ∧ (0 : Int) < (↑x1.snd.fst.length : Int))
      (bif (x1.snd.fst.getD (Int.toNat (0 : Int)) d_Packet).Seq == x1.snd.snd.Expect then some (Sum.inl ()) else some (Sum.inr (Sum.inr (Sum.inl x1))))
  else some (Sum.inr (Sum.inr (Sum.inl x1)))
noncomputable def deliver_s2 (x1 : List Str × List Packet × Link) (y2 : Unit) : Option (List Str × List Packet × Link ⊕ List Str × List Packet × Link ⊕ Link × List Str) :=
  need ((0 : Int) ≤ (0 : Int) ∧ (0 : Int) < (↑x1.snd.fst.length : Int))
    (need (roomP (x1.fst.length + (1 : Nat)) (16 : Nat))
      (need ((0 : Int) ≤ (1 : Int) ∧ (1 : Int) ≤ (↑x1.snd.fst.length : Int) ∧ (↑x1.snd.fst.length : Int) ≤ (↑x1.snd.fst.length : Int))
        (need (InR IntKind.i64 (x1.snd.snd.Expect + (1 : Int)))
          (some
            (Sum.inl
              (x1.fst ++ [(x1.snd.fst.getD (Int.toNat (0 : Int)) d_Packet).Data], List.drop (Int.toNat (1 : Int)) (List.take (↑x1.snd.fst.length : Int).toNat x1.snd.fst),
                Link.mk x1.snd.snd.Next x1.snd.snd.Wait (x1.snd.snd.Expect + (1 : Int)) x1.snd.snd.Early x1.snd.snd.Again x1.snd.snd.Due))))))
noncomputable def deliver_s3 (x1 : List Str × List Packet × Link) : Option (List Str × List Packet × Link ⊕ List Str × List Packet × Link ⊕ Link × List Str) :=
  bindS (deliver_s1 x1) (deliver_s2 x1)
noncomputable def deliver_s4 (l : Link) (data : Str) : Option (List Str × List Packet × Link ⊕ Link × List Str) :=
  loopU deliver_s3 ([data], l.Early, Link.mk l.Next l.Wait (l.Expect + (1 : Int)) l.Early l.Again l.Due)
noncomputable def deliver_s5 (y3 : List Str × List Packet × Link) : Option (Link × List Str) :=
  some (Link.mk y3.snd.snd.Next y3.snd.snd.Wait y3.snd.snd.Expect y3.snd.fst y3.snd.snd.Again y3.snd.snd.Due, y3.fst)
noncomputable def deliver (l : Link) (data : Str) : Option (Link × List Str) :=
  need (InR IntKind.i64 (l.Expect + (1 : Int))) (need (l.Early.length ≤ (1000000 : Nat)) (bindS (deliver_s4 l data) deliver_s5))
theorem deliver_run (l : Link) (data : Str) : deliver l data = (evC T S g_deliver 46 j_deliver (Try.f38.body.getD .skip) rs_deliver.X (St.init (as_deliver.enc (l, data)).1 (as_deliver.enc (l, data)).2) (retL T S Try.f38.results.toList rs_deliver 0 [])).run := by kernel_rfl


/-! acknowledged -/
def cnt (ack : Int) : List Packet → Nat
  | [] => 0
  | p :: r => if p.Seq ≤ ack then cnt ack r + 1 else 0
theorem cnt_le (ack : Int) : ∀ l, cnt ack l ≤ l.length
  | [] => Nat.le_refl _
  | p :: r => by
    unfold cnt
    have := cnt_le ack r
    split <;> simp only [List.length_cons] <;> omega
theorem cnt_lt (ack : Int) : ∀ (l : List Packet) (i : Nat), i < cnt ack l → (l.getD i d_Packet).Seq ≤ ack
  | [], i, h => absurd h (Nat.not_lt_zero i)
  | p :: r, i, h => by
    unfold cnt at h
    split at h
    · cases i with
      | zero => assumption
      | succ i => exact cnt_lt ack r i (by omega)
    · omega
theorem cnt_at (ack : Int) : ∀ (l : List Packet), cnt ack l < l.length → ¬ (l.getD (cnt ack l) d_Packet).Seq ≤ ack
  | [], h => absurd h (Nat.not_lt_zero _)
  | p :: r, h => by
    unfold cnt at h ⊢
    split at h
    · rename_i hp
      rw [if_pos hp]
      exact cnt_at ack r (by simpa using h)
    · rename_i hp
      rw [if_neg hp]
      exact hp
def ackedR (l : List Packet) (ack : Int) : List Packet := l.drop (cnt ack l)
theorem acked_eq (l : List Packet) (ack : Int) (h : l.length ≤ 1000000) : acked l ack = some (ackedR l ack) := by
  have e2 : acked_s2 l ack = some (.inl (cnt ack l : Nat)) := by
    unfold acked_s2
    have hle := cnt_le ack l
    refine loop_acc (step := acked_s1 l ack) (fun (_ : Unit) k => k) (fun _ _ => True) (fun _ a => a) (n := cnt ack l) (r := fun _ => Sum.inl ((cnt ack l : Nat) : Int)) (fun k a hk _ => ⟨?_, trivial⟩) (fun a _ => ?_) (cnt ack l) 0 () (by omega) trivial
    · have hk1 : (k : Int) < l.length := by omega
      have hk0 : (0 : Int) ≤ k := by omega
      have r3 : InR .i64 ((k : Int) + 1) := by simp only [InR]; omega
      have hq := cnt_lt ack l k hk
      unfold acked_s1
      simp only [Int.toNat_natCast, hk1, hk0, r3, hq, and_self, need_true, decide_true, cond_true]
      rfl
    · unfold acked_s1
      by_cases hc : cnt ack l < l.length
      · have hk1 : ((cnt ack l : Nat) : Int) < l.length := by omega
        have hk0 : (0 : Int) ≤ (cnt ack l : Nat) := by omega
        have hq := cnt_at ack l hc
        simp only [Int.toNat_natCast, hk1, hk0, hq, and_self, need_true, decide_true, decide_false, cond_true, cond_false]
      · have hk1 : ¬ ((cnt ack l : Nat) : Int) < l.length := by omega
        simp only [hk1, decide_false, cond_false]
  have hle := cnt_le ack l
  unfold acked
  rw [e2]
  show acked_s3 l (cnt ack l : Nat) = _
  unfold acked_s3 ackedR
  have r1 : InR .i64 ((l.length : Int) - (cnt ack l : Nat)) := by simp only [InR]; omega
  have n1 : ((l.length : Int) - (cnt ack l : Nat)).toNat = l.length - cnt ack l := by omega
  rw [need_pos r1, need_pos (by omega), need_pos (by omega)]
  congr 1
  rw [n1]
  simp only [Int.toNat_natCast, List.take_length, List.drop_zero, List.length_drop, List.length_replicate, Nat.min_self]
  rw [← List.length_drop (l := l), List.take_length]
  simp
/-! deliver -/
def delGo : List Packet → Int → List Str → List Str × List Packet × Int
  | [], e, o => (o, [], e)
  | p :: r, e, o => if p.Seq = e then delGo r (e + 1) (o ++ [p.Data]) else (o, p :: r, e)
def delR (l : Link) (data : Str) : Link × List Str := (⟨l.Next, l.Wait, (delGo l.Early (l.Expect + 1) [data]).2.2, (delGo l.Early (l.Expect + 1) [data]).2.1, l.Again, l.Due⟩, (delGo l.Early (l.Expect + 1) [data]).1)
theorem del_loop (N : Int) (W E : List Packet) (A : Int) (Du : Bool) : ∀ (r : List Packet) (e : Int) (o : List Str), 0 ≤ e → e + r.length ≤ 4398046511104 → o.length + r.length ≤ 1000000 →
    loopU deliver_s3 (o, r, Link.mk N W e E A Du) = some (.inl ((delGo r e o).1, (delGo r e o).2.1, Link.mk N W (delGo r e o).2.2 E A Du))
  | [], e, o, h0, h1, h2 => by
    rw [loopU_eq]
    rfl
  | p :: r, e, o, h0, h1, h2 => by
    rw [loopU_eq]
    simp only [List.length_cons] at h1 h2
    have hl : (0 : Int) < (((p :: r).length : Nat) : Int) := by simp only [List.length_cons]; omega
    have hl0 : (0 : Int) ≤ 0 ∧ (0 : Int) < (((p :: r).length : Nat) : Int) := ⟨by omega, hl⟩
    unfold delGo
    by_cases c : p.Seq = e
    · rw [if_pos c, ← del_loop N W E A Du r (e + 1) (o ++ [p.Data]) (by omega) (by omega) (by simp only [List.length_append, List.length_singleton]; omega)]
      have hs : deliver_s3 (o, p :: r, Link.mk N W e E A Du) = some (.inl (o ++ [p.Data], r, Link.mk N W (e + 1) E A Du)) := by
        unfold deliver_s3 deliver_s1
        have c' : (((p :: r).getD (Int.toNat 0) d_Packet).Seq == e) = true := by rw [beq_iff_eq]; exact c
        simp only [hl, hl0, and_self, need_true, decide_true, cond_true, c']
        show deliver_s2 _ () = _
        unfold deliver_s2
        have r1 : roomP (o.length + 1) 16 := by unfold roomP; omega
        have r2 : (0 : Int) ≤ 1 ∧ (1 : Int) ≤ (((p :: r).length : Nat) : Int) ∧ (((p :: r).length : Nat) : Int) ≤ (((p :: r).length : Nat) : Int) := by simp only [List.length_cons]; omega
        have r3 : InR .i64 (e + 1) := by simp only [InR]; omega
        rw [need_pos hl0, need_pos r1, need_pos r2, need_pos r3]
        simp only [Int.toNat_natCast, List.take_length]
        rfl
      rw [hs]
    · rw [if_neg c]
      have hs : deliver_s3 (o, p :: r, Link.mk N W e E A Du) = some (.inr (.inl (o, p :: r, Link.mk N W e E A Du))) := by
        unfold deliver_s3 deliver_s1
        have c' : (((p :: r).getD (Int.toNat 0) d_Packet).Seq == e) = false := by rw [beq_eq_false_iff_ne]; exact c
        simp only [hl, hl0, and_self, need_true, decide_true, cond_true, cond_false, c']
        rfl
      rw [hs]
theorem deliver_eq (l : Link) (data : Str) (h : HdP l ∧ l.Early.length ≤ 1000) : deliver l data = some (delR l data) := by
  obtain ⟨⟨a1, a2, a3, a4⟩, h8⟩ := h
  unfold deliver
  rw [need_pos (by simp only [InR]; omega), need_pos (by omega)]
  unfold deliver_s4
  rw [del_loop l.Next l.Wait l.Early l.Again l.Due l.Early (l.Expect + 1) [data] (by omega) (by omega) (by simp only [List.length_singleton]; omega)]
  rfl
def keepR (l : List Packet) (p : Packet) : List Packet :=
  if cnt (p.Seq - 1) l < l.length ∧ (l.getD (cnt (p.Seq - 1) l) d_Packet).Seq = p.Seq then l else l.take (cnt (p.Seq - 1) l) ++ [⟨p.Seq, 0, p.Data⟩] ++ l.drop (cnt (p.Seq - 1) l)
theorem keep_loop (l : List Packet) (p : Packet) (h : l.length ≤ 1000000) : keep_s2 l p = some (.inl ((cnt (p.Seq - 1) l : Nat) : Int)) := by
  unfold keep_s2
  have hle := cnt_le (p.Seq - 1) l
  refine loop_acc (step := keep_s1 l p) (fun (_ : Unit) k => k) (fun _ _ => True) (fun _ a => a) (n := cnt (p.Seq - 1) l) (r := fun _ => Sum.inl ((cnt (p.Seq - 1) l : Nat) : Int)) (fun k a hk _ => ⟨?_, trivial⟩) (fun a _ => ?_) (cnt (p.Seq - 1) l) 0 () (by omega) trivial
  · have hk1 : (k : Int) < l.length := by omega
    have hk0 : (0 : Int) ≤ k := by omega
    have r3 : InR .i64 ((k : Int) + 1) := by simp only [InR]; omega
    have hq := cnt_lt (p.Seq - 1) l k hk
    have hq' : (l.getD k d_Packet).Seq < p.Seq := by omega
    unfold keep_s1
    simp only [Int.toNat_natCast, hk1, hk0, r3, hq', and_self, need_true, decide_true, cond_true]
    rfl
  · unfold keep_s1
    by_cases hc : cnt (p.Seq - 1) l < l.length
    · have hk1 : ((cnt (p.Seq - 1) l : Nat) : Int) < l.length := by omega
      have hk0 : (0 : Int) ≤ (cnt (p.Seq - 1) l : Nat) := by omega
      have hq := cnt_at (p.Seq - 1) l hc
      have hq' : ¬ (l.getD (cnt (p.Seq - 1) l) d_Packet).Seq < p.Seq := by omega
      simp only [Int.toNat_natCast, hk1, hk0, hq', and_self, need_true, decide_true, decide_false, cond_true, cond_false]
    · have hk1 : ¬ ((cnt (p.Seq - 1) l : Nat) : Int) < l.length := by omega
      simp only [hk1, decide_false, cond_false]
theorem keep_eq (l : List Packet) (p : Packet) (h : l.length ≤ 1000000) : keep l p = some (keepR l p) := by
  have hle := cnt_le (p.Seq - 1) l
  unfold keep
  rw [keep_loop l p h]
  show keep_s3 l p _ = _
  have r1 : (0 : Int) ≤ ((cnt (p.Seq - 1) l : Nat) : Int) ∧ ((cnt (p.Seq - 1) l : Nat) : Int) ≤ (l.length : Int) ∧ 0 < 1 ∧ roomP (l.length + 1) 32 := ⟨by omega, by omega, by omega, by unfold roomP; omega⟩
  unfold keep_s3 keepR
  rw [need_pos h, need_pos r1]
  simp only [Int.toNat_natCast, List.take_length, List.drop_zero]
  by_cases c1 : cnt (p.Seq - 1) l < l.length
  · have c1' : ((cnt (p.Seq - 1) l : Nat) : Int) < (l.length : Int) := by omega
    rw [decide_eq_true c1', cond_true, need_pos ⟨by omega, c1'⟩]
    by_cases c2 : (l.getD (cnt (p.Seq - 1) l) d_Packet).Seq = p.Seq
    · rw [if_pos ⟨c1, c2⟩, beq_iff_eq.2 c2, cond_true]
    · rw [if_neg fun hh => c2 hh.2, beq_eq_false_iff_ne.2 c2, cond_false, List.append_assoc]
  · have c1' : ¬ ((cnt (p.Seq - 1) l : Nat) : Int) < (l.length : Int) := by omega
    rw [decide_eq_false c1', cond_false, if_neg fun hh => c1 hh.1, List.append_assoc]


noncomputable def ct_acked : Ct D := ctN as_acked rs_acked 1 [] (fun a => some ((fun (l : List Packet) (ack : Int) => (l.length ≤ 1000000 : Prop)) (a.1) (a.2))) (fun a => (fun (l : List Packet) (ack : Int) => (ackedR l ack : List Packet)) (a.1) (a.2))
theorem ct_acked_ok : CtOk Try.prog S 37 ct_acked :=
  fn_okN mixed T_ok g_acked_ok S_ok j_acked_ok Try.func37 rfl (by kernel_rfl) Try.ntmps37 rfl (by kernel_rfl) as_acked_ok rs_acked_ok (fun a => some ((fun (l : List Packet) (ack : Int) => (l.length ≤ 1000000 : Prop)) (a.1) (a.2))) (fun a => (fun (l : List Packet) (ack : Int) => (ackedR l ack : List Packet)) (a.1) (a.2))
    (fun a h => (acked_run (a.1) (a.2)).symm.trans (acked_eq (a.1) (a.2) h))

noncomputable def ct_deliver : Ct D := ctN as_deliver rs_deliver 2 [] (fun a => some ((fun (l : Link) (data : Str) => (HdP l ∧ l.Early.length ≤ 1000 : Prop)) (a.1) (a.2))) (fun a => (fun (l : Link) (data : Str) => (delR l data : Link × List Str)) (a.1) (a.2))
theorem ct_deliver_ok : CtOk Try.prog S 38 ct_deliver :=
  fn_okN mixed T_ok g_deliver_ok S_ok j_deliver_ok Try.func38 rfl (by kernel_rfl) Try.ntmps38 rfl (by kernel_rfl) as_deliver_ok rs_deliver_ok (fun a => some ((fun (l : Link) (data : Str) => (HdP l ∧ l.Early.length ≤ 1000 : Prop)) (a.1) (a.2))) (fun a => (fun (l : Link) (data : Str) => (delR l data : Link × List Str)) (a.1) (a.2))
    (fun a h => (deliver_run (a.1) (a.2)).symm.trans (deliver_eq (a.1) (a.2) h))

noncomputable def ct_keep : Ct D := ctN as_keep rs_keep 1 [] (fun a => some ((fun (l : List Packet) (p : Packet) => (l.length ≤ 1000000 : Prop)) (a.1) (a.2))) (fun a => (fun (l : List Packet) (p : Packet) => (keepR l p : List Packet)) (a.1) (a.2))
theorem ct_keep_ok : CtOk Try.prog S 39 ct_keep :=
  fn_okN mixed T_ok g_keep_ok S_ok j_keep_ok Try.func39 rfl (by kernel_rfl) Try.ntmps39 rfl (by kernel_rfl) as_keep_ok rs_keep_ok (fun a => some ((fun (l : List Packet) (p : Packet) => (l.length ≤ 1000000 : Prop)) (a.1) (a.2))) (fun a => (fun (l : List Packet) (p : Packet) => (keepR l p : List Packet)) (a.1) (a.2))
    (fun a h => (keep_run (a.1) (a.2)).symm.trans (keep_eq (a.1) (a.2) h))

def as_receive : ArgShp D := args (aCons (aAgg cd_Link) (a1 (aAgg cd_Packet)))
theorem as_receive_ok : ArgOk S as_receive 0 60 := args_ok (aCons_ok (aAgg_ok cd_Link_ok) (a1_ok (aAgg_ok cd_Packet_ok))) rfl
def rs_receive : Shp D := shr [.slot 0 true [none, none, none, none, none, none], .slot 1 false [none]] (lCons cd_Link (l1 cd_Lstr))
theorem rs_receive_ok : ShpOk S rs_receive := shr_ok (lCons_ok cd_Link_ok (l1_ok cd_Lstr_ok))
def jt_receive : List (Nat × Shp D) := [(100004, shp (fun sl => [.cells (pid (sl 4)) [none, none, none, none, none, none]]) (l1 cd_Link))]
def j_receive : Nat → Option (Shp D) := lk jt_receive
theorem j_receive_ok : ∀ i sh, j_receive i = some sh → ShpOk S sh := by
  intro i sh h
  have := lk_mem h
  simp only [jt_receive, List.mem_cons, Prod.mk.injEq, List.not_mem_nil, or_false] at this
  rcases this with ⟨_, rfl⟩
  · exact shp_ok (l1_ok cd_Link_ok)
noncomputable def gt_receive : List (Nat × Ct D) := [(35, ct_proper), (37, ct_acked), (38, ct_deliver), (39, ct_keep)]
noncomputable def g_receive : FuncId → Option (Ct D) := lk gt_receive
theorem g_receive_ok : ∀ f ct, g_receive f = some ct → CtOk Try.prog S f ct := by
  intro f ct h
  have := lk_mem h
  simp only [gt_receive, List.mem_cons, Prod.mk.injEq, List.not_mem_nil, or_false] at this
  rcases this with ⟨rfl, rfl⟩ | ⟨rfl, rfl⟩ | ⟨rfl, rfl⟩ | ⟨rfl, rfl⟩
  · exact ct_proper_ok
  · exact ct_acked_ok
  · exact ct_deliver_ok
  · exact ct_keep_ok
noncomputable def receive_s1 (l : Link) (p : Packet) : Option (Link ⊕ Link × List Str) :=
  bif !dataB p.Data then some (Sum.inr (Link.mk l.Next (ackedR l.Wait p.Ack) l.Expect l.Early l.Again l.Due, []))
  else
    bif decide (p.Seq < (1 : Int)) then some (Sum.inr (Link.mk l.Next (ackedR l.Wait p.Ack) l.Expect l.Early l.Again l.Due, []))
    else
      bif decide ((1099511627776 : Int) ≤ p.Seq) then some (Sum.inr (Link.mk l.Next (ackedR l.Wait p.Ack) l.Expect l.Early l.Again l.Due, []))
      else
        need (InR IntKind.i64 (p.Seq - (64 : Int)))
          (bif decide (l.Expect < p.Seq - (64 : Int)) then some (Sum.inr (Link.mk l.Next (ackedR l.Wait p.Ack) l.Expect l.Early l.Again l.Due, []))
          else some (Sum.inl (Link.mk (0 : Int) [] (0 : Int) [] (0 : Int) false)))
noncomputable def receive_s2 (l : Link) (p : Packet) (y1 : Link) : Option (Link × List Str) :=
  bif p.Seq == l.Expect then
    need (HdP (Link.mk l.Next (ackedR l.Wait p.Ack) l.Expect l.Early l.Again true) ∧ l.Early.length ≤ (1000 : Nat))
      (some (delR (Link.mk l.Next (ackedR l.Wait p.Ack) l.Expect l.Early l.Again true) p.Data))
  else
    bif decide (l.Expect < p.Seq) then need (l.Early.length ≤ (1000000 : Nat)) (some (Link.mk l.Next (ackedR l.Wait p.Ack) l.Expect (keepR l.Early p) l.Again true, []))
    else some (Link.mk l.Next (ackedR l.Wait p.Ack) l.Expect l.Early l.Again true, [])
noncomputable def receive (l : Link) (p : Packet) : Option (Link × List Str) :=
  need (l.Wait.length ≤ (1000000 : Nat)) (bindS (receive_s1 l p) (receive_s2 l p))
theorem receive_run (l : Link) (p : Packet) : receive l p = (evC T S g_receive 60 j_receive (Try.f25.body.getD .skip) rs_receive.X (St.init (as_receive.enc (l, p)).1 (as_receive.enc (l, p)).2) (retL T S Try.f25.results.toList rs_receive 0 [])).run := by kernel_rfl


def recR (l : Link) (p : Packet) : Link × List Str :=
  if dataB p.Data = false ∨ p.Seq < 1 ∨ 1099511627776 ≤ p.Seq ∨ l.Expect < p.Seq - 64 then (⟨l.Next, ackedR l.Wait p.Ack, l.Expect, l.Early, l.Again, l.Due⟩, [])
  else if p.Seq = l.Expect then delR ⟨l.Next, ackedR l.Wait p.Ack, l.Expect, l.Early, l.Again, true⟩ p.Data
  else if l.Expect < p.Seq then (⟨l.Next, ackedR l.Wait p.Ack, l.Expect, keepR l.Early p, l.Again, true⟩, [])
  else (⟨l.Next, ackedR l.Wait p.Ack, l.Expect, l.Early, l.Again, true⟩, [])
theorem receive_eq (l : Link) (p : Packet) (h : HdP l ∧ l.Wait.length ≤ 1000 ∧ l.Early.length ≤ 1000) : receive l p = some (recR l p) := by
  obtain ⟨hd, hw, he⟩ := h
  obtain ⟨a1, a2, a3, a4⟩ := hd
  unfold receive recR
  rw [need_pos (by omega)]
  unfold receive_s1
  cases dataB p.Data with
  | false => rfl
  | true =>
    simp only [Bool.not_true, cond_false, Bool.true_eq_false, false_or]
    by_cases c1 : p.Seq < 1
    · simp only [c1, decide_true, cond_true, true_or, if_true]; rfl
    by_cases c2 : 1099511627776 ≤ p.Seq
    · simp only [c1, c2, decide_true, decide_false, cond_true, cond_false, false_or, true_or, if_true]; rfl
    have r1 : InR .i64 (p.Seq - 64) := by simp only [InR]; omega
    by_cases c3 : l.Expect < p.Seq - 64
    · simp only [c1, c2, c3, r1, need_true, decide_true, decide_false, cond_true, cond_false, false_or, or_self, if_true]; rfl
    simp only [c1, c2, c3, r1, need_true, decide_false, cond_false, or_self, if_false]
    show receive_s2 l p (Link.mk 0 [] 0 [] 0 false) = _
    unfold receive_s2
    by_cases c4 : p.Seq = l.Expect
    · have c4' : (p.Seq == l.Expect) = true := by rw [beq_iff_eq]; exact c4
      rw [c4', if_pos c4, cond_true, need_pos ⟨⟨a1, a2, a3, a4⟩, he⟩]
    · have c4' : (p.Seq == l.Expect) = false := by rw [beq_eq_false_iff_ne]; exact c4
      rw [c4', if_neg c4, cond_false]
      by_cases c5 : l.Expect < p.Seq
      · rw [if_pos c5, decide_eq_true c5, cond_true, need_pos (by omega)]
      · rw [if_neg c5, decide_eq_false c5, cond_false]


noncomputable def ct_receive : Ct D := ctN as_receive rs_receive 2 [] (fun a => some ((fun (l : Link) (p : Packet) => (HdP l ∧ l.Wait.length ≤ 1000 ∧ l.Early.length ≤ 1000 : Prop)) (a.1) (a.2))) (fun a => (fun (l : Link) (p : Packet) => (recR l p : Link × List Str)) (a.1) (a.2))
theorem ct_receive_ok : CtOk Try.prog S 25 ct_receive :=
  fn_okN mixed T_ok g_receive_ok S_ok j_receive_ok Try.func25 rfl (by kernel_rfl) Try.ntmps25 rfl (by kernel_rfl) as_receive_ok rs_receive_ok (fun a => some ((fun (l : Link) (p : Packet) => (HdP l ∧ l.Wait.length ≤ 1000 ∧ l.Early.length ≤ 1000 : Prop)) (a.1) (a.2))) (fun a => (fun (l : Link) (p : Packet) => (recR l p : Link × List Str)) (a.1) (a.2))
    (fun a h => (receive_run (a.1) (a.2)).symm.trans (receive_eq (a.1) (a.2) h))

def as_awake : ArgShp D := args a0
theorem as_awake_ok : ArgOk S as_awake 0 184 := args_ok a0_ok rfl
def rs_awake : Shp D := shr [.slot 0 false [none]] (l1 cBool)
theorem rs_awake_ok : ShpOk S rs_awake := shr_ok (l1_ok cBool_ok)
def j_awake : Nat → Option (Shp D) := fun _ => none
theorem j_awake_ok : ∀ i sh, j_awake i = some sh → ShpOk S sh := fun i sh h => by cases h
noncomputable def gt_awake : List (Nat × Ct D) := [(11, ct_valid), (13, ct_quiet), (16, ct_newL), (18, ct_send), (20, ct_ack), (22, ct_resend), (25, ct_receive)]
noncomputable def g_awake : FuncId → Option (Ct D) := lk gt_awake
theorem g_awake_ok : ∀ f ct, g_awake f = some ct → CtOk Try.prog S f ct := by
  intro f ct h
  have := lk_mem h
  simp only [gt_awake, List.mem_cons, Prod.mk.injEq, List.not_mem_nil, or_false] at this
  rcases this with ⟨rfl, rfl⟩ | ⟨rfl, rfl⟩ | ⟨rfl, rfl⟩ | ⟨rfl, rfl⟩ | ⟨rfl, rfl⟩ | ⟨rfl, rfl⟩ | ⟨rfl, rfl⟩
  · exact ct_valid_ok
  · exact ct_quiet_ok
  · exact ct_newL_ok
  · exact ct_send_ok
  · exact ct_ack_ok
  · exact ct_resend_ok
  · exact ct_receive_ok
noncomputable def awake : Option Bool :=
  need (HdP (Link.mk (1 : Int) [] (1 : Int) [] (0 : Int) false) ∧ (0 : Nat) ≤ (1000 : Nat))
    (need
      (HdP (sendR (Link.mk (1 : Int) [] (1 : Int) [] (0 : Int) false) #[(97 : UInt8)].toList).fst ∧
        (sendR (Link.mk (1 : Int) [] (1 : Int) [] (0 : Int) false) #[(97 : UInt8)].toList).fst.Wait.length ≤ (1000 : Nat))
      (need (HdP (Link.mk (1 : Int) [] (1 : Int) [] (0 : Int) false) ∧ (0 : Nat) ≤ (1000 : Nat) ∧ (0 : Nat) ≤ (1000 : Nat))
        (need
          (HdP
              (recR (Link.mk (1 : Int) [] (1 : Int) [] (0 : Int) false)
                  (sendR (sendR (Link.mk (1 : Int) [] (1 : Int) [] (0 : Int) false) #[(97 : UInt8)].toList).fst #[(98 : UInt8)].toList).snd.fst).fst ∧
            (recR (Link.mk (1 : Int) [] (1 : Int) [] (0 : Int) false)
                        (sendR (sendR (Link.mk (1 : Int) [] (1 : Int) [] (0 : Int) false) #[(97 : UInt8)].toList).fst #[(98 : UInt8)].toList).snd.fst).fst.Wait.length ≤
                (1000 : Nat) ∧
              (recR (Link.mk (1 : Int) [] (1 : Int) [] (0 : Int) false)
                        (sendR (sendR (Link.mk (1 : Int) [] (1 : Int) [] (0 : Int) false) #[(97 : UInt8)].toList).fst #[(98 : UInt8)].toList).snd.fst).fst.Early.length ≤
                (1000 : Nat))
          (need
            (HdP
              (recR
                  (recR (Link.mk (1 : Int) [] (1 : Int) [] (0 : Int) false)
                      (sendR (sendR (Link.mk (1 : Int) [] (1 : Int) [] (0 : Int) false) #[(97 : UInt8)].toList).fst #[(98 : UInt8)].toList).snd.fst).fst
                  (sendR (Link.mk (1 : Int) [] (1 : Int) [] (0 : Int) false) #[(97 : UInt8)].toList).snd.fst).fst)
            (need
              (HdP (sendR (sendR (Link.mk (1 : Int) [] (1 : Int) [] (0 : Int) false) #[(97 : UInt8)].toList).fst #[(98 : UInt8)].toList).fst ∧
                (sendR (sendR (Link.mk (1 : Int) [] (1 : Int) [] (0 : Int) false) #[(97 : UInt8)].toList).fst #[(98 : UInt8)].toList).fst.Wait.length ≤ (1000 : Nat) ∧
                  (sendR (sendR (Link.mk (1 : Int) [] (1 : Int) [] (0 : Int) false) #[(97 : UInt8)].toList).fst #[(98 : UInt8)].toList).fst.Early.length ≤ (1000 : Nat))
              (need
                (HdP (sendR (sendR (Link.mk (1 : Int) [] (1 : Int) [] (0 : Int) false) #[(97 : UInt8)].toList).fst #[(98 : UInt8)].toList).fst ∧
                  (sendR (sendR (Link.mk (1 : Int) [] (1 : Int) [] (0 : Int) false) #[(97 : UInt8)].toList).fst #[(98 : UInt8)].toList).fst.Wait.length ≤ (1000 : Nat))
                (need
                  (HdP (sendR (sendR (Link.mk (1 : Int) [] (1 : Int) [] (0 : Int) false) #[(97 : UInt8)].toList).fst #[(98 : UInt8)].toList).fst ∧
                    AgP (sendR (sendR (Link.mk (1 : Int) [] (1 : Int) [] (0 : Int) false) #[(97 : UInt8)].toList).fst #[(98 : UInt8)].toList).fst ∧
                      (sendR (sendR (Link.mk (1 : Int) [] (1 : Int) [] (0 : Int) false) #[(97 : UInt8)].toList).fst #[(98 : UInt8)].toList).fst.Wait.length ≤ (1000 : Nat))
                  (bif (sendR (Link.mk (1 : Int) [] (1 : Int) [] (0 : Int) false) #[(97 : UInt8)].toList).snd.snd == (0 : Int) then
                    bif (sendR (sendR (Link.mk (1 : Int) [] (1 : Int) [] (0 : Int) false) #[(97 : UInt8)].toList).fst #[(98 : UInt8)].toList).snd.snd == (0 : Int) then
                      bif (sendR (Link.mk (1 : Int) [] (1 : Int) [] (0 : Int) false) #[(97 : UInt8)].toList).snd.fst.Seq == (1 : Int) then
                        bif (sendR (Link.mk (1 : Int) [] (1 : Int) [] (0 : Int) false) #[(97 : UInt8)].toList).snd.fst.Ack == (0 : Int) then
                          bif (sendR (Link.mk (1 : Int) [] (1 : Int) [] (0 : Int) false) #[(97 : UInt8)].toList).snd.fst.Data == #[(97 : UInt8)].toList then
                            bif (sendR (sendR (Link.mk (1 : Int) [] (1 : Int) [] (0 : Int) false) #[(97 : UInt8)].toList).fst #[(98 : UInt8)].toList).snd.fst.Seq == (2 : Int) then
                              bif
                                  (↑(recR (Link.mk (1 : Int) [] (1 : Int) [] (0 : Int) false)
                                              (sendR (sendR (Link.mk (1 : Int) [] (1 : Int) [] (0 : Int) false) #[(97 : UInt8)].toList).fst
                                                    #[(98 : UInt8)].toList).snd.fst).snd.length :
                                      Int) ==
                                    (0 : Int) then
                                bif
                                    (↑(recR (Link.mk (1 : Int) [] (1 : Int) [] (0 : Int) false)
                                                  (sendR (sendR (Link.mk (1 : Int) [] (1 : Int) [] (0 : Int) false) #[(97 : UInt8)].toList).fst
                                                        #[(98 : UInt8)].toList).snd.fst).fst.Early.length :
                                        Int) ==
                                      (1 : Int) then
                                  bif
                                      (↑(recR
                                                  (recR (Link.mk (1 : Int) [] (1 : Int) [] (0 : Int) false)
                                                      (sendR (sendR (Link.mk (1 : Int) [] (1 : Int) [] (0 : Int) false) #[(97 : UInt8)].toList).fst
                                                            #[(98 : UInt8)].toList).snd.fst).fst
                                                  (sendR (Link.mk (1 : Int) [] (1 : Int) [] (0 : Int) false) #[(97 : UInt8)].toList).snd.fst).snd.length :
                                          Int) ==
                                        (2 : Int) then
                                    need
                                      ((0 : Int) ≤ (0 : Int) ∧
                                        (0 : Int) <
                                          (↑(recR
                                                    (recR (Link.mk (1 : Int) [] (1 : Int) [] (0 : Int) false)
                                                        (sendR (sendR (Link.mk (1 : Int) [] (1 : Int) [] (0 : Int) false) #[(97 : UInt8)].toList).fst
                                                              #[(98 : UInt8)].toList).snd.fst).fst
                                                    (sendR (Link.mk (1 : Int) [] (1 : Int) [] (0 : Int) false) #[(97 : UInt8)].toList).snd.fst).snd.length :
                                            Int))
                                      (bif
                                          (recR
                                                    (recR (Link.mk (1 : Int) [] (1 : Int) [] (0 : Int) false)
                                                        (sendR (sendR (Link.mk (1 : Int) [] (1 : Int) [] (0 : Int) false) #[(97 : UInt8)].toList).fst
                                                              #[(98 : UInt8)].toList).snd.fst).fst
                                                    (sendR (Link.mk (1 : Int) [] (1 : Int) [] (0 : Int) false) #[(97 : UInt8)].toList).snd.fst).snd.getD
                                              (Int.toNat (0 : Int)) [] ==
                                            #[(97 : UInt8)].toList then
                                        need
                                          ((0 : Int) ≤ (1 : Int) ∧
                                            (1 : Int) <
                                              (↑(recR
                                                        (recR (Link.mk (1 : Int) [] (1 : Int) [] (0 : Int) false)
                                                            (sendR (sendR (Link.mk (1 : Int) [] (1 : Int) [] (0 : Int) false) #[(97 : UInt8)].toList).fst
                                                                  #[(98 : UInt8)].toList).snd.fst).fst
                                                        (sendR (Link.mk (1 : Int) [] (1 : Int) [] (0 : Int) false) #[(97 : UInt8)].toList).snd.fst).snd.length :
                                                Int))
                                          (bif
                                              (recR
                                                        (recR (Link.mk (1 : Int) [] (1 : Int) [] (0 : Int) false)
                                                            (sendR (sendR (Link.mk (1 : Int) [] (1 : Int) [] (0 : Int) false) #[(97 : UInt8)].toList).fst
                                                                  #[(98 : UInt8)].toList).snd.fst).fst
                                                        (sendR (Link.mk (1 : Int) [] (1 : Int) [] (0 : Int) false) #[(97 : UInt8)].toList).snd.fst).snd.getD
                                                  (Int.toNat (1 : Int)) [] ==
                                                #[(98 : UInt8)].toList then
                                            bif
                                                (ackR
                                                        (recR
                                                            (recR (Link.mk (1 : Int) [] (1 : Int) [] (0 : Int) false)
                                                                (sendR (sendR (Link.mk (1 : Int) [] (1 : Int) [] (0 : Int) false) #[(97 : UInt8)].toList).fst
                                                                      #[(98 : UInt8)].toList).snd.fst).fst
                                                            (sendR (Link.mk (1 : Int) [] (1 : Int) [] (0 : Int) false) #[(97 : UInt8)].toList).snd.fst).fst).fst.Expect ==
                                                  (3 : Int) then
                                              bif
                                                  !(ackR
                                                          (recR
                                                              (recR (Link.mk (1 : Int) [] (1 : Int) [] (0 : Int) false)
                                                                  (sendR (sendR (Link.mk (1 : Int) [] (1 : Int) [] (0 : Int) false) #[(97 : UInt8)].toList).fst
                                                                        #[(98 : UInt8)].toList).snd.fst).fst
                                                              (sendR (Link.mk (1 : Int) [] (1 : Int) [] (0 : Int) false) #[(97 : UInt8)].toList).snd.fst).fst).fst.Due then
                                                bif
                                                    (ackR
                                                            (recR
                                                                (recR (Link.mk (1 : Int) [] (1 : Int) [] (0 : Int) false)
                                                                    (sendR (sendR (Link.mk (1 : Int) [] (1 : Int) [] (0 : Int) false) #[(97 : UInt8)].toList).fst
                                                                          #[(98 : UInt8)].toList).snd.fst).fst
                                                                (sendR (Link.mk (1 : Int) [] (1 : Int) [] (0 : Int) false) #[(97 : UInt8)].toList).snd.fst).fst).snd.Seq ==
                                                      (0 : Int) then
                                                  bif
                                                      (ackR
                                                              (recR
                                                                  (recR (Link.mk (1 : Int) [] (1 : Int) [] (0 : Int) false)
                                                                      (sendR (sendR (Link.mk (1 : Int) [] (1 : Int) [] (0 : Int) false) #[(97 : UInt8)].toList).fst
                                                                            #[(98 : UInt8)].toList).snd.fst).fst
                                                                  (sendR (Link.mk (1 : Int) [] (1 : Int) [] (0 : Int) false) #[(97 : UInt8)].toList).snd.fst).fst).snd.Ack ==
                                                        (2 : Int) then
                                                    bif
                                                        (ackR
                                                                (recR
                                                                    (recR (Link.mk (1 : Int) [] (1 : Int) [] (0 : Int) false)
                                                                        (sendR (sendR (Link.mk (1 : Int) [] (1 : Int) [] (0 : Int) false) #[(97 : UInt8)].toList).fst
                                                                              #[(98 : UInt8)].toList).snd.fst).fst
                                                                    (sendR (Link.mk (1 : Int) [] (1 : Int) [] (0 : Int) false) #[(97 : UInt8)].toList).snd.fst).fst).snd.Data ==
                                                          #[].toList then
                                                      bif
                                                          quietB
                                                            (recR
                                                                (sendR (sendR (Link.mk (1 : Int) [] (1 : Int) [] (0 : Int) false) #[(97 : UInt8)].toList).fst
                                                                    #[(98 : UInt8)].toList).fst
                                                                (ackR
                                                                    (recR
                                                                        (recR (Link.mk (1 : Int) [] (1 : Int) [] (0 : Int) false)
                                                                            (sendR (sendR (Link.mk (1 : Int) [] (1 : Int) [] (0 : Int) false) #[(97 : UInt8)].toList).fst
                                                                                  #[(98 : UInt8)].toList).snd.fst).fst
                                                                        (sendR (Link.mk (1 : Int) [] (1 : Int) [] (0 : Int) false) #[(97 : UInt8)].toList).snd.fst).fst).snd).fst then
                                                        bif
                                                            !quietB
                                                                (sendR (sendR (Link.mk (1 : Int) [] (1 : Int) [] (0 : Int) false) #[(97 : UInt8)].toList).fst
                                                                    #[(98 : UInt8)].toList).fst then
                                                          bif
                                                              (sendR
                                                                        (sendR (sendR (Link.mk (1 : Int) [] (1 : Int) [] (0 : Int) false) #[(97 : UInt8)].toList).fst
                                                                            #[(98 : UInt8)].toList).fst
                                                                        #[].toList).snd.fst.Seq ==
                                                                (0 : Int) then
                                                            bif
                                                                (sendR
                                                                        (sendR (sendR (Link.mk (1 : Int) [] (1 : Int) [] (0 : Int) false) #[(97 : UInt8)].toList).fst
                                                                            #[(98 : UInt8)].toList).fst
                                                                        #[].toList).snd.snd ==
                                                                  (1 : Int) then
                                                              bif
                                                                  (↑(resendR
                                                                              (sendR (sendR (Link.mk (1 : Int) [] (1 : Int) [] (0 : Int) false) #[(97 : UInt8)].toList).fst
                                                                                  #[(98 : UInt8)].toList).fst).snd.length :
                                                                      Int) ==
                                                                    (2 : Int) then
                                                                bif
                                                                    (resendR
                                                                            (sendR (sendR (Link.mk (1 : Int) [] (1 : Int) [] (0 : Int) false) #[(97 : UInt8)].toList).fst
                                                                                #[(98 : UInt8)].toList).fst).fst.Again ==
                                                                      (1 : Int) then
                                                                  need
                                                                    ((sendR (sendR (Link.mk (1 : Int) [] (1 : Int) [] (0 : Int) false) #[(97 : UInt8)].toList).fst
                                                                                #[(98 : UInt8)].toList).fst.Wait.length ≤
                                                                        (100 : Nat) ∧
                                                                      (sendR (sendR (Link.mk (1 : Int) [] (1 : Int) [] (0 : Int) false) #[(97 : UInt8)].toList).fst
                                                                                #[(98 : UInt8)].toList).fst.Early.length ≤
                                                                        (9223372036854775807 : Nat))
                                                                    (bif
                                                                        validB
                                                                          (sendR (sendR (Link.mk (1 : Int) [] (1 : Int) [] (0 : Int) false) #[(97 : UInt8)].toList).fst
                                                                              #[(98 : UInt8)].toList).fst then
                                                                      need
                                                                        ((ackR
                                                                                    (recR
                                                                                        (recR (Link.mk (1 : Int) [] (1 : Int) [] (0 : Int) false)
                                                                                            (sendR
                                                                                                  (sendR (Link.mk (1 : Int) [] (1 : Int) [] (0 : Int) false)
                                                                                                      #[(97 : UInt8)].toList).fst
                                                                                                  #[(98 : UInt8)].toList).snd.fst).fst
                                                                                        (sendR (Link.mk (1 : Int) [] (1 : Int) [] (0 : Int) false)
                                                                                              #[(97 : UInt8)].toList).snd.fst).fst).fst.Wait.length ≤
                                                                            (100 : Nat) ∧
                                                                          (ackR
                                                                                    (recR
                                                                                        (recR (Link.mk (1 : Int) [] (1 : Int) [] (0 : Int) false)
                                                                                            (sendR
                                                                                                  (sendR (Link.mk (1 : Int) [] (1 : Int) [] (0 : Int) false)
                                                                                                      #[(97 : UInt8)].toList).fst
                                                                                                  #[(98 : UInt8)].toList).snd.fst).fst
                                                                                        (sendR (Link.mk (1 : Int) [] (1 : Int) [] (0 : Int) false)
                                                                                              #[(97 : UInt8)].toList).snd.fst).fst).fst.Early.length ≤
                                                                            (9223372036854775807 : Nat))
                                                                        (bif
                                                                            validB
                                                                              (ackR
                                                                                  (recR
                                                                                      (recR (Link.mk (1 : Int) [] (1 : Int) [] (0 : Int) false)
                                                                                          (sendR
                                                                                                (sendR (Link.mk (1 : Int) [] (1 : Int) [] (0 : Int) false) #[(97 : UInt8)].toList).fst
                                                                                                #[(98 : UInt8)].toList).snd.fst).fst
                                                                                      (sendR (Link.mk (1 : Int) [] (1 : Int) [] (0 : Int) false)
                                                                                            #[(97 : UInt8)].toList).snd.fst).fst).fst then
                                                                          need ((0 : Nat) ≤ (100 : Nat) ∧ (0 : Nat) ≤ (9223372036854775807 : Nat))
                                                                            (some !validB (Link.mk (0 : Int) [] (0 : Int) [] (0 : Int) false))
                                                                        else some false)
                                                                    else some false)
                                                                else some false
                                                              else some false
                                                            else some false
                                                          else some false
                                                        else some false
                                                      else some false
                                                    else some false
                                                  else some false
                                                else some false
                                              else some false
                                            else some false
                                          else some false)
                                      else some false)
                                  else some false
                                else some false
                              else some false
                            else some false
                          else some false
                        else some false
                      else some false
                    else some false
                  else some false))))))))
theorem awake_run : awake = (evC T S g_awake 184 j_awake (Try.f10.body.getD .skip) rs_awake.X (St.init (as_awake.enc ()).1 (as_awake.enc ()).2) (retL T S Try.f10.results.toList rs_awake 0 [])).run := by kernel_rfl


instance (l : Link) : Decidable (HdP l) := by unfold HdP; infer_instance
instance (l : Link) : Decidable (AgP l) := by unfold AgP; infer_instance
theorem valP_of (l : Link) (h : HdP l ∧ AgP l ∧ l.Wait.length ≤ 64 ∧ l.Early.length ≤ 64 ∧ (∀ i : Fin l.Wait.length, WOk l i = true) ∧ ∀ i : Fin l.Early.length, EOk l i = true) : validB l = true :=
  (valid_iff l).2 ⟨h.1, h.2.1, h.2.2.1, h.2.2.2.1, fun i hi => h.2.2.2.2.1 ⟨i, hi⟩, fun i hi => h.2.2.2.2.2 ⟨i, hi⟩⟩
theorem awake_eq : awake = some true := by
  have s1 : sendR (Link.mk 1 [] 1 [] 0 false) #[(97 : UInt8)].toList = ((Link.mk 2 [(Packet.mk 1 0 #[(97 : UInt8)].toList)] 1 [] 0 false), (Packet.mk 1 0 #[(97 : UInt8)].toList), 0) := by decide +kernel
  have s2 : sendR (Link.mk 2 [(Packet.mk 1 0 #[(97 : UInt8)].toList)] 1 [] 0 false) #[(98 : UInt8)].toList = ((Link.mk 3 [(Packet.mk 1 0 #[(97 : UInt8)].toList), (Packet.mk 2 0 #[(98 : UInt8)].toList)] 1 [] 0 false), (Packet.mk 2 0 #[(98 : UInt8)].toList), 0) := by decide +kernel
  have r1 : recR (Link.mk 1 [] 1 [] 0 false) (Packet.mk 2 0 #[(98 : UInt8)].toList) = ((Link.mk 1 [] 1 [(Packet.mk 2 0 #[(98 : UInt8)].toList)] 0 true), []) := by decide +kernel
  have r2 : recR (Link.mk 1 [] 1 [(Packet.mk 2 0 #[(98 : UInt8)].toList)] 0 true) (Packet.mk 1 0 #[(97 : UInt8)].toList) = ((Link.mk 1 [] 3 [] 0 true), [#[(97 : UInt8)].toList, #[(98 : UInt8)].toList]) := by decide +kernel
  have a1 : ackR (Link.mk 1 [] 3 [] 0 true) = ((Link.mk 1 [] 3 [] 0 false), (Packet.mk 0 2 [])) := by decide +kernel
  have r3 : recR (Link.mk 3 [(Packet.mk 1 0 #[(97 : UInt8)].toList), (Packet.mk 2 0 #[(98 : UInt8)].toList)] 1 [] 0 false) (Packet.mk 0 2 []) = ((Link.mk 3 [] 1 [] 0 false), []) := by decide +kernel
  have s3 : sendR (Link.mk 3 [(Packet.mk 1 0 #[(97 : UInt8)].toList), (Packet.mk 2 0 #[(98 : UInt8)].toList)] 1 [] 0 false) #[].toList = ((Link.mk 3 [(Packet.mk 1 0 #[(97 : UInt8)].toList), (Packet.mk 2 0 #[(98 : UInt8)].toList)] 1 [] 0 false), zeroP, 1) := by decide +kernel
  have rs : resendR (Link.mk 3 [(Packet.mk 1 0 #[(97 : UInt8)].toList), (Packet.mk 2 0 #[(98 : UInt8)].toList)] 1 [] 0 false) = ((Link.mk 3 [(Packet.mk 1 0 #[(97 : UInt8)].toList), (Packet.mk 2 0 #[(98 : UInt8)].toList)] 1 [] 1 false), [(Packet.mk 1 0 #[(97 : UInt8)].toList), (Packet.mk 2 0 #[(98 : UInt8)].toList)]) := by decide +kernel
  have d0 : HdP (Link.mk 1 [] 1 [] 0 false) := by decide
  have d1 : HdP (Link.mk 2 [(Packet.mk 1 0 #[(97 : UInt8)].toList)] 1 [] 0 false) := by decide
  have d2 : HdP (Link.mk 3 [(Packet.mk 1 0 #[(97 : UInt8)].toList), (Packet.mk 2 0 #[(98 : UInt8)].toList)] 1 [] 0 false) := by decide
  have d3 : HdP (Link.mk 1 [] 1 [(Packet.mk 2 0 #[(98 : UInt8)].toList)] 0 true) := by decide
  have d4 : HdP (Link.mk 1 [] 3 [] 0 true) := by decide
  have g2 : AgP (Link.mk 3 [(Packet.mk 1 0 #[(97 : UInt8)].toList), (Packet.mk 2 0 #[(98 : UInt8)].toList)] 1 [] 0 false) := by decide
  have v1 : validB (Link.mk 3 [(Packet.mk 1 0 #[(97 : UInt8)].toList), (Packet.mk 2 0 #[(98 : UInt8)].toList)] 1 [] 0 false) = true := valP_of _ (by decide +kernel)
  have v2 : validB (Link.mk 1 [] 3 [] 0 false) = true := valP_of _ (by decide +kernel)
  have v3 : validB (Link.mk 0 [] 0 [] 0 false) = false := by
    cases hb : validB (Link.mk 0 [] 0 [] 0 false) with
    | false => rfl
    | true => exact absurd ((valid_iff _).1 hb).hd (by decide)
  have q1 : quietB (Link.mk 3 [] 1 [] 0 false) = true := by decide
  have q2 : quietB (Link.mk 3 [(Packet.mk 1 0 #[(97 : UInt8)].toList), (Packet.mk 2 0 #[(98 : UInt8)].toList)] 1 [] 0 false) = false := by decide
  unfold awake
  simp only [s1, s2, r1, r2, a1, r3, s3, rs, d0, d1, d2, d3, d4, g2, v1, v2, v3, q1, q2, List.length_cons, List.length_nil, need_true, and_self, and_true, true_and]
  simp [zeroP]


noncomputable def ct_awake : Ct D := ctN as_awake rs_awake 1 [] (fun a => none) (fun a => ((true : Bool)))
theorem ct_awake_ok : CtOk Try.prog S 10 ct_awake :=
  fn_okN mixed T_ok g_awake_ok S_ok j_awake_ok Try.func10 rfl (by kernel_rfl) Try.ntmps10 rfl (by kernel_rfl) as_awake_ok rs_awake_ok (fun a => none) (fun a => ((true : Bool)))
    (fun a h => (awake_run).symm.trans (awake_eq))
end Go.Proofs.Ytjmolijohilahaa
