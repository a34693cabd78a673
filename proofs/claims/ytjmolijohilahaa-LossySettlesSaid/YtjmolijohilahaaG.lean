/-
  Lossy: the steps of two ends.
-/
import Derived.Test.YtjmolijohilahaaF
namespace Go.Proofs.Ytjmolijohilahaa
open Go.RowKit Go.Vc
set_option linter.unusedVariables false
set_option linter.unusedSimpArgs false
set_option maxRecDepth 100000


--G0


def as_arrive : ArgShp D := argsB (aCons (aPtr 0) (a1 (aAgg cd_Packet))) (bOwn 1 [none, none, none, none, none, none, none, none, none, none, none, none, some 30, some 30, some 9, some 9] cd_law48_world)
theorem as_arrive_ok : ArgOk S as_arrive 5 28 := argsB_ok (aCons_ok (aPtr_ok 0) (a1_ok (aAgg_ok cd_Packet_ok))) (bOwn_ok (k := 4) cd_law48_world_ok (fun _ => rfl)) rfl
def rs_arrive : Shp D := shr [.cells 0 [none, none, none, none, none, none, none, none, none, none, none, none, some 30, some 30, some 9, some 9]] (l1 cd_law48_world)
theorem rs_arrive_ok : ShpOk S rs_arrive := shr_ok (l1_ok cd_law48_world_ok)
def j_arrive : Nat → Option (Shp D) := fun _ => none
theorem j_arrive_ok : ∀ i sh, j_arrive i = some sh → ShpOk S sh := fun i sh h => by cases h
noncomputable def gt_arrive : List (Nat × Ct D) := [(25, ct_receive)]
noncomputable def g_arrive : FuncId → Option (Ct D) := lk gt_arrive
theorem g_arrive_ok : ∀ f ct, g_arrive f = some ct → CtOk Try.prog S f ct := by
  intro f ct h
  have := lk_mem h
  simp only [gt_arrive, List.mem_cons, Prod.mk.injEq, List.not_mem_nil, or_false] at this
  rcases this with ⟨rfl, rfl⟩
  · exact ct_receive_ok
noncomputable def arrive (p : Packet) (w : law48_world) : Option law48_world :=
  need (HdP w.b ∧ w.b.Wait.length ≤ (1000 : Nat) ∧ w.b.Early.length ≤ (1000 : Nat))
    (need (roomP (w.got.length + (recR w.b p).snd.length) (16 : Nat)) (some (law48_world.mk w.a (recR w.b p).fst w.to w.from_ w.sent (w.got ++ (recR w.b p).snd))))
theorem arrive_run (p : Packet) (w : law48_world) : arrive p w = (evC T S g_arrive 28 j_arrive (Try.f30.body.getD .skip) rs_arrive.X (St.init (as_arrive.enc (((), p), (w))).1 (as_arrive.enc (((), p), (w))).2) (retL T S Try.f30.results.toList rs_arrive 5 [])).run := by kernel_rfl

def as_isPre : ArgShp D := argsB (a1 (aPtr 0)) (bOwn 1 [none, none, none, none, none, none, none, none, none, none, none, none, some 30, some 30, some 9, some 9] cd_law48_world)
theorem as_isPre_ok : ArgOk S as_isPre 5 31 := argsB_ok (a1_ok (aPtr_ok 0)) (bOwn_ok (k := 4) cd_law48_world_ok (fun _ => rfl)) rfl
def rs_isPre : Shp D := shr [.slot 0 false [none]] (l1 cBool)
theorem rs_isPre_ok : ShpOk S rs_isPre := shr_ok (l1_ok cBool_ok)
def j_isPre : Nat → Option (Shp D) := fun _ => none
theorem j_isPre_ok : ∀ i sh, j_isPre i = some sh → ShpOk S sh := fun i sh h => by cases h
noncomputable def gt_isPre : List (Nat × Ct D) := [(27, ct_sameTs)]
noncomputable def g_isPre : FuncId → Option (Ct D) := lk gt_isPre
theorem g_isPre_ok : ∀ f ct, g_isPre f = some ct → CtOk Try.prog S f ct := by
  intro f ct h
  have := lk_mem h
  simp only [gt_isPre, List.mem_cons, Prod.mk.injEq, List.not_mem_nil, or_false] at this
  rcases this with ⟨rfl, rfl⟩
  · exact ct_sameTs_ok
noncomputable def isPre (w : law48_world) : Option Bool :=
  bif decide ((↑w.got.length : Int) ≤ (↑w.sent.length : Int)) then
    need ((0 : Int) ≤ (↑(0 : Nat) : Int) ∧ (↑(0 : Nat) : Int) ≤ (↑w.got.length : Int) ∧ (↑w.got.length : Int) ≤ (↑w.sent.length : Int))
      (need (w.got = List.drop (↑(0 : Nat) : Int).toNat (List.take (↑w.got.length : Int).toNat w.sent) ∧ w.got.length ≤ (1000000 : Nat)) (some true))
  else some false
theorem isPre_run (w : law48_world) : isPre w = (evC T S g_isPre 31 j_isPre (Try.f31.body.getD .skip) rs_isPre.X (St.init (as_isPre.enc ((()), (w))).1 (as_isPre.enc ((()), (w))).2) (retL T S Try.f31.results.toList rs_isPre 5 [0, 1, 2, 3, 4])).run := by kernel_rfl


def arriveR (w : law48_world) (p : Packet) : law48_world := ⟨w.a, (recR w.b p).1, w.to, w.from_, w.sent, w.got ++ (recR w.b p).2⟩
theorem arrive_eq (p : Packet) (w : law48_world) (h : HdP w.b ∧ w.b.Wait.length ≤ 1000 ∧ w.b.Early.length ≤ 1000 ∧ w.got.length ≤ 1000000) : arrive p w = some (arriveR w p) := by
  obtain ⟨h1, h2, h3, h4⟩ := h
  unfold arrive
  have := recR_len w.b p
  rw [need_pos ⟨h1, h2, h3⟩, need_pos (by unfold roomP; omega)]
  rfl
def PreW (w : law48_world) : Prop := w.got = w.sent.take w.got.length ∧ w.sent.length ≤ 1000000
theorem isPre_eq (w : law48_world) (h : PreW w) : isPre w = some true := by
  obtain ⟨h1, h2⟩ := h
  have hl := congrArg List.length h1
  rw [List.length_take] at hl
  unfold isPre
  have h3 : (w.got.length : Int) ≤ (w.sent.length : Int) := by omega
  rw [decide_eq_true h3, cond_true, need_pos ⟨by omega, by omega, h3⟩]
  refine need_pos ⟨?_, by omega⟩
  simpa using h1
theorem without_eq (l : List Packet) (i : Int) (h : 0 ≤ i ∧ i < l.length ∧ l.length ≤ 1000000) : without l i = some (l.take i.toNat ++ l.drop (i.toNat + 1)) := by
  obtain ⟨h1, h2, h3⟩ := h
  unfold without
  have e : (i + 1).toNat = i.toNat + 1 := by omega
  have l1 : (List.take i.toNat l).length ≤ 1000000 := by rw [List.length_take]; omega
  have l2 : (List.drop (i.toNat + 1) l).length ≤ 1000000 := by rw [List.length_drop]; omega
  rw [need_pos ⟨by omega, by omega, by omega⟩, need_pos (by unfold roomP; simp only [List.length_drop, List.length_take]; omega), need_pos (by simp only [InR]; omega), need_pos (by omega)]
  simp only [Int.toNat_natCast, List.take_length, e, List.drop_zero]
  exact need_pos (by unfold roomP; omega)


noncomputable def ct_arrive : Ct D := ctN as_arrive rs_arrive 0 [] (fun a => some ((fun (p : Packet) (w : law48_world) => (HdP w.b ∧ w.b.Wait.length ≤ 1000 ∧ w.b.Early.length ≤ 1000 ∧ w.got.length ≤ 1000000 : Prop)) (a.1.2) (a.2))) (fun a => (fun (p : Packet) (w : law48_world) => (arriveR w p : law48_world)) (a.1.2) (a.2))
theorem ct_arrive_ok : CtOk Try.prog S 30 ct_arrive :=
  fn_okN mixed T_ok g_arrive_ok S_ok j_arrive_ok Try.func30 rfl (by kernel_rfl) Try.ntmps30 rfl (by kernel_rfl) as_arrive_ok rs_arrive_ok (fun a => some ((fun (p : Packet) (w : law48_world) => (HdP w.b ∧ w.b.Wait.length ≤ 1000 ∧ w.b.Early.length ≤ 1000 ∧ w.got.length ≤ 1000000 : Prop)) (a.1.2) (a.2))) (fun a => (fun (p : Packet) (w : law48_world) => (arriveR w p : law48_world)) (a.1.2) (a.2))
    (fun a h => (arrive_run (a.1.2) (a.2)).symm.trans (arrive_eq (a.1.2) (a.2) h))

noncomputable def ct_isPre : Ct D := ctN as_isPre rs_isPre 1 [0, 1, 2, 3, 4] (fun a => some ((fun (w : law48_world) => (PreW w : Prop)) (a.2))) (fun a => (fun (w : law48_world) => (true : Bool)) (a.2))
theorem ct_isPre_ok : CtOk Try.prog S 31 ct_isPre :=
  fn_okN mixed T_ok g_isPre_ok S_ok j_isPre_ok Try.func31 rfl (by kernel_rfl) Try.ntmps31 rfl (by kernel_rfl) as_isPre_ok rs_isPre_ok (fun a => some ((fun (w : law48_world) => (PreW w : Prop)) (a.2))) (fun a => (fun (w : law48_world) => (true : Bool)) (a.2))
    (fun a h => (isPre_run (a.2)).symm.trans (isPre_eq (a.2) h))

noncomputable def ct_without : Ct D := ctN as_without rs_without 1 [] (fun a => some ((fun (l : List Packet) (i : Int) => (0 ≤ i ∧ i < l.length ∧ l.length ≤ 1000000 : Prop)) (a.1) (a.2))) (fun a => (fun (l : List Packet) (i : Int) => (l.take i.toNat ++ l.drop (i.toNat + 1) : List Packet)) (a.1) (a.2))
theorem ct_without_ok : CtOk Try.prog S 43 ct_without :=
  fn_okN mixed T_ok g_without_ok S_ok j_without_ok Try.func43 rfl (by kernel_rfl) Try.ntmps43 rfl (by kernel_rfl) as_without_ok rs_without_ok (fun a => some ((fun (l : List Packet) (i : Int) => (0 ≤ i ∧ i < l.length ∧ l.length ≤ 1000000 : Prop)) (a.1) (a.2))) (fun a => (fun (l : List Packet) (i : Int) => (l.take i.toNat ++ l.drop (i.toNat + 1) : List Packet)) (a.1) (a.2))
    (fun a h => (without_run (a.1) (a.2)).symm.trans (without_eq (a.1) (a.2) h))

def as_step : ArgShp D := argsB (aCons (aPtr 0) (a1 (aAgg cd_law48_Op))) (bOwn 1 [none, none, none, none, none, none, none, none, none, none, none, none, some 30, some 30, some 9, some 9] cd_law48_world)
theorem as_step_ok : ArgOk S as_step 5 280 := argsB_ok (aCons_ok (aPtr_ok 0) (a1_ok (aAgg_ok cd_law48_Op_ok))) (bOwn_ok (k := 4) cd_law48_world_ok (fun _ => rfl)) rfl
def rs_step : Shp D := shr [.cells 0 [none, none, none, none, none, none, none, none, none, none, none, none, some 30, some 30, some 9, some 9]] (l1 cd_law48_world)
theorem rs_step_ok : ShpOk S rs_step := shr_ok (l1_ok cd_law48_world_ok)
def jt_step : List (Nat × Shp D) := [(100004, shp (fun sl => [.slot 4 false [none]]) (l1 (cInt .i64))), (100007, shp (fun sl => [.slot 5 false [none]]) (l1 (cInt .i64)))]
def j_step : Nat → Option (Shp D) := lk jt_step
theorem j_step_ok : ∀ i sh, j_step i = some sh → ShpOk S sh := by
  intro i sh h
  have := lk_mem h
  simp only [jt_step, List.mem_cons, Prod.mk.injEq, List.not_mem_nil, or_false] at this
  rcases this with ⟨_, rfl⟩ | ⟨_, rfl⟩
  · exact shp_ok (l1_ok (cInt_ok _))
  · exact shp_ok (l1_ok (cInt_ok _))
noncomputable def gt_step : List (Nat × Ct D) := [(18, ct_send), (20, ct_ack), (22, ct_resend), (25, ct_receive), (30, ct_arrive), (43, ct_without)]
noncomputable def g_step : FuncId → Option (Ct D) := lk gt_step
theorem g_step_ok : ∀ f ct, g_step f = some ct → CtOk Try.prog S f ct := by
  intro f ct h
  have := lk_mem h
  simp only [gt_step, List.mem_cons, Prod.mk.injEq, List.not_mem_nil, or_false] at this
  rcases this with ⟨rfl, rfl⟩ | ⟨rfl, rfl⟩ | ⟨rfl, rfl⟩ | ⟨rfl, rfl⟩ | ⟨rfl, rfl⟩ | ⟨rfl, rfl⟩
  · exact ct_send_ok
  · exact ct_ack_ok
  · exact ct_resend_ok
  · exact ct_receive_ok
  · exact ct_arrive_ok
  · exact ct_without_ok
noncomputable def step_s1 (x : law48_Op) (w : law48_world) : Option (Int ⊕ law48_world) :=
  bif decide ((0 : Int) < (↑w.from_.length : Int)) then
    need (InR IntKind.u64 (↑w.from_.length : Int))
      (need ((↑w.from_.length : Int) ≠ (0 : Int)) (need (InR IntKind.i64 (x.N.tmod (↑w.from_.length : Int))) (some (Sum.inl (x.N.tmod (↑w.from_.length : Int))))))
  else some (Sum.inl (0 : Int))
noncomputable def step_s2 (x : law48_Op) (w : law48_world) (y1 : Int) (y2 : Int) : Option law48_world :=
  bif x.Kind == (0 : Int) then
    need (HdP w.a ∧ w.a.Wait.length ≤ (1000 : Nat))
      (bif (sendR w.a x.Data).snd.snd == (0 : Int) then
        need (roomP (w.to.length + (1 : Nat)) (32 : Nat))
          (need (roomP (w.sent.length + (1 : Nat)) (16 : Nat))
            (some (law48_world.mk (sendR w.a x.Data).fst w.b (w.to ++ [(sendR w.a x.Data).snd.fst]) w.from_ (w.sent ++ [x.Data]) w.got)))
      else some w)
  else
    bif x.Kind == (1 : Int) then
      need (HdP w.a ∧ AgP w.a ∧ w.a.Wait.length ≤ (1000 : Nat))
        (need (roomP (w.to.length + (resendR w.a).snd.length) (32 : Nat)) (some (law48_world.mk (resendR w.a).fst w.b (w.to ++ (resendR w.a).snd) w.from_ w.sent w.got)))
    else
      bif x.Kind == (2 : Int) then
        need (HdP w.b) (need (roomP (w.from_.length + (1 : Nat)) (32 : Nat)) (some (law48_world.mk w.a (ackR w.b).fst w.to (w.from_ ++ [(ackR w.b).snd]) w.sent w.got)))
      else
        bif x.Kind == (3 : Int) then
          bif decide ((0 : Int) < (↑w.to.length : Int)) then
            need ((0 : Int) ≤ y1 ∧ y1 < (↑w.to.length : Int))
              (need (y1.toNat < w.to.length)
                (need (HdP w.b ∧ w.b.Wait.length ≤ (1000 : Nat) ∧ w.b.Early.length ≤ (1000 : Nat) ∧ w.got.length ≤ (1000000 : Nat))
                  (need ((0 : Int) ≤ y1 ∧ y1 < (↑(arriveR w (w.to.getD y1.toNat d_Packet)).to.length : Int) ∧ (arriveR w (w.to.getD y1.toNat d_Packet)).to.length ≤ (1000000 : Nat))
                    (some
                      (law48_world.mk (arriveR w (w.to.getD y1.toNat d_Packet)).a (arriveR w (w.to.getD y1.toNat d_Packet)).b
                        (List.take y1.toNat (arriveR w (w.to.getD y1.toNat d_Packet)).to ++ List.drop (y1.toNat + (1 : Nat)) (arriveR w (w.to.getD y1.toNat d_Packet)).to)
                        (arriveR w (w.to.getD y1.toNat d_Packet)).from_ (arriveR w (w.to.getD y1.toNat d_Packet)).sent (arriveR w (w.to.getD y1.toNat d_Packet)).got)))))
          else
            bif x.Kind == (4 : Int) then
              bif decide ((0 : Int) < (↑w.to.length : Int)) then
                need ((0 : Int) ≤ y1 ∧ y1 < (↑w.to.length : Int) ∧ w.to.length ≤ (1000000 : Nat))
                  (some (law48_world.mk w.a w.b (List.take y1.toNat w.to ++ List.drop (y1.toNat + (1 : Nat)) w.to) w.from_ w.sent w.got))
              else
                bif x.Kind == (5 : Int) then
                  bif decide ((0 : Int) < (↑w.to.length : Int)) then
                    need ((0 : Int) ≤ y1 ∧ y1 < (↑w.to.length : Int))
                      (need (y1.toNat < w.to.length)
                        (need (roomP (w.to.length + (1 : Nat)) (32 : Nat)) (some (law48_world.mk w.a w.b (w.to ++ [w.to.getD y1.toNat d_Packet]) w.from_ w.sent w.got))))
                  else
                    bif x.Kind == (6 : Int) then
                      bif decide ((0 : Int) < (↑w.from_.length : Int)) then
                        need ((0 : Int) ≤ y2 ∧ y2 < (↑w.from_.length : Int))
                          (need (y2.toNat < w.from_.length)
                            (need (HdP w.a ∧ w.a.Wait.length ≤ (1000 : Nat) ∧ w.a.Early.length ≤ (1000 : Nat))
                              (need ((0 : Int) ≤ y2 ∧ y2 < (↑w.from_.length : Int) ∧ w.from_.length ≤ (1000000 : Nat))
                                (some
                                  (law48_world.mk (recR w.a (w.from_.getD y2.toNat d_Packet)).fst w.b w.to (List.take y2.toNat w.from_ ++ List.drop (y2.toNat + (1 : Nat)) w.from_)
                                    w.sent w.got)))))
                      else
                        bif x.Kind == (7 : Int) then
                          bif decide ((0 : Int) < (↑w.from_.length : Int)) then
                            need ((0 : Int) ≤ y2 ∧ y2 < (↑w.from_.length : Int) ∧ w.from_.length ≤ (1000000 : Nat))
                              (some (law48_world.mk w.a w.b w.to (List.take y2.toNat w.from_ ++ List.drop (y2.toNat + (1 : Nat)) w.from_) w.sent w.got))
                          else some w
                        else some w
                    else
                      bif x.Kind == (7 : Int) then
                        bif decide ((0 : Int) < (↑w.from_.length : Int)) then
                          need ((0 : Int) ≤ y2 ∧ y2 < (↑w.from_.length : Int) ∧ w.from_.length ≤ (1000000 : Nat))
                            (some (law48_world.mk w.a w.b w.to (List.take y2.toNat w.from_ ++ List.drop (y2.toNat + (1 : Nat)) w.from_) w.sent w.got))
                        else some w
                      else some w
                else
                  bif x.Kind == (6 : Int) then
                    bif decide ((0 : Int) < (↑w.from_.length : Int)) then
                      need ((0 : Int) ≤ y2 ∧ y2 < (↑w.from_.length : Int))
                        (need (y2.toNat < w.from_.length)
                          (need (HdP w.a ∧ w.a.Wait.length ≤ (1000 : Nat) ∧ w.a.Early.length ≤ (1000 : Nat))
                            (need ((0 : Int) ≤ y2 ∧ y2 < (↑w.from_.length : Int) ∧ w.from_.length ≤ (1000000 : Nat))
                              (some
                                (law48_world.mk (recR w.a (w.from_.getD y2.toNat d_Packet)).fst w.b w.to (List.take y2.toNat w.from_ ++ List.drop (y2.toNat + (1 : Nat)) w.from_)
                                  w.sent w.got)))))
                    else
                      bif x.Kind == (7 : Int) then
                        bif decide ((0 : Int) < (↑w.from_.length : Int)) then
                          need ((0 : Int) ≤ y2 ∧ y2 < (↑w.from_.length : Int) ∧ w.from_.length ≤ (1000000 : Nat))
                            (some (law48_world.mk w.a w.b w.to (List.take y2.toNat w.from_ ++ List.drop (y2.toNat + (1 : Nat)) w.from_) w.sent w.got))
                        else some w
                      else some w
                  else
                    bif x.Kind == (7 : Int) then
                      bif decide ((0 : Int) < (↑w.from_.length : Int)) then
                        need ((0 : Int) ≤ y2 ∧ y2 < (↑w.from_.length : Int) ∧ w.from_.length ≤ (1000000 : Nat))
                          (some (law48_world.mk w.a w.b w.to (List.take y2.toNat w.from_ ++ List.drop (y2.toNat + (1 : Nat)) w.from_) w.sent w.got))
                      else some w
                    else some w
            else
              bif x.Kind == (5 : Int) then
                bif decide ((0 : Int) < (↑w.to.length : Int)) then
                  need ((0 : Int) ≤ y1 ∧ y1 < (↑w.to.length : Int))
                    (need (y1.toNat < w.to.length)
                      (need (roomP (w.to.length + (1 : Nat)) (32 : Nat)) (some (law48_world.mk w.a w.b (w.to ++ [w.to.getD y1.toNat d_Packet]) w.from_ w.sent w.got))))
                else
                  bif x.Kind == (6 : Int) then
                    bif decide ((0 : Int) < (↑w.from_.length : Int)) then
                      need ((0 : Int) ≤ y2 ∧ y2 < (↑w.from_.length : Int))
                        (need (y2.toNat < w.from_.length)
                          (need (HdP w.a ∧ w.a.Wait.length ≤ (1000 : Nat) ∧ w.a.Early.length ≤ (1000 : Nat))
                            (need ((0 : Int) ≤ y2 ∧ y2 < (↑w.from_.length : Int) ∧ w.from_.length ≤ (1000000 : Nat))
                              (some
                                (law48_world.mk (recR w.a (w.from_.getD y2.toNat d_Packet)).fst w.b w.to (List.take y2.toNat w.from_ ++ List.drop (y2.toNat + (1 : Nat)) w.from_)
                                  w.sent w.got)))))
                    else
                      bif x.Kind == (7 : Int) then
                        bif decide ((0 : Int) < (↑w.from_.length : Int)) then
                          need ((0 : Int) ≤ y2 ∧ y2 < (↑w.from_.length : Int) ∧ w.from_.length ≤ (1000000 : Nat))
                            (some (law48_world.mk w.a w.b w.to (List.take y2.toNat w.from_ ++ List.drop (y2.toNat + (1 : Nat)) w.from_) w.sent w.got))
                        else some w
                      else some w
                  else
                    bif x.Kind == (7 : Int) then
                      bif decide ((0 : Int) < (↑w.from_.length : Int)) then
                        need ((0 : Int) ≤ y2 ∧ y2 < (↑w.from_.length : Int) ∧ w.from_.length ≤ (1000000 : Nat))
                          (some (law48_world.mk w.a w.b w.to (List.take y2.toNat w.from_ ++ List.drop (y2.toNat + (1 : Nat)) w.from_) w.sent w.got))
                      else some w
                    else some w
              else
                bif x.Kind == (6 : Int) then
                  bif decide ((0 : Int) < (↑w.from_.length : Int)) then
                    need ((0 : Int) ≤ y2 ∧ y2 < (↑w.from_.length : Int))
                      (need (y2.toNat < w.from_.length)
                        (need (HdP w.a ∧ w.a.Wait.length ≤ (1000 : Nat) ∧ w.a.Early.length ≤ (1000 : Nat))
                          (need ((0 : Int) ≤ y2 ∧ y2 < (↑w.from_.length : Int) ∧ w.from_.length ≤ (1000000 : Nat))
                            (some
                              (law48_world.mk (recR w.a (w.from_.getD y2.toNat d_Packet)).fst w.b w.to (List.take y2.toNat w.from_ ++ List.drop (y2.toNat + (1 : Nat)) w.from_) w.sent
                                w.got)))))
                  else
                    bif x.Kind == (7 : Int) then
                      bif decide ((0 : Int) < (↑w.from_.length : Int)) then
                        need ((0 : Int) ≤ y2 ∧ y2 < (↑w.from_.length : Int) ∧ w.from_.length ≤ (1000000 : Nat))
                          (some (law48_world.mk w.a w.b w.to (List.take y2.toNat w.from_ ++ List.drop (y2.toNat + (1 : Nat)) w.from_) w.sent w.got))
                      else some w
                    else some w
                else
                  bif x.Kind == (7 : Int) then
                    bif decide ((0 : Int) < (↑w.from_.length : Int)) then
                      need ((0 : Int) ≤ y2 ∧ y2 < (↑w.from_.length : Int) ∧ w.from_.length ≤ (1000000 : Nat))
                        (some (law48_world.mk w.a w.b w.to (List.take y2.toNat w.from_ ++ List.drop (y2.toNat + (1 : Nat)) w.from_) w.sent w.got))
                    else some w
                  else some w
        else
          bif x.Kind == (4 : Int) then
            bif decide ((0 : Int) < (↑w.to.length : Int)) then
              need ((0 : Int) ≤ y1 ∧ y1 < (↑w.to.length : Int) ∧ w.to.length ≤ (1000000 : Nat))
                (some (law48_world.mk w.a w.b (List.take y1.toNat w.to ++ List.drop (y1.toNat + (1 : Nat)) w.to) w.from_ w.sent w.got))
            else
              bif x.Kind == (5 : Int) then
                bif decide ((0 : Int) < (↑w.to.length : Int)) then
                  need ((0 : Int) ≤ y1 ∧ y1 < (↑w.to.length : Int))
                    (need (y1.toNat < w.to.length)
                      (need (roomP (w.to.length + (1 : Nat)) (32 : Nat)) (some (law48_world.mk w.a w.b (w.to ++ [w.to.getD y1.toNat d_Packet]) w.from_ w.sent w.got))))
                else
                  bif x.Kind == (6 : Int) then
                    bif decide ((0 : Int) < (↑w.from_.length : Int)) then
                      need ((0 : Int) ≤ y2 ∧ y2 < (↑w.from_.length : Int))
                        (need (y2.toNat < w.from_.length)
                          (need (HdP w.a ∧ w.a.Wait.length ≤ (1000 : Nat) ∧ w.a.Early.length ≤ (1000 : Nat))
                            (need ((0 : Int) ≤ y2 ∧ y2 < (↑w.from_.length : Int) ∧ w.from_.length ≤ (1000000 : Nat))
                              (some
                                (law48_world.mk (recR w.a (w.from_.getD y2.toNat d_Packet)).fst w.b w.to (List.take y2.toNat w.from_ ++ List.drop (y2.toNat + (1 : Nat)) w.from_)
                                  w.sent w.got)))))
                    else
                      bif x.Kind == (7 : Int) then
                        bif decide ((0 : Int) < (↑w.from_.length : Int)) then
                          need ((0 : Int) ≤ y2 ∧ y2 < (↑w.from_.length : Int) ∧ w.from_.length ≤ (1000000 : Nat))
                            (some (law48_world.mk w.a w.b w.to (List.take y2.toNat w.from_ ++ List.drop (y2.toNat + (1 : Nat)) w.from_) w.sent w.got))
                        else some w
                      else some w
                  else
                    bif x.Kind == (7 : Int) then
                      bif decide ((0 : Int) < (↑w.from_.length : Int)) then
                        need ((0 : Int) ≤ y2 ∧ y2 < (↑w.from_.length : Int) ∧ w.from_.length ≤ (1000000 : Nat))
                          (some (law48_world.mk w.a w.b w.to (List.take y2.toNat w.from_ ++ List.drop (y2.toNat + (1 : Nat)) w.from_) w.sent w.got))
                      else some w
                    else some w
              else
                bif x.Kind == (6 : Int) then
                  bif decide ((0 : Int) < (↑w.from_.length : Int)) then
                    need ((0 : Int) ≤ y2 ∧ y2 < (↑w.from_.length : Int))
                      (need (y2.toNat < w.from_.length)
                        (need (HdP w.a ∧ w.a.Wait.length ≤ (1000 : Nat) ∧ w.a.Early.length ≤ (1000 : Nat))
                          (need ((0 : Int) ≤ y2 ∧ y2 < (↑w.from_.length : Int) ∧ w.from_.length ≤ (1000000 : Nat))
                            (some
                              (law48_world.mk (recR w.a (w.from_.getD y2.toNat d_Packet)).fst w.b w.to (List.take y2.toNat w.from_ ++ List.drop (y2.toNat + (1 : Nat)) w.from_) w.sent
                                w.got)))))
                  else
                    bif x.Kind == (7 : Int) then
                      bif decide ((0 : Int) < (↑w.from_.length : Int)) then
                        need ((0 : Int) ≤ y2 ∧ y2 < (↑w.from_.length : Int) ∧ w.from_.length ≤ (1000000 : Nat))
                          (some (law48_world.mk w.a w.b w.to (List.take y2.toNat w.from_ ++ List.drop (y2.toNat + (1 : Nat)) w.from_) w.sent w.got))
                      else some w
                    else some w
                else
                  bif x.Kind == (7 : Int) then
                    bif decide ((0 : Int) < (↑w.from_.length : Int)) then
                      need ((0 : Int) ≤ y2 ∧ y2 < (↑w.from_.length : Int) ∧ w.from_.length ≤ (1000000 : Nat))
                        (some (law48_world.mk w.a w.b w.to (List.take y2.toNat w.from_ ++ List.drop (y2.toNat + (1 : Nat)) w.from_) w.sent w.got))
                    else some w
                  else some w
          else
            bif x.Kind == (5 : Int) then
              bif decide ((0 : Int) < (↑w.to.length : Int)) then
                need ((0 : Int) ≤ y1 ∧ y1 < (↑w.to.length : Int))
                  (need (y1.toNat < w.to.length)
                    (need (roomP (w.to.length + (1 : Nat)) (32 : Nat)) (some (law48_world.mk w.a w.b (w.to ++ [w.to.getD y1.toNat d_Packet]) w.from_ w.sent w.got))))
              else
                bif x.Kind == (6 : Int) then
                  bif decide ((0 : Int) < (↑w.from_.length : Int)) then
                    need ((0 : Int) ≤ y2 ∧ y2 < (↑w.from_.length : Int))
                      (need (y2.toNat < w.from_.length)
                        (need (HdP w.a ∧ w.a.Wait.length ≤ (1000 : Nat) ∧ w.a.Early.length ≤ (1000 : Nat))
                          (need ((0 : Int) ≤ y2 ∧ y2 < (↑w.from_.length : Int) ∧ w.from_.length ≤ (1000000 : Nat))
                            (some
                              (law48_world.mk (recR w.a (w.from_.getD y2.toNat d_Packet)).fst w.b w.to (List.take y2.toNat w.from_ ++ List.drop (y2.toNat + (1 : Nat)) w.from_) w.sent
                                w.got)))))
                  else
                    bif x.Kind == (7 : Int) then
                      bif decide ((0 : Int) < (↑w.from_.length : Int)) then
                        need ((0 : Int) ≤ y2 ∧ y2 < (↑w.from_.length : Int) ∧ w.from_.length ≤ (1000000 : Nat))
                          (some (law48_world.mk w.a w.b w.to (List.take y2.toNat w.from_ ++ List.drop (y2.toNat + (1 : Nat)) w.from_) w.sent w.got))
                      else some w
                    else some w
                else
                  bif x.Kind == (7 : Int) then
                    bif decide ((0 : Int) < (↑w.from_.length : Int)) then
                      need ((0 : Int) ≤ y2 ∧ y2 < (↑w.from_.length : Int) ∧ w.from_.length ≤ (1000000 : Nat))
                        (some (law48_world.mk w.a w.b w.to (List.take y2.toNat w.from_ ++ List.drop (y2.toNat + (1 : Nat)) w.from_) w.sent w.got))
                    else some w
                  else some w
            else
              bif x.Kind == (6 : Int) then
                bif decide ((0 : Int) < (↑w.from_.length : Int)) then
                  need ((0 : Int) ≤ y2 ∧ y2 < (↑w.from_.length : Int))
                    (need (y2.toNat < w.from_.length)
                      (need (HdP w.a ∧ w.a.Wait.length ≤ (1000 : Nat) ∧ w.a.Early.length ≤ (1000 : Nat))
                        (need ((0 : Int) ≤ y2 ∧ y2 < (↑w.from_.length : Int) ∧ w.from_.length ≤ (1000000 : Nat))
                          (some
                            (law48_world.mk (recR w.a (w.from_.getD y2.toNat d_Packet)).fst w.b w.to (List.take y2.toNat w.from_ ++ List.drop (y2.toNat + (1 : Nat)) w.from_) w.sent
                              w.got)))))
                else
                  bif x.Kind == (7 : Int) then
                    bif decide ((0 : Int) < (↑w.from_.length : Int)) then
                      need ((0 : Int) ≤ y2 ∧ y2 < (↑w.from_.length : Int) ∧ w.from_.length ≤ (1000000 : Nat))
                        (some (law48_world.mk w.a w.b w.to (List.take y2.toNat w.from_ ++ List.drop (y2.toNat + (1 : Nat)) w.from_) w.sent w.got))
                    else some w
                  else some w
              else
                bif x.Kind == (7 : Int) then
                  bif decide ((0 : Int) < (↑w.from_.length : Int)) then
                    need ((0 : Int) ≤ y2 ∧ y2 < (↑w.from_.length : Int) ∧ w.from_.length ≤ (1000000 : Nat))
                      (some (law48_world.mk w.a w.b w.to (List.take y2.toNat w.from_ ++ List.drop (y2.toNat + (1 : Nat)) w.from_) w.sent w.got))
                  else some w
                else some w
noncomputable def step_s3 (x : law48_Op) (w : law48_world) : Option (Int ⊕ law48_world) :=
  bif decide ((0 : Int) < (↑w.to.length : Int)) then
    need (InR IntKind.u64 (↑w.to.length : Int))
      (need ((↑w.to.length : Int) ≠ (0 : Int)) (need (InR IntKind.i64 (x.N.tmod (↑w.to.length : Int))) (some (Sum.inl (x.N.tmod (↑w.to.length : Int))))))
  else some (Sum.inl (0 : Int))
noncomputable def step_s4 (x : law48_Op) (w : law48_world) (y1 : Int) : Option law48_world :=
  bindS (step_s1 x w) (step_s2 x w y1)
noncomputable def step (x : law48_Op) (w : law48_world) : Option law48_world :=
  bindS (step_s3 x w) (step_s4 x w)
theorem step_run (x : law48_Op) (w : law48_world) : step x w = (evC T S g_step 280 j_step (Try.f41.body.getD .skip) rs_step.X (St.init (as_step.enc (((), x), (w))).1 (as_step.enc (((), x), (w))).2) (retL T S Try.f41.results.toList rs_step 5 [])).run := by kernel_rfl

noncomputable def ct_step : Ct D := ctN as_step rs_step 0 [] (fun a => some (step a.1.2 a.2 ≠ none)) (fun a => (step a.1.2 a.2).getD (d_law48_world))
theorem ct_step_ok : CtOk Try.prog S 41 ct_step :=
  fn_okN mixed T_ok g_step_ok S_ok j_step_ok Try.func41 rfl (by kernel_rfl) Try.ntmps41 rfl (by kernel_rfl) as_step_ok rs_step_ok (fun a => some (step a.1.2 a.2 ≠ none)) (fun a => (step a.1.2 a.2).getD (d_law48_world))
    (fun a h => (step_run (a.1.2) (a.2)).symm.trans (get_of h))


theorem brief_len (ops : List law48_Op) (h : (brief ops).getD false = true) : ops.length ≤ 60 := by
  unfold brief at h
  by_cases c : (60 : Int) < (ops.length : Int)
  · simp only [c, decide_true, cond_true] at h
    cases h
  · omega
theorem brief_some (ops : List law48_Op) : brief ops ≠ none := by
  unfold brief
  by_cases c : (60 : Int) < (ops.length : Int)
  · simp only [c, decide_true, cond_true]
    exact fun h => by cases h
  · simp only [c, decide_false, cond_false]
    have h1 : ∀ k : Nat, k < ops.length → brief_s1 ops k = some (.inl ((k : Int) + 1)) ∨ ∃ r, brief_s1 ops k = some (.inr r) := by
      intro k hk
      have h1 : (k : Int) < (ops.length : Int) := by omega
      have h0 : (0 : Int) ≤ (k : Int) := by omega
      have r1 : InR .i64 ((k : Int) + 1) := by simp only [InR]; omega
      unfold brief_s1
      simp only [h1, h0, r1, and_self, need_true, decide_true, cond_true]
      cases decide ((200 : Int) < (((ops.getD (k : Int).toNat d_law48_Op).Data.length : Nat) : Int))
      · exact .inl rfl
      · exact .inr ⟨false, rfl⟩
    have h2 : brief_s1 ops ops.length = some (.inr true) := by
      unfold brief_s1
      have h1 : ¬ (ops.length : Int) < (ops.length : Int) := by omega
      simp only [h1, decide_false, cond_false]
    rw [loop_res h1 h2]
    exact fun h => by cases h


noncomputable def ct_brief : Ct D := ctN as_brief rs_brief 1 [] (fun a => some (brief a ≠ none)) (fun a => (brief a).getD (false))
theorem ct_brief_ok : CtOk Try.prog S 28 ct_brief :=
  fn_okN mixed T_ok g_brief_ok S_ok j_brief_ok Try.func28 rfl (by kernel_rfl) Try.ntmps28 rfl (by kernel_rfl) as_brief_ok rs_brief_ok (fun a => some (brief a ≠ none)) (fun a => (brief a).getD (false))
    (fun a h => (brief_run (a)).symm.trans (get_of h))
end Go.Proofs.Ytjmolijohilahaa
