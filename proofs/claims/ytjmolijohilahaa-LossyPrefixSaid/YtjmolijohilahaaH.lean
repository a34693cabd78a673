/-
  Lossy: runs of two ends.
-/
import Derived.Test.YtjmolijohilahaaG
namespace Go.Proofs.Ytjmolijohilahaa
open Go.RowKit Go.Vc
set_option linter.unusedVariables false
set_option linter.unusedSimpArgs false
set_option maxRecDepth 100000

def as_run : ArgShp D := args (a1 (aLf cd_Llaw48_Op))
theorem as_run_ok : ArgOk S as_run 0 30 := args_ok (a1_ok (aLf_ok cd_Llaw48_Op_ok)) rfl
def rs_run : Shp D := shr [.slot 0 true [none, none, none, none, none, none, none, none, none, none, none, none, some 30, some 30, some 9, some 9], .slot 1 false [none]] (lCons cd_law48_world (l1 cBool))
theorem rs_run_ok : ShpOk S rs_run := shr_ok (lCons_ok cd_law48_world_ok (l1_ok cBool_ok))
def jt_run : List (Nat × Shp D) := [(3, shp (fun sl => [.slot 5 false [none], .cells (pid (sl 4)) [none, none, none, none, none, none, none, none, none, none, none, none, some 30, some 30, some 9, some 9]]) (lCons (cInt .i64) (l1 cd_law48_world)))]
def j_run : Nat → Option (Shp D) := lk jt_run
theorem j_run_ok : ∀ i sh, j_run i = some sh → ShpOk S sh := by
  intro i sh h
  have := lk_mem h
  simp only [jt_run, List.mem_cons, Prod.mk.injEq, List.not_mem_nil, or_false] at this
  rcases this with ⟨_, rfl⟩
  · exact shp_ok (lCons_ok (cInt_ok _) (l1_ok cd_law48_world_ok))
noncomputable def gt_run : List (Nat × Ct D) := [(16, ct_newL), (31, ct_isPre), (41, ct_step)]
noncomputable def g_run : FuncId → Option (Ct D) := lk gt_run
theorem g_run_ok : ∀ f ct, g_run f = some ct → CtOk Try.prog S f ct := by
  intro f ct h
  have := lk_mem h
  simp only [gt_run, List.mem_cons, Prod.mk.injEq, List.not_mem_nil, or_false] at this
  rcases this with ⟨rfl, rfl⟩ | ⟨rfl, rfl⟩ | ⟨rfl, rfl⟩
  · exact ct_newL_ok
  · exact ct_isPre_ok
  · exact ct_step_ok
noncomputable def run_s1 (ops : List law48_Op) (x1 : Int × law48_world) : Option (Int × law48_world ⊕ law48_world × Bool) :=
  bif decide (x1.fst < (↑ops.length : Int)) then
    need ((0 : Int) ≤ x1.fst ∧ x1.fst < (↑ops.length : Int))
      (need (step (ops.getD x1.fst.toNat d_law48_Op) x1.snd ≠ none)
        (bif decide ((5000 : Int) < (↑((step (ops.getD x1.fst.toNat d_law48_Op) x1.snd).getD d_law48_world).to.length : Int)) then
          some (Sum.inr ((step (ops.getD x1.fst.toNat d_law48_Op) x1.snd).getD d_law48_world, false))
        else
          need (PreW ((step (ops.getD x1.fst.toNat d_law48_Op) x1.snd).getD d_law48_world))
            (bif !true then some (Sum.inr ((step (ops.getD x1.fst.toNat d_law48_Op) x1.snd).getD d_law48_world, false))
            else need (InR IntKind.i64 (x1.fst + (1 : Int))) (some (Sum.inl (x1.fst + (1 : Int), (step (ops.getD x1.fst.toNat d_law48_Op) x1.snd).getD d_law48_world))))))
  else some (Sum.inr (x1.snd, true))
noncomputable def run (ops : List law48_Op) : Option (law48_world × Bool) :=
  loopU (run_s1 ops) ((0 : Int), law48_world.mk (Link.mk (1 : Int) [] (1 : Int) [] (0 : Int) false) (Link.mk (1 : Int) [] (1 : Int) [] (0 : Int) false) [] [] [] [])
theorem run_run (ops : List law48_Op) : run ops = (evC T S g_run 30 j_run (Try.f29.body.getD .skip) rs_run.X (St.init (as_run.enc (ops)).1 (as_run.enc (ops)).2) (retL T S Try.f29.results.toList rs_run 0 [])).run := by kernel_rfl

noncomputable def ct_run : Ct D := ctN as_run rs_run 2 [] (fun a => some (run a ≠ none)) (fun a => (run a).getD (d_law48_world, false))
theorem ct_run_ok : CtOk Try.prog S 29 ct_run :=
  fn_okN mixed T_ok g_run_ok S_ok j_run_ok Try.func29 rfl (by kernel_rfl) Try.ntmps29 rfl (by kernel_rfl) as_run_ok rs_run_ok (fun a => some (run a ≠ none)) (fun a => (run a).getD (d_law48_world, false))
    (fun a h => (run_run (a)).symm.trans (get_of h))

def as_lossyPrefix : ArgShp D := args (a1 (aLf cd_Llaw48_Op))
theorem as_lossyPrefix_ok : ArgOk S as_lossyPrefix 0 18 := args_ok (a1_ok (aLf_ok cd_Llaw48_Op_ok)) rfl
def rs_lossyPrefix : Shp D := shr [.slot 0 false [none]] (l1 cBool)
theorem rs_lossyPrefix_ok : ShpOk S rs_lossyPrefix := shr_ok (l1_ok cBool_ok)
def j_lossyPrefix : Nat → Option (Shp D) := fun _ => none
theorem j_lossyPrefix_ok : ∀ i sh, j_lossyPrefix i = some sh → ShpOk S sh := fun i sh h => by cases h
noncomputable def gt_lossyPrefix : List (Nat × Ct D) := [(10, ct_awake), (28, ct_brief), (29, ct_run)]
noncomputable def g_lossyPrefix : FuncId → Option (Ct D) := lk gt_lossyPrefix
theorem g_lossyPrefix_ok : ∀ f ct, g_lossyPrefix f = some ct → CtOk Try.prog S f ct := by
  intro f ct h
  have := lk_mem h
  simp only [gt_lossyPrefix, List.mem_cons, Prod.mk.injEq, List.not_mem_nil, or_false] at this
  rcases this with ⟨rfl, rfl⟩ | ⟨rfl, rfl⟩ | ⟨rfl, rfl⟩
  · exact ct_awake_ok
  · exact ct_brief_ok
  · exact ct_run_ok
noncomputable def lossyPrefix (ops : List law48_Op) : Option Bool :=
  need (brief ops ≠ none) (bif !(brief ops).getD false then some true else need (run ops ≠ none) (bif ((run ops).getD (d_law48_world, false)).snd then some true else some false))
theorem lossyPrefix_run (ops : List law48_Op) : lossyPrefix ops = (evC T S g_lossyPrefix 18 j_lossyPrefix (Try.f7.body.getD .skip) rs_lossyPrefix.X (St.init (as_lossyPrefix.enc (ops)).1 (as_lossyPrefix.enc (ops)).2) (retL T S Try.f7.results.toList rs_lossyPrefix 0 [])).run := by kernel_rfl

def as_lossySettles : ArgShp D := args (a1 (aLf cd_Llaw48_Op))
theorem as_lossySettles_ok : ArgOk S as_lossySettles 0 80 := args_ok (a1_ok (aLf_ok cd_Llaw48_Op_ok)) rfl
def rs_lossySettles : Shp D := shr [.slot 0 false [none]] (l1 cBool)
theorem rs_lossySettles_ok : ShpOk S rs_lossySettles := shr_ok (l1_ok cBool_ok)
def jt_lossySettles : List (Nat × Shp D) := [(11, shp (fun sl => [.slot 7 false [none], .cells (pid (sl 3)) [none, none, none, none, none, none, none, none, none, none, none, none, some 30, some 30, some 9, some 9]]) (lCons (cInt .i64) (l1 cd_law48_world))), (100014, shp (fun sl => [.cells (pid (sl 3)) [none, none, none, none, none, none, none, none, none, none, none, none, some 30, some 30, some 9, some 9]]) (l1 cd_law48_world))]
def j_lossySettles : Nat → Option (Shp D) := lk jt_lossySettles
theorem j_lossySettles_ok : ∀ i sh, j_lossySettles i = some sh → ShpOk S sh := by
  intro i sh h
  have := lk_mem h
  simp only [jt_lossySettles, List.mem_cons, Prod.mk.injEq, List.not_mem_nil, or_false] at this
  rcases this with ⟨_, rfl⟩ | ⟨_, rfl⟩
  · exact shp_ok (lCons_ok (cInt_ok _) (l1_ok cd_law48_world_ok))
  · exact shp_ok (l1_ok cd_law48_world_ok)
noncomputable def gt_lossySettles : List (Nat × Ct D) := [(10, ct_awake), (13, ct_quiet), (20, ct_ack), (22, ct_resend), (25, ct_receive), (28, ct_brief), (29, ct_run), (30, ct_arrive), (31, ct_isPre)]
noncomputable def g_lossySettles : FuncId → Option (Ct D) := lk gt_lossySettles
theorem g_lossySettles_ok : ∀ f ct, g_lossySettles f = some ct → CtOk Try.prog S f ct := by
  intro f ct h
  have := lk_mem h
  simp only [gt_lossySettles, List.mem_cons, Prod.mk.injEq, List.not_mem_nil, or_false] at this
  rcases this with ⟨rfl, rfl⟩ | ⟨rfl, rfl⟩ | ⟨rfl, rfl⟩ | ⟨rfl, rfl⟩ | ⟨rfl, rfl⟩ | ⟨rfl, rfl⟩ | ⟨rfl, rfl⟩ | ⟨rfl, rfl⟩ | ⟨rfl, rfl⟩
  · exact ct_awake_ok
  · exact ct_quiet_ok
  · exact ct_ack_ok
  · exact ct_resend_ok
  · exact ct_receive_ok
  · exact ct_brief_ok
  · exact ct_run_ok
  · exact ct_arrive_ok
  · exact ct_isPre_ok
noncomputable def lossySettles_s1 (ops : List law48_Op) (x1 : Int × law48_world) : Option (Int × law48_world ⊕ law48_world ⊕ Bool) :=
  bif decide (x1.fst < (↑(resendR ((run ops).getD (d_law48_world, false)).fst.a).snd.length : Int)) then
    bif decide (x1.fst < (100 : Int)) then
      need ((0 : Int) ≤ x1.fst ∧ x1.fst < (↑(resendR ((run ops).getD (d_law48_world, false)).fst.a).snd.length : Int))
        (need (HdP x1.snd.b ∧ x1.snd.b.Wait.length ≤ (1000 : Nat) ∧ x1.snd.b.Early.length ≤ (1000 : Nat) ∧ x1.snd.got.length ≤ (1000000 : Nat))
          (need (InR IntKind.i64 (x1.fst + (1 : Int)))
            (some (Sum.inl (x1.fst + (1 : Int), arriveR x1.snd ((resendR ((run ops).getD (d_law48_world, false)).fst.a).snd.getD x1.fst.toNat d_Packet))))))
    else some (Sum.inr (Sum.inl x1.snd))
  else some (Sum.inr (Sum.inl x1.snd))
noncomputable def lossySettles_s2 (ops : List law48_Op) : Option (law48_world ⊕ Bool) :=
  loopU (lossySettles_s1 ops)
    ((0 : Int),
      law48_world.mk (resendR ((run ops).getD (d_law48_world, false)).fst.a).fst ((run ops).getD (d_law48_world, false)).fst.b [] [] ((run ops).getD (d_law48_world, false)).fst.sent
        ((run ops).getD (d_law48_world, false)).fst.got)
noncomputable def lossySettles_s3 (y2 : law48_world) : Option Bool :=
  need (HdP y2.b)
    (need (HdP y2.a ∧ y2.a.Wait.length ≤ (1000 : Nat) ∧ y2.a.Early.length ≤ (1000 : Nat))
      (need (PreW y2)
        (bif true then
          bif (↑y2.got.length : Int) == (↑y2.sent.length : Int) then
            bif quietB (recR y2.a (ackR y2.b).snd).fst then bif quietB (ackR y2.b).fst then some true else some false else some false
          else some false
        else some false)))
noncomputable def lossySettles (ops : List law48_Op) : Option Bool :=
  need (brief ops ≠ none)
    (bif !(brief ops).getD false then some true
    else
      need (run ops ≠ none)
        (bif !((run ops).getD (d_law48_world, false)).snd then some false
        else
          need
            (HdP ((run ops).getD (d_law48_world, false)).fst.a ∧
              AgP ((run ops).getD (d_law48_world, false)).fst.a ∧ ((run ops).getD (d_law48_world, false)).fst.a.Wait.length ≤ (1000 : Nat))
            (bindS (lossySettles_s2 ops) lossySettles_s3)))
theorem lossySettles_run (ops : List law48_Op) : lossySettles ops = (evC T S g_lossySettles 80 j_lossySettles (Try.f8.body.getD .skip) rs_lossySettles.X (St.init (as_lossySettles.enc (ops)).1 (as_lossySettles.enc (ops)).2) (retL T S Try.f8.results.toList rs_lossySettles 0 [])).run := by kernel_rfl


/-! what was sent under a number -/
def TrP (sent : List Str) (p : Packet) : Prop := 1 ≤ p.Seq ∧ p.Seq ≤ sent.length ∧ p.Data = sent.getD (p.Seq - 1).toNat []
theorem TrP.more {sent : List Str} {p : Packet} (h : TrP sent p) (d : Str) : TrP (sent ++ [d]) p := by
  obtain ⟨h1, h2, h3⟩ := h
  refine ⟨h1, by simp only [List.length_append, List.length_singleton]; omega, ?_⟩
  rw [h3]
  generalize hk : (p.Seq - 1).toNat = k
  have : k < sent.length := by omega
  simp [List.getD, List.getElem?_append_left this]
theorem delGo_tr (sent got : List Str) : ∀ (r : List Packet) (e : Int) (o : List Str), (∀ p ∈ r, TrP sent p) → 1 ≤ e → e ≤ sent.length + 1 → got ++ o = sent.take (e - 1).toNat →
    (delGo r e o).2.2 ≤ sent.length + 1 ∧ got ++ (delGo r e o).1 = sent.take ((delGo r e o).2.2 - 1).toNat ∧ (∀ p ∈ (delGo r e o).2.1, TrP sent p)
  | [], e, o, h, h1, h2, h3 => by
    unfold delGo
    exact ⟨h2, h3, h⟩
  | p :: r, e, o, h, h1, h2, h3 => by
    unfold delGo
    split
    · rename_i c
      obtain ⟨q1, q2, q3⟩ := h p (List.mem_cons_self ..)
      have hk : (e - 1).toNat < sent.length := by omega
      refine delGo_tr sent got r (e + 1) (o ++ [p.Data]) (fun q hq => h q (List.mem_cons_of_mem _ hq)) (by omega) (by omega) ?_
      rw [← List.append_assoc, h3, q3, show (p.Seq - 1).toNat = (e - 1).toNat by omega, take_snoc _ _ _ hk]
      congr 1
      omega
    · exact ⟨h2, h3, h⟩
/-! what an arrival does -/
structure BInv (sent got : List Str) (b : Link) : Prop where
  v : ValL b
  w : b.Wait = []
  te : ∀ p ∈ b.Early, TrP sent p
  be : b.Expect ≤ sent.length + 1
  go : got = sent.take (b.Expect - 1).toNat
theorem rec_inv {sent got : List Str} {b : Link} (B : BInv sent got b) (p : Packet) (hp : TrP sent p) : BInv sent (got ++ (recR b p).2) (recR b p).1 ∧ b.Expect ≤ (recR b p).1.Expect ∧ (dataB p.Data = true → p.Seq < 1099511627776 → p.Seq ≤ b.Expect → p.Seq < (recR b p).1.Expect) := by
  obtain ⟨a1, a2, a3, a4⟩ := B.v.hd
  have hv := val_rec p B.v
  have hw : ackedR b.Wait p.Ack = [] := by rw [B.w]; rfl
  obtain ⟨t1, t2, t3⟩ := hp
  unfold recR at hv ⊢
  split
  · rename_i c
    rw [if_pos c] at hv
    refine ⟨⟨hv, hw, B.te, B.be, by rw [List.append_nil]; exact B.go⟩, Int.le_refl _, fun h1 h2 h3 => ?_⟩
    exfalso
    rcases c with c | c | c | c
    · rw [h1] at c; cases c
    · omega
    · omega
    · omega
  rename_i c
  rw [if_neg c] at hv
  split
  · rename_i c2
    rw [if_pos c2] at hv
    have hs : [p.Data] = sent.drop b.Expect.toNat ∨ True := .inr trivial
    have hk : (b.Expect - 1).toNat < sent.length := by omega
    have key := delGo_tr sent got b.Early (b.Expect + 1) [p.Data] B.te (by omega) (by omega) (by
      rw [t3, B.go, show (p.Seq - 1).toNat = (b.Expect - 1).toNat by omega, take_snoc _ _ _ hk]
      congr 1
      omega)
    have key2 := delGo_val b.Early (b.Expect + 1) (b.Expect + 64) [p.Data] (fun q hq => ⟨by have := (B.v.e q hq).1; omega, (B.v.e q hq).2⟩) B.v.up (by
      have : ¬ 1099511627776 ≤ p.Seq := fun h => c (.inr (.inr (.inl h)))
      omega)
    unfold delR at hv ⊢
    dsimp only at hv ⊢
    exact ⟨⟨hv, hw, key.2.2, key.1, key.2.1⟩, by omega, fun _ _ _ => by omega⟩
  rename_i c2
  rw [if_neg c2] at hv
  split
  · rename_i c3
    rw [if_pos c3] at hv
    refine ⟨⟨hv, hw, fun q hq => ?_, B.be, by rw [List.append_nil]; exact B.go⟩, Int.le_refl _, fun _ _ _ => by omega⟩
    rcases keepR_mem hq with h | rfl
    · exact B.te q h
    · exact ⟨t1, t2, t3⟩
  · rename_i c3
    rw [if_neg c3] at hv
    exact ⟨⟨hv, hw, B.te, B.be, by rw [List.append_nil]; exact B.go⟩, Int.le_refl _, fun _ _ _ => by dsimp only; omega⟩
theorem BInv.more {sent got : List Str} {b : Link} (B : BInv sent got b) (d : Str) : BInv (sent ++ [d]) got b := by
  obtain ⟨a1, a2, a3, a4⟩ := B.v.hd
  have hb := B.be
  refine ⟨B.v, B.w, fun p hp => (B.te p hp).more d, by simp only [List.length_append, List.length_singleton]; omega, ?_⟩
  rw [List.take_append_of_le_length (by omega)]
  exact B.go
structure InvW (n : Nat) (w : law48_world) : Prop where
  va : ValL w.a
  bi : BInv w.sent w.got w.b
  nx : w.a.Next = w.sent.length + 1
  du : w.a.Due = false
  ls : w.sent.length ≤ n
  lt : w.to.length ≤ n * n
  lf : w.from_.length ≤ n
  tw : ∀ p ∈ w.a.Wait, TrP w.sent p
  tt : ∀ p ∈ w.to, TrP w.sent p
  tf : ∀ p ∈ w.from_, p.Data = [] ∧ p.Ack ≤ w.b.Expect - 1
  un : w.a.Next - w.a.Wait.length ≤ w.b.Expect
theorem ValL.wlen {l : Link} (V : ValL l) : (l.Wait.length : Int) ≤ l.Next - 1 := by
  by_cases c : l.Wait.length = 0
  · have := V.hd.1
    omega
  · have := V.w 0 (by omega)
    unfold WOk at this
    simp only [decide_eq_true_eq] at this
    omega
theorem InvW.pre {n : Nat} {w : law48_world} (I : InvW n w) (hn : n ≤ 60) : PreW w := by
  have h1 := I.bi.go
  have h2 := I.ls
  refine ⟨?_, by omega⟩
  have hl := congrArg List.length h1
  rw [List.length_take] at hl
  have := I.bi.be
  have := I.bi.v.hd.2.2.1
  rw [show w.got.length = (w.b.Expect - 1).toNat by omega]
  exact h1
theorem mem_cut {l : List Packet} {i : Nat} {p : Packet} (h : p ∈ l.take i ++ l.drop (i + 1)) : p ∈ l := by
  rcases List.mem_append.1 h with h | h
  · exact List.mem_of_mem_take h
  · exact List.mem_of_mem_drop h
theorem len_cut (l : List Packet) (i : Nat) : (l.take i ++ l.drop (i + 1)).length ≤ l.length := by
  rw [List.length_append, List.length_take, List.length_drop]
  omega
theorem sq_le {n : Nat} : n * n + n + 1 ≤ (n + 1) * (n + 1) := by
  rw [Nat.add_mul, Nat.mul_add, Nat.mul_one, Nat.one_mul]
  omega
theorem sq_60 {n : Nat} (h : n ≤ 60) : n * n ≤ 3600 := Nat.le_trans (Nat.mul_le_mul h h) (by decide)
theorem InvW.more {n : Nat} {w : law48_world} (I : InvW n w) : InvW (n + 1) w := by
  have := @sq_le n
  have := I.lt
  have := I.ls
  have := I.lf
  exact ⟨I.va, I.bi, I.nx, I.du, by omega, by omega, by omega, I.tw, I.tt, I.tf, I.un⟩
theorem resend_tr {sent : List Str} {l : Link} (h : ∀ p ∈ l.Wait, TrP sent p) : ∀ p ∈ (resendR l).2, TrP sent p := by
  intro p hp
  obtain ⟨q, hq, rfl⟩ := List.mem_map.1 hp
  exact h q hq
theorem acked_un {l : Link} (V : ValL l) (ack e : Int) (h : l.Next - l.Wait.length ≤ e) (ha : ack ≤ e - 1) : l.Next - (ackedR l.Wait ack).length ≤ e := by
  unfold ackedR
  have hle := cnt_le ack l.Wait
  rw [List.length_drop]
  by_cases c : cnt ack l.Wait = 0
  · omega
  · have h1 := cnt_lt ack l.Wait (cnt ack l.Wait - 1) (by omega)
    have h2 := V.w (cnt ack l.Wait - 1) (by omega)
    unfold WOk at h2
    simp only [decide_eq_true_eq] at h2
    omega
theorem arr_inv {n : Nat} {w : law48_world} (I : InvW n w) (p : Packet) (hp : TrP w.sent p) : InvW n (arriveR w p) := by
  obtain ⟨g1, g2, _⟩ := rec_inv I.bi p hp
  unfold arriveR
  refine ⟨I.va, g1, I.nx, I.du, I.ls, I.lt, I.lf, I.tw, I.tt, fun q hq => ⟨(I.tf q hq).1, ?_⟩, ?_⟩
  · have := (I.tf q hq).2
    dsimp only
    omega
  · have := I.un
    dsimp only
    omega
theorem InvW.arr {n : Nat} {w : law48_world} (I : InvW n w) (hn : n ≤ 60) : HdP w.b ∧ w.b.Wait.length ≤ 1000 ∧ w.b.Early.length ≤ 1000 ∧ w.got.length ≤ 1000000 := by
  have h1 := (valP_of' I.bi.v).le
  have h2 := congrArg List.length I.bi.go
  rw [List.length_take] at h2
  have := I.ls
  refine ⟨I.bi.v.hd, by rw [I.bi.w]; simp, by omega, by omega⟩
theorem step_idx (N : Int) (l : List Packet) (hN : 0 ≤ N) (hl : l.length ≤ 3600) : 0 < l.length → 0 ≤ N.tmod (l.length : Int) ∧ N.tmod (l.length : Int) < (l.length : Int) := by
  intro h
  have h1 := Int.tmod_nonneg (l.length : Int) hN
  have h2 := Int.tmod_lt_of_pos N (show (0 : Int) < (l.length : Int) by omega)
  exact ⟨h1, h2⟩
theorem step3 (x : law48_Op) (w : law48_world) (hN : 0 ≤ x.N) (hl : w.to.length ≤ 3600) : ∃ y, step_s3 x w = some (.inl y) ∧ (0 < w.to.length → 0 ≤ y ∧ y < w.to.length) := by
  unfold step_s3
  by_cases c : (0 : Int) < (w.to.length : Int)
  · have hi := step_idx x.N w.to hN hl (by omega)
    refine ⟨x.N.tmod (w.to.length : Int), ?_, fun _ => hi⟩
    rw [decide_eq_true c, cond_true, need_pos (by simp only [InR]; omega), need_pos (by omega), need_pos (by simp only [InR]; omega)]
  · exact ⟨0, by rw [decide_eq_false c]; rfl, fun h => by omega⟩
theorem step1 (x : law48_Op) (w : law48_world) (hN : 0 ≤ x.N) (hl : w.from_.length ≤ 3600) : ∃ y, step_s1 x w = some (.inl y) ∧ (0 < w.from_.length → 0 ≤ y ∧ y < w.from_.length) := by
  unfold step_s1
  by_cases c : (0 : Int) < (w.from_.length : Int)
  · have hi := step_idx x.N w.from_ hN hl (by omega)
    refine ⟨x.N.tmod (w.from_.length : Int), ?_, fun _ => hi⟩
    rw [decide_eq_true c, cond_true, need_pos (by simp only [InR]; omega), need_pos (by omega), need_pos (by simp only [InR]; omega)]
  · exact ⟨0, by rw [decide_eq_false c]; rfl, fun h => by omega⟩
theorem step_ok (n : Nat) (w : law48_world) (x : law48_Op) (hN : 0 ≤ x.N) (hn : n < 60) (I : InvW n w) : ∃ w', step x w = some w' ∧ InvW (n + 1) w' := by
  have hsq := sq_60 (show n ≤ 60 by omega)
  have hs2 := @sq_le n
  have hlt := I.lt
  have hls := I.ls
  have hlf := I.lf
  have hwl := I.va.wlen
  have hnx := I.nx
  obtain ⟨y1, e1, i1⟩ := step3 x w hN (by omega)
  obtain ⟨y2, e2, i2⟩ := step1 x w hN (by omega)
  have hda : HdP w.a := I.va.hd
  have hwa : w.a.Wait.length ≤ 1000 := by omega
  have hea : w.a.Early.length ≤ 1000 := by have := (valP_of' I.va).le; omega
  have es : step x w = step_s2 x w y1 y2 := by
    unfold step
    rw [e1]
    show step_s4 x w y1 = _
    unfold step_s4
    rw [e2]
    rfl
  rw [es]
  unfold step_s2
  by_cases k0 : x.Kind = 0
  · simp only [k0, Int.reduceBEq, cond_true, cond_false]
    rw [need_pos ⟨hda, hwa⟩]
    have hv := val_send x.Data I.va
    unfold sendR at hv ⊢
    split
    · exact ⟨w, rfl, I.more⟩
    rename_i c1
    rw [if_neg c1] at hv
    split
    · exact ⟨w, rfl, I.more⟩
    rename_i c2
    rw [if_neg c2] at hv
    simp only [BEq.rfl, cond_true]
    rw [need_pos (by unfold roomP; omega), need_pos (by unfold roomP; omega)]
    have htr : TrP (w.sent ++ [x.Data]) ⟨w.a.Next, w.a.Expect - 1, x.Data⟩ := by
      refine ⟨by dsimp only; omega, by simp only [List.length_append, List.length_singleton]; omega, ?_⟩
      dsimp only
      rw [show (w.a.Next - 1).toNat = w.sent.length by omega]
      simp [List.getD]
    refine ⟨_, rfl, hv, I.bi.more _, by simp only [List.length_append, List.length_singleton]; omega, I.du, by simp only [List.length_append, List.length_singleton]; omega, by simp only [List.length_append, List.length_singleton]; omega, by dsimp only; omega, fun p hp => ?_, fun p hp => ?_, I.tf, ?_⟩
    · rcases List.mem_append.1 hp with hp | hp
      · exact (I.tw p hp).more _
      · rw [List.mem_singleton.1 hp]; exact htr
    · rcases List.mem_append.1 hp with hp | hp
      · exact (I.tt p hp).more _
      · rw [List.mem_singleton.1 hp]; exact htr
    · have := I.un
      simp only [List.length_append, List.length_singleton]
      omega
  by_cases k1 : x.Kind = 1
  · simp only [k1, Int.reduceBEq, cond_true, cond_false]
    have hrl : (resendR w.a).2.length = w.a.Wait.length := List.length_map _
    rw [need_pos ⟨hda, I.va.ag, hwa⟩, need_pos (by unfold roomP; rw [hrl]; omega)]
    refine ⟨_, rfl, val_resend I.va, I.bi, I.nx, I.du, by dsimp only; omega, by simp only [List.length_append, hrl]; omega, by dsimp only; omega, I.tw, fun p hp => ?_, I.tf, I.un⟩
    rcases List.mem_append.1 hp with hp | hp
    · exact I.tt p hp
    · exact resend_tr I.tw p hp
  by_cases k2 : x.Kind = 2
  · simp only [k2, Int.reduceBEq, cond_true, cond_false]
    rw [need_pos I.bi.v.hd, need_pos (by unfold roomP; omega)]
    refine ⟨_, rfl, I.va, ⟨val_ack I.bi.v, I.bi.w, I.bi.te, I.bi.be, I.bi.go⟩, I.nx, I.du, by dsimp only; omega, by dsimp only; omega, by simp only [List.length_append, List.length_singleton]; omega, I.tw, I.tt, fun p hp => ?_, I.un⟩
    rcases List.mem_append.1 hp with hp | hp
    · exact I.tf p hp
    · rw [List.mem_singleton.1 hp]
      exact ⟨rfl, Int.le_refl _⟩
  by_cases k3 : x.Kind = 3
  · simp only [k3, Int.reduceBEq, cond_true, cond_false]
    by_cases c : (0 : Int) < (w.to.length : Int)
    · have hi := i1 (by omega)
      have hm := getD_mem (l := w.to) (i := y1.toNat) (by omega)
      have I' := (arr_inv I (w.to.getD y1.toNat d_Packet) (I.tt _ hm)).more
      rw [decide_eq_true c, cond_true, need_pos hi, need_pos (by omega), need_pos (I.arr (by omega)), need_pos (show 0 ≤ y1 ∧ y1 < ((arriveR w (w.to.getD y1.toNat d_Packet)).to.length : Int) ∧ (arriveR w (w.to.getD y1.toNat d_Packet)).to.length ≤ 1000000 from (by show 0 ≤ y1 ∧ y1 < (w.to.length : Int) ∧ w.to.length ≤ 1000000; omega))]
      have hl := len_cut w.to y1.toNat
      exact ⟨_, rfl, I'.va, I'.bi, I'.nx, I'.du, I'.ls, by show (w.to.take y1.toNat ++ w.to.drop (y1.toNat + 1)).length ≤ _; omega, I'.lf, I'.tw, fun p hp => I.tt p (mem_cut hp), I'.tf, I'.un⟩
    · rw [decide_eq_false c]
      exact ⟨w, rfl, I.more⟩
  by_cases k4 : x.Kind = 4
  · simp only [k4, Int.reduceBEq, cond_true, cond_false]
    by_cases c : (0 : Int) < (w.to.length : Int)
    · have hi := i1 (by omega)
      have I' := I.more
      rw [decide_eq_true c, cond_true, need_pos (show 0 ≤ y1 ∧ y1 < (w.to.length : Int) ∧ w.to.length ≤ 1000000 by omega)]
      have hl := len_cut w.to y1.toNat
      exact ⟨_, rfl, I'.va, I'.bi, I'.nx, I'.du, I'.ls, by show (w.to.take y1.toNat ++ w.to.drop (y1.toNat + 1)).length ≤ _; omega, I'.lf, I'.tw, fun p hp => I.tt p (mem_cut hp), I'.tf, I'.un⟩
    · rw [decide_eq_false c]
      exact ⟨w, rfl, I.more⟩
  by_cases k5 : x.Kind = 5
  · simp only [k5, Int.reduceBEq, cond_true, cond_false]
    by_cases c : (0 : Int) < (w.to.length : Int)
    · have hi := i1 (by omega)
      have hm := getD_mem (l := w.to) (i := y1.toNat) (by omega)
      have I' := I.more
      rw [decide_eq_true c, cond_true, need_pos hi, need_pos (by omega), need_pos (by unfold roomP; omega)]
      refine ⟨_, rfl, I'.va, I'.bi, I'.nx, I'.du, I'.ls, by simp only [List.length_append, List.length_singleton]; omega, I'.lf, I'.tw, fun p hp => ?_, I'.tf, I'.un⟩
      rcases List.mem_append.1 hp with hp | hp
      · exact I.tt p hp
      · rw [List.mem_singleton.1 hp]; exact I.tt _ hm
    · rw [decide_eq_false c]
      exact ⟨w, rfl, I.more⟩
  by_cases k6 : x.Kind = 6
  · simp only [k6, Int.reduceBEq, cond_true, cond_false]
    by_cases c : (0 : Int) < (w.from_.length : Int)
    · have hi := i2 (by omega)
      have hm := getD_mem (l := w.from_) (i := y2.toNat) (by omega)
      obtain ⟨f1, f2⟩ := I.tf _ hm
      have I' := I.more
      rw [decide_eq_true c, cond_true, need_pos hi, need_pos (by omega), need_pos ⟨hda, hwa, hea⟩, need_pos (show 0 ≤ y2 ∧ y2 < (w.from_.length : Int) ∧ w.from_.length ≤ 1000000 by omega)]
      have hl := len_cut w.from_ y2.toNat
      have hv := val_rec (w.from_.getD y2.toNat d_Packet) I.va
      have er : recR w.a (w.from_.getD y2.toNat d_Packet) = (⟨w.a.Next, ackedR w.a.Wait (w.from_.getD y2.toNat d_Packet).Ack, w.a.Expect, w.a.Early, w.a.Again, w.a.Due⟩, []) := by
        unfold recR
        rw [if_pos (.inl (by rw [f1]; rfl))]
      rw [er] at hv ⊢
      refine ⟨_, rfl, hv, I'.bi, I'.nx, I'.du, I'.ls, I'.lt, by show (w.from_.take y2.toNat ++ w.from_.drop (y2.toNat + 1)).length ≤ _; omega, fun p hp => ?_, I.tt, fun p hp => I.tf p (mem_cut hp), ?_⟩
      · unfold ackedR at hp
        exact I.tw p (List.mem_of_mem_drop hp)
      · exact acked_un I.va _ _ I.un f2
    · rw [decide_eq_false c]
      exact ⟨w, rfl, I.more⟩
  by_cases k7 : x.Kind = 7
  · simp only [k7, Int.reduceBEq, cond_true, cond_false]
    by_cases c : (0 : Int) < (w.from_.length : Int)
    · have hi := i2 (by omega)
      have I' := I.more
      rw [decide_eq_true c, cond_true, need_pos (show 0 ≤ y2 ∧ y2 < (w.from_.length : Int) ∧ w.from_.length ≤ 1000000 by omega)]
      have hl := len_cut w.from_ y2.toNat
      exact ⟨_, rfl, I'.va, I'.bi, I'.nx, I'.du, I'.ls, I'.lt, by show (w.from_.take y2.toNat ++ w.from_.drop (y2.toNat + 1)).length ≤ _; omega, I'.tw, I'.tt, fun p hp => I.tf p (mem_cut hp), I'.un⟩
    · rw [decide_eq_false c]
      exact ⟨w, rfl, I.more⟩
  · have b0 : (x.Kind == 0) = false := beq_eq_false_iff_ne.2 k0
    have b1 : (x.Kind == 1) = false := beq_eq_false_iff_ne.2 k1
    have b2 : (x.Kind == 2) = false := beq_eq_false_iff_ne.2 k2
    have b3 : (x.Kind == 3) = false := beq_eq_false_iff_ne.2 k3
    have b4 : (x.Kind == 4) = false := beq_eq_false_iff_ne.2 k4
    have b5 : (x.Kind == 5) = false := beq_eq_false_iff_ne.2 k5
    have b6 : (x.Kind == 6) = false := beq_eq_false_iff_ne.2 k6
    have b7 : (x.Kind == 7) = false := beq_eq_false_iff_ne.2 k7
    simp only [b0, b1, b2, b3, b4, b5, b6, b7, cond_false]
    exact ⟨w, rfl, I.more⟩
def w0W : law48_world := law48_world.mk (Link.mk 1 [] 1 [] 0 false) (Link.mk 1 [] 1 [] 0 false) [] [] [] []
theorem val0 : ValL (Link.mk 1 [] 1 [] 0 false) := by
  refine ⟨by unfold HdP; decide, by unfold AgP; decide, by simp, fun i hi => ?_, fun p hp => ?_, List.Pairwise.nil⟩
  · simp at hi
  · simp at hp
theorem inv0 : InvW 0 w0W := by
  refine ⟨val0, ⟨val0, rfl, fun p hp => ?_, by decide, rfl⟩, rfl, rfl, by decide, by decide, by decide, fun p hp => ?_, fun p hp => ?_, fun p hp => ?_, by decide⟩ <;> simp [w0W] at hp
theorem run_ok (ops : List law48_Op) (hl : ops.length ≤ 60) (hN : ∀ x ∈ ops, 0 ≤ x.N) : ∀ (k i : Nat) (w : law48_world), i + k = ops.length → InvW i w → ∃ w', loopU (run_s1 ops) ((i : Int), w) = some (w', true) ∧ InvW ops.length w'
  | 0, i, w, e, I => by
    refine ⟨w, ?_, by rw [← e]; exact I⟩
    rw [loopU_eq]
    unfold run_s1
    have h1 : ¬ (i : Int) < (ops.length : Int) := by omega
    simp only [h1, decide_false, cond_false]
  | k + 1, i, w, e, I => by
    have hi : i < ops.length := by omega
    have hx : ops.getD i d_law48_Op ∈ ops := by rw [getD_some hi]; exact List.getElem_mem hi
    obtain ⟨w1, s1, I1⟩ := step_ok i w (ops.getD i d_law48_Op) (hN _ hx) (by omega) I
    obtain ⟨w', r1, I2⟩ := run_ok ops hl hN k (i + 1) w1 (by omega) I1
    refine ⟨w', ?_, I2⟩
    rw [loopU_eq]
    have h1 : (i : Int) < (ops.length : Int) := by omega
    have h0 : (0 : Int) ≤ (i : Int) := by omega
    have r1' : InR .i64 ((i : Int) + 1) := by simp only [InR]; omega
    have h5 : ¬ (5000 : Int) < (w1.to.length : Int) := by
      have h1 := I1.lt
      have h2 := sq_60 (show i + 1 ≤ 60 by omega)
      omega
    have hp : PreW w1 := I1.pre (by omega)
    have es : run_s1 ops ((i : Int), w) = some (.inl (((i + 1 : Nat) : Int), w1)) := by
      unfold run_s1
      simp only [Int.toNat_natCast, s1, Option.getD_some, h1, h0, h5, hp, r1', and_self, need_true, decide_true, decide_false, cond_true, cond_false, Bool.not_true, ne_eq, reduceCtorEq, not_false_eq_true]
      rfl
    rw [es]
    exact r1
theorem run_inv (ops : List law48_Op) (hl : ops.length ≤ 60) (hN : ∀ x ∈ ops, 0 ≤ x.N) : ∃ w', run ops = some (w', true) ∧ InvW ops.length w' := run_ok ops hl hN ops.length 0 w0W (by omega) inv0
theorem lossyPrefix_eq (ops : List law48_Op) (hN : ∀ x ∈ ops, 0 ≤ x.N) : lossyPrefix ops = some true := by
  unfold lossyPrefix
  rw [need_pos (brief_some ops)]
  cases hb : (brief ops).getD false with
  | false => rfl
  | true =>
    obtain ⟨w', r1, _⟩ := run_inv ops (brief_len ops hb) hN
    simp only [r1, Option.getD_some, cond_true, cond_false, Bool.not_true, ne_eq, reduceCtorEq, not_false_eq_true, need_true]
/-! the end of it -/
structure SetW (k : Nat) (w0 w : law48_world) : Prop where
  inv : InvW 60 w
  a : w.a = (resendR w0.a).1
  s : w.sent = w0.sent
  ex : w0.a.Next - w0.a.Wait.length + k ≤ w.b.Expect
theorem settle_loop (ops : List law48_Op) (w0 : law48_world) (hr : run ops = some (w0, true)) (I0 : InvW 60 w0) : ∀ (j k : Nat) (w : law48_world), k + j = w0.a.Wait.length → SetW k w0 w → ∃ w', loopU (lossySettles_s1 ops) ((k : Int), w) = some (.inl w') ∧ SetW w0.a.Wait.length w0 w'
  | 0, k, w, e, I => by
    have hrl : (resendR w0.a).2.length = w0.a.Wait.length := List.length_map _
    refine ⟨w, ?_, by rw [← e]; exact I⟩
    rw [loopU_eq]
    unfold lossySettles_s1
    have h1 : ¬ (k : Int) < (w0.a.Wait.length : Int) := by omega
    simp only [hr, Option.getD_some, hrl, h1, decide_false, cond_false]
  | j + 1, k, w, e, I => by
    have hrl : (resendR w0.a).2.length = w0.a.Wait.length := List.length_map _
    have hlw := I0.va.lw
    have hk : k < w0.a.Wait.length := by omega
    have hp : (resendR w0.a).2.getD k d_Packet ∈ (resendR w0.a).2 := getD_mem (by omega)
    have htr : TrP w.sent ((resendR w0.a).2.getD k d_Packet) := by rw [I.s]; exact resend_tr I0.tw _ hp
    have I1 := arr_inv I.inv _ htr
    have hq : (resendR w0.a).2.getD k d_Packet = againP w0.a.Expect (w0.a.Wait.getD k d_Packet) := by
      rw [getD_some (by omega), getD_some hk]
      exact List.getElem_map _
    have hw := I0.va.w k hk
    unfold WOk at hw
    simp only [decide_eq_true_eq] at hw
    obtain ⟨g1, g2, g3⟩ := rec_inv I.inv.bi _ htr
    have hex := I.ex
    have hseq : ((resendR w0.a).2.getD k d_Packet).Seq = w0.a.Next - w0.a.Wait.length + k := by rw [hq]; exact hw.2.1
    have h3 := g3 (by rw [hq]; exact hw.2.2.2.2) (by rw [hseq]; have := I0.va.hd.2.1; omega) (by rw [hseq]; exact hex)
    obtain ⟨w', q1, q2⟩ := settle_loop ops w0 hr I0 j (k + 1) (arriveR w ((resendR w0.a).2.getD k d_Packet)) (by omega) ⟨I1, I.a, I.s, by rw [hseq] at h3; unfold arriveR; dsimp only; omega⟩
    refine ⟨w', ?_, q2⟩
    rw [loopU_eq]
    have h1 : (k : Int) < (w0.a.Wait.length : Int) := by omega
    have h0 : (0 : Int) ≤ (k : Int) := by omega
    have h100 : (k : Int) < 100 := by omega
    have r1' : InR .i64 ((k : Int) + 1) := by simp only [InR]; omega
    have hb := I.inv.arr (by omega)
    have es : lossySettles_s1 ops ((k : Int), w) = some (.inl (((k + 1 : Nat) : Int), arriveR w ((resendR w0.a).2.getD k d_Packet))) := by
      unfold lossySettles_s1
      simp only [hr, Option.getD_some, Int.toNat_natCast, hrl, h1, h0, h100, r1', and_self, need_true, decide_true, cond_true]
      rw [need_pos hb]
      rfl
    rw [es]
    exact q1
theorem InvW.upto {n m : Nat} {w : law48_world} (I : InvW n w) (h : n ≤ m) : InvW m w := by
  have := Nat.mul_le_mul h h
  have := I.lt
  have := I.ls
  have := I.lf
  exact ⟨I.va, I.bi, I.nx, I.du, by omega, by omega, by omega, I.tw, I.tt, I.tf, I.un⟩
theorem cnt_all (ack : Int) : ∀ l : List Packet, (∀ p ∈ l, p.Seq ≤ ack) → cnt ack l = l.length
  | [], _ => rfl
  | p :: r, h => by
    unfold cnt
    rw [if_pos (h p (List.mem_cons_self ..)), cnt_all ack r fun q hq => h q (List.mem_cons_of_mem _ hq)]
    rfl
theorem lossySettles_eq (ops : List law48_Op) (hN : ∀ x ∈ ops, 0 ≤ x.N) : lossySettles ops = some true := by
  unfold lossySettles
  rw [need_pos (brief_some ops)]
  cases hb : (brief ops).getD false with
  | false => rfl
  | true =>
    have hl := brief_len ops hb
    obtain ⟨w0, r1, I⟩ := run_inv ops hl hN
    have I0 := I.upto hl
    have hwl := I0.va.lw
    simp only [r1, Option.getD_some, cond_true, cond_false, Bool.not_true, ne_eq, reduceCtorEq, not_false_eq_true, need_true]
    rw [need_pos ⟨I0.va.hd, I0.va.ag, by omega⟩]
    have IW : InvW 60 (law48_world.mk (resendR w0.a).1 w0.b [] [] w0.sent w0.got) := ⟨val_resend I0.va, I0.bi, I0.nx, I0.du, I0.ls, by simp, by simp, I0.tw, fun p hp => by simp at hp, fun p hp => by simp at hp, I0.un⟩
    obtain ⟨w, q1, J⟩ := settle_loop ops w0 r1 I0 w0.a.Wait.length 0 (law48_world.mk (resendR w0.a).1 w0.b [] [] w0.sent w0.got) (by omega) ⟨IW, rfl, rfl, by have := I0.un; dsimp only; omega⟩
    have e2 : lossySettles_s2 ops = some (.inl w) := by
      unfold lossySettles_s2
      simp only [r1, Option.getD_some]
      exact q1
    rw [e2]
    show lossySettles_s3 w = _
    have K := J.inv
    have hex := J.ex
    have hbe := K.bi.be
    have hnx := I0.nx
    have hsl : w.sent.length = w0.sent.length := by rw [J.s]
    have he : w.b.Expect = w.sent.length + 1 := by omega
    have hgot : w.got.length = w.sent.length := by
      have := congrArg List.length K.bi.go
      rw [List.length_take] at this
      omega
    have hwa : w.a.Wait = w0.a.Wait := by rw [J.a]; rfl
    have hea := (valP_of' K.va).le
    have hva := K.va.lw
    have hack : ackedR w.a.Wait (w.b.Expect - 1) = [] := by
      unfold ackedR
      rw [cnt_all _ _ fun p hp => ?_, List.drop_length]
      obtain ⟨t1, t2, t3⟩ := K.tw p hp
      omega
    have h1 : quietB (recR w.a (ackR w.b).2).1 = true := by
      have er : recR w.a (ackR w.b).2 = (⟨w.a.Next, ackedR w.a.Wait (w.b.Expect - 1), w.a.Expect, w.a.Early, w.a.Again, w.a.Due⟩, []) := by
        unfold recR
        exact if_pos (.inl rfl)
      rw [er, hack]
      unfold quietB
      rw [K.du]
      rfl
    have h2 : quietB (ackR w.b).1 = true := by
      unfold quietB ackR
      dsimp only
      rw [K.bi.w]
      rfl
    unfold lossySettles_s3
    rw [need_pos K.bi.v.hd, need_pos ⟨K.va.hd, by omega, by omega⟩, need_pos (K.pre (by omega)), hgot]
    simp only [h1, h2, BEq.rfl, cond_true]


noncomputable def ct_lossyPrefix : Ct D := ctN as_lossyPrefix rs_lossyPrefix 1 [] (fun a => some ((fun (ops : List law48_Op) => (∀ x ∈ ops, 0 ≤ x.N : Prop)) (a))) (fun a => (fun (ops : List law48_Op) => (true : Bool)) (a))
theorem ct_lossyPrefix_ok : CtOk Try.prog S 7 ct_lossyPrefix :=
  fn_okN mixed T_ok g_lossyPrefix_ok S_ok j_lossyPrefix_ok Try.func7 rfl (by kernel_rfl) Try.ntmps7 rfl (by kernel_rfl) as_lossyPrefix_ok rs_lossyPrefix_ok (fun a => some ((fun (ops : List law48_Op) => (∀ x ∈ ops, 0 ≤ x.N : Prop)) (a))) (fun a => (fun (ops : List law48_Op) => (true : Bool)) (a))
    (fun a h => (lossyPrefix_run (a)).symm.trans (lossyPrefix_eq (a) h))

noncomputable def ct_lossySettles : Ct D := ctN as_lossySettles rs_lossySettles 1 [] (fun a => some ((fun (ops : List law48_Op) => (∀ x ∈ ops, 0 ≤ x.N : Prop)) (a))) (fun a => (fun (ops : List law48_Op) => (true : Bool)) (a))
theorem ct_lossySettles_ok : CtOk Try.prog S 8 ct_lossySettles :=
  fn_okN mixed T_ok g_lossySettles_ok S_ok j_lossySettles_ok Try.func8 rfl (by kernel_rfl) Try.ntmps8 rfl (by kernel_rfl) as_lossySettles_ok rs_lossySettles_ok (fun a => some ((fun (ops : List law48_Op) => (∀ x ∈ ops, 0 ≤ x.N : Prop)) (a))) (fun a => (fun (ops : List law48_Op) => (true : Bool)) (a))
    (fun a h => (lossySettles_run (a)).symm.trans (lossySettles_eq (a) h))
end Go.Proofs.Ytjmolijohilahaa
