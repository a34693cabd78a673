/-
  Own engine, part 12: calls of functions and closures; and all operations together.
-/
import Derived.Test.YtemjcccdcnhmhaaGreatDoorVdj
namespace Go.Vc
open Go.RowKit
set_option linter.unusedVariables false

section
variable {D : Type} {P : Program} {S : Sh D} {T : TypeId → Option Ty} {Γ : FuncId → Option (Ct D)} {M M' N : Nat → Prop} {w w' : World} {w0 : Bs} {g g' : Nat → Option Value} {blk blk' : Nat → Option (Bk D)} {al : Nat → Prop}
  {a : Act} {o : Oper} {K : Act → World → Prop} {Q : Exit → Act → World → Prop} {slot : Nat → Sl D} {out : Out D} {fr : Nat} {ids vids : List Nat}

/-- What sees other blocks than the rows that are handed over as data. -/
structure Sees (N : Nat → Prop) (blk : Nat → Option (Bk D)) (g : Nat → Option Value) (vids : List Nat) (M' : Nat → Prop) : Prop where
  sub : ∀ b, M' b → Mset N blk g b
  off : ∀ l ∈ vids, ∀ v b, hot (blk l) = true → g l = some v → blkOf v = some b → ¬ M' b

theorem Lf.Rel.view (hS : ShOk S) {x : Lf D} {v : Value} (h : Hp S w0 N blk g al w) (hs : Sees N blk g vids M') (hv : ∀ l ∈ x.owns, l ∈ vids) (hr : x.Rel S (Mset N blk g) w g v) : (x.view blk).Rel S M' w g v := by
  cases x with
  | own l =>
    have hr : g l = some v := hr
    simp only [Lf.view]
    split
    · rename_i e d hb
      exact row_dat h hb hr hs.sub (fun b hbv => hs.off l (hv l (by simp [Lf.owns])) v b (by rw [hb]; rfl) hr hbv)
    · rename_i d hb
      obtain ⟨v', hv', hok⟩ := h.bks l _ hb
      rw [hr] at hv'
      injection hv' with hv'
      subst hv'
      exact DatOk.mono hok hs.sub
    · exact hr
  | part l i j sz f =>
    obtain ⟨av, n, cap, hg, rfl, h1, h2, rfl⟩ := hr
    have cut : ∀ d d', DatOk S M' w d (.slice av n cap) → subIf S sz i j d = some d' → DatOk S M' w d' (sliced av i j cap sz) := by
      intro d d' hd hf
      unfold subIf at hf
      split at hf
      · rename_i hz
        have hz := Nat.eq_of_beq_eq_true hz
        obtain ⟨a', cap', e1, _⟩ := DatOk.slice hd
        injection e1 with _ e1 _
        have := dat_sub hS hd hf h1 (by omega)
        rw [hz]
        exact this
      · cases hf
    simp only [Lf.view]
    split
    · rename_i e d hb
      split
      · rename_i d' hf
        exact cut d d' (row_dat h hb hg hs.sub (fun b hbv => hs.off l (hv l (by simp [Lf.owns])) _ b (by rw [hb]; rfl) hg hbv)) hf
      · trivial
    · rename_i d hb
      split
      · rename_i d' hf
        obtain ⟨v', hv', hok⟩ := h.bks l _ hb
        rw [hg] at hv'
        injection hv' with hv'
        subst hv'
        exact cut d d' (DatOk.mono hok hs.sub) hf
      · trivial
    · exact ⟨av, n, cap, hg, rfl, h1, h2, rfl⟩
  | dat d => exact DatOk.mono hr hs.sub
  | elt d i j => obtain ⟨a, n, cap, h1, h2⟩ := hr; exact ⟨a, n, cap, h1.mono hs.sub, h2⟩
  | _ => exact hr
theorem LfsRel.view (hS : ShOk S) (h : Hp S w0 N blk g al w) (hs : Sees N blk g vids M') : ∀ {xs : List (Lf D)} {vs : List Value}, (∀ l ∈ xs.flatMap Lf.owns, l ∈ vids) → LfsRel S (Mset N blk g) w g xs vs → LfsRel S M' w g (xs.map (Lf.view blk)) vs
  | [], [], _, _ => trivial
  | x :: xs, v :: vs, hv, hr => ⟨hr.1.view hS h hs (fun l hl => hv l (by simp [hl])), LfsRel.view hS h hs (fun l hl => hv l (by simp at hl ⊢; exact .inr hl)) hr.2⟩
theorem Sv.Rel.view (hS : ShOk S) {x : Sv D} {v : Value} (h : Hp S w0 N blk g al w) (hs : Sees N blk g vids M') (hv : ∀ l ∈ x.owns, l ∈ vids) (hr : x.Rel S (Mset N blk g) w g v) : (x.view blk).Rel S M' w g v := by
  cases x with
  | lf x => exact Lf.Rel.view hS h hs hv hr
  | agg xs => obtain ⟨vs, h1, h2⟩ := hr; exact ⟨vs, h1, h2.view hS h hs hv⟩
theorem SvsRel.view (hS : ShOk S) (h : Hp S w0 N blk g al w) (hs : Sees N blk g vids M') : ∀ {xs : List (Sv D)} {vs : List Value}, (∀ l ∈ xs.flatMap Sv.owns, l ∈ vids) → SvsRel S (Mset N blk g) w g xs vs → SvsRel S M' w g (xs.map (Sv.view blk)) vs
  | [], [], _, _ => trivial
  | x :: xs, v :: vs, hv, hr => ⟨hr.1.view hS h hs (fun l hl => hv l (by simp [hl])), SvsRel.view hS h hs (fun l hl => hv l (by simp at hl ⊢; exact .inr hl)) hr.2⟩
theorem Sl.Rel.view (hS : ShOk S) {x : Sl D} {v : Value} (h : Hp S w0 N blk g al w) (hs : Sees N blk g vids M') (hv : ∀ l ∈ x.owns, l ∈ vids) (hr : x.Rel S (Mset N blk g) w g v) : (x.view blk).Rel S M' w g v := by
  cases x with
  | one x => exact Sv.Rel.view hS h hs hv hr
  | tup xs => obtain ⟨vs, h1, h2⟩ := hr; exact ⟨vs, h1, h2.view hS h hs hv⟩
theorem SlsRel.view (hS : ShOk S) (h : Hp S w0 N blk g al w) (hs : Sees N blk g vids M') : ∀ {xs : List (Sl D)} {vs : List Value}, (∀ l ∈ xs.flatMap Sl.owns, l ∈ vids) → SlsRel S (Mset N blk g) w g xs vs → SlsRel S M' w g (xs.map (Sl.view blk)) vs
  | [], [], _, _ => trivial
  | x :: xs, v :: vs, hv, hr => ⟨hr.1.view hS h hs (fun l hl => hv l (by simp [hl])), SlsRel.view hS h hs (fun l hl => hv l (by simp at hl ⊢; exact .inr hl)) hr.2⟩
theorem SlsRel.less (hM : ∀ b, M' b → M b) : ∀ {xs : List (Sl D)} {vs : List Value}, SlsRel S M w g xs vs → SlsRel S M' w g xs vs
  | [], [], _ => trivial
  | x :: xs, v :: vs, hr => by
    refine ⟨?_, SlsRel.less hM hr.2⟩
    have := hr.1.ren (g' := g) (M' := M') (f := fun l => l) (fun _ _ _ hu => hu) (fun _ => hM)
    have e : x.ren (fun l => l) = x := by
      have e1 : ∀ y : Lf D, y.ren (fun l => l) = y := fun y => by cases y <;> simp [Lf.ren]
      have e2 : ∀ y : Sv D, y.ren (fun l => l) = y := fun y => by cases y with
        | lf y => simp [Sv.ren, e1]
        | agg ys => simp only [Sv.ren]; congr 1; exact (List.map_congr_left fun y _ => e1 y).trans (List.map_id _)
      cases x with
      | one y => simp [Sl.ren, e2]
      | tup ys => simp only [Sl.ren]; congr 1; exact (List.map_congr_left fun y _ => e2 y).trans (List.map_id _)
    rwa [e] at this

theorem SlsRel.app : ∀ {xs ys : List (Sl D)} {vs us : List Value}, SlsRel S M w g xs vs → SlsRel S M w g ys us → SlsRel S M w g (xs ++ ys) (vs ++ us)
  | [], _, [], _, _, h => h
  | _ :: _, _, _ :: _, _, h, h' => ⟨h.1, SlsRel.app h.2 h'⟩

theorem addNew_mem : ∀ (r ids : List Nat) (l : Nat), l ∈ addNew ids r ↔ l ∈ ids ∨ l ∈ r
  | [], ids, l => by simp [addNew]
  | x :: r, ids, l => by
    unfold addNew
    rw [addNew_mem r]
    split
    · rename_i hm
      have := memB_iff.1 hm
      constructor
      · rintro (h | h)
        · exact .inl h
        · exact .inr (by simp [h])
      · rintro (h | h)
        · exact .inl h
        · rcases List.mem_cons.1 h with rfl | h
          · exact .inl this
          · exact .inr h
    · simp only [List.mem_append, List.mem_cons, List.not_mem_nil, or_false]
      constructor
      · rintro ((h | h) | h)
        · exact .inl h
        · exact .inr (.inl h)
        · exact .inr (.inr h)
      · rintro (h | h | h)
        · exact .inl (.inl h)
        · exact .inl (.inr h)
        · exact .inr h

/-- An own row of an argument: known, seen as a datum, or still named. -/
theorem lf_view {x : Lf D} {l : Nat} (hl : l ∈ x.owns) : ((∃ e d, blk l = some (.row e d)) ∨ hot (blk l) = false ∨ l ∈ (x.view blk).refs) := by
  cases x with
  | own l' =>
    simp [Lf.owns] at hl
    subst hl
    simp only [Lf.view]
    split
    · rename_i e d hb; exact .inl ⟨e, d, hb⟩
    · rename_i d hb; exact .inr (.inl (by rw [hb]; rfl))
    · exact .inr (.inr (by simp [Lf.refs]))
  | part l' i j sz f =>
    simp [Lf.owns] at hl
    subst hl
    simp only [Lf.view]
    split
    · rename_i e d hb; exact .inl ⟨e, d, hb⟩
    · rename_i d hb; exact .inr (.inl (by rw [hb]; rfl))
    · exact .inr (.inr (by simp [Lf.refs]))
  | _ => simp [Lf.owns] at hl
theorem sv_view {x : Sv D} {l : Nat} (hl : l ∈ x.owns) : ((∃ e d, blk l = some (.row e d)) ∨ hot (blk l) = false ∨ l ∈ (x.view blk).refs) := by
  cases x with
  | lf x => exact lf_view hl
  | agg xs =>
    obtain ⟨y, hy, hl⟩ := List.mem_flatMap.1 hl
    rcases lf_view (blk := blk) hl with h | h | h
    · exact .inl h
    · exact .inr (.inl h)
    · exact .inr (.inr (List.mem_flatMap.2 ⟨_, List.mem_map.2 ⟨y, hy, rfl⟩, h⟩))
theorem sl_view {x : Sl D} {l : Nat} (hl : l ∈ x.owns) : ((∃ e d, blk l = some (.row e d)) ∨ hot (blk l) = false ∨ l ∈ (x.view blk).refs) := by
  cases x with
  | one x => exact sv_view hl
  | tup xs =>
    obtain ⟨y, hy, hl⟩ := List.mem_flatMap.1 hl
    rcases sv_view (blk := blk) hl with h | h | h
    · exact .inl h
    · exact .inr (.inl h)
    · exact .inr (.inr (List.mem_flatMap.2 ⟨_, List.mem_map.2 ⟨y, hy, rfl⟩, h⟩))

theorem lf_own {x : Lf D} {v : Value} {l : Nat} (hr : x.Rel S M w g v) (hl : l ∈ x.owns) : ∃ u, g l = some u := by
  cases x with
  | own l' => simp [Lf.owns] at hl; subst hl; exact ⟨v, hr⟩
  | part l' i j sz f => simp [Lf.owns] at hl; subst hl; obtain ⟨av, n, cap, h1, _⟩ := hr; exact ⟨_, h1⟩
  | _ => simp [Lf.owns] at hl
theorem lfs_own {l : Nat} : ∀ {xs : List (Lf D)} {vs : List Value}, LfsRel S M w g xs vs → l ∈ xs.flatMap Lf.owns → ∃ u, g l = some u
  | [], [], _, hl => by simp at hl
  | x :: xs, v :: vs, hr, hl => by
    rw [List.flatMap_cons, List.mem_append] at hl
    exact hl.elim (lf_own hr.1) (lfs_own hr.2)
theorem sv_own {x : Sv D} {v : Value} {l : Nat} (hr : x.Rel S M w g v) (hl : l ∈ x.owns) : ∃ u, g l = some u := by
  cases x with
  | lf x => exact lf_own hr hl
  | agg xs => obtain ⟨vs, _, h2⟩ := hr; exact lfs_own h2 hl
theorem svs_own {l : Nat} : ∀ {xs : List (Sv D)} {vs : List Value}, SvsRel S M w g xs vs → l ∈ xs.flatMap Sv.owns → ∃ u, g l = some u
  | [], [], _, hl => by simp at hl
  | x :: xs, v :: vs, hr, hl => by
    rw [List.flatMap_cons, List.mem_append] at hl
    exact hl.elim (sv_own hr.1) (svs_own hr.2)
theorem sl_own {x : Sl D} {v : Value} {l : Nat} (hr : x.Rel S M w g v) (hl : l ∈ x.owns) : ∃ u, g l = some u := by
  cases x with
  | one x => exact sv_own hr hl
  | tup xs => obtain ⟨vs, _, h2⟩ := hr; exact svs_own h2 hl
theorem sls_own {l : Nat} : ∀ {xs : List (Sl D)} {vs : List Value}, SlsRel S M w g xs vs → l ∈ xs.flatMap Sl.owns → ∃ u, g l = some u
  | [], [], _, hl => by simp at hl
  | x :: xs, v :: vs, hr, hl => by
    rw [List.flatMap_cons, List.mem_append] at hl
    exact hl.elim (sl_own hr.1) (sls_own hr.2)

theorem caps_rel' : ∀ {caps : List Nat} {vs : List Value}, caps.map g = vs.map some → (∀ l ∈ caps, ∃ b, g l = some (.pointer (some ⟨b, 0, none⟩))) → SlsRel S M w g (caps.map fun l => .one (.lf (.ptr l 0))) vs
  | [], [], _, _ => trivial
  | c :: caps, v :: vs, h, hp => by
    simp only [List.map_cons, List.cons.injEq] at h
    obtain ⟨b, hb⟩ := hp c (by simp)
    refine ⟨⟨b, hb, ?_⟩, caps_rel' h.2 fun l hl => hp l (by simp [hl])⟩
    rw [h.1] at hb
    injection hb
  | [], _ :: _, h, _ => by simp at h
  | _ :: _, [], h, _ => by simp at h

theorem sound_call (hS : ShOk S) {c : Call} {f : FuncId} {caps : List Nat} {fo : Operand} (ho : o.op = .call c) (hc : c.callee = .value fo) (hf : opnd slot fo = .one (.lf (.fn f caps))) (hΓ : ∀ f ct, Γ f = some ct → CtOk P S f ct) (h : Hp S w0 N blk g al w) (hfr : ∀ n, fr ≤ n → n < fr + 64 → ¬ al n)
    (hs : ∀ t, (slot t).Rel S (Mset N blk g) w g (a.tmps.getD t undef)) (hout : xCall Γ f blk (c.args.toList.map (opnd slot) ++ caps.map fun l => .one (.lf (.ptr l 0))) fr = some out) (hp : preP out.pre) (hcaps : caps.all (fun l => isCells (blk l)) = true) (hK : Post S w0 N blk g al w fr out o.dst a K) : o.wp P a w K Q := by
  have hfv := opnd_rel hs fo
  rw [hf] at hfv
  obtain ⟨cv, hcv, hcg⟩ := hfv
  have hptr : ∀ l ∈ caps, ∃ b, g l = some (.pointer (some ⟨b, 0, none⟩)) := by
    intro l hl
    have := List.all_eq_true.1 hcaps l hl
    cases hb : blk l with
    | none => rw [hb] at this; simp [isCells] at this
    | some bk =>
      cases bk with
      | cells cs => obtain ⟨v, hv, b, vs, t, rfl, _⟩ := h.bks l _ hb; exact ⟨b, hv⟩
      | row e d => rw [hb] at this; simp [isCells] at this
      | ice d => rw [hb] at this; simp [isCells] at this
      | iter s p => rw [hb] at this; simp [isCells] at this
  have hargs : SlsRel S (Mset N blk g) w g (c.args.toList.map (opnd slot) ++ caps.map fun l => .one (.lf (.ptr l 0))) (c.args.toList.map a.eval ++ cv) := (opnds_rel hs c.args.toList).app (caps_rel' hcg hptr)
  unfold xCall at hout
  split at hout
  · cases hout
  · rename_i ct hct
    have hok := hΓ f ct hct
    have hrun : (execOp a.eval o).run P w = .ok (.enter f (c.args.toList.map a.eval ++ cv).toArray) w := by
      have hen := hok.enters (c.args.toList.map a.eval ++ cv).toArray w
      simp only [execOp, ho, resolve, hc, Deferred.ofValue, hcv, Sem.run_bind, Sem.run_pure, Result.andThen_ok, invoke]
      have : (#[] ++ c.args.map a.eval : Array Value) ++ cv.toArray = (c.args.toList.map a.eval ++ cv).toArray := by rw [← Array.toList_inj]; simp
      rw [this, hen]
    have fin : (Calls P f (c.args.toList.map a.eval ++ cv).toArray w fun e w' => ∃ v g', e = .returned v ∧ More g g' ∧ Keeps (Mset N blk g) w (Mset N (updL blk out.blks) g') w' ∧ Hp S w0 N (updL blk out.blks) g' (fun n => al n ∨ (fr ≤ n ∧ n < fr + 64)) w' ∧
        out.val.Rel S (Mset N (updL blk out.blks) g') w' g' v) → o.wp P a w K Q := by
      intro hcall
      simp only [Oper.wp, hrun, Oper.upon_enter]
      refine hcall.mono ?_
      rintro e w' ⟨v, g', rfl, h1, h2, h3, h4⟩
      exact hK v w' g' h1 h2 h3 h4
    dsimp only at hout
    have hn := hargs.norm
    generalize (c.args.toList.map (opnd slot) ++ caps.map fun l => (.one (.lf (.ptr l 0)) : Sl D)).map Sl.norm = as at hn hout
    cases h1 : callOn ct blk fr (as.map (Sl.view blk)) (addNew [] (as.flatMap Sl.owns)) with
    | some out' =>
      rw [h1] at hout
      simp only [firstOf, Option.some.injEq] at hout
      subst hout
      refine fin (callOn_sound hok h hfr (fun ids bks hg hv => ?_) (fun l hl => ?_) (fun l hl => ?_) h1 hp)
      · refine SlsRel.view hS (vids := addNew [] (as.flatMap Sl.owns)) h ⟨fun b hb => (mset_sub hg b hb).1, fun l hl v b hh hgl hbl hb => ?_⟩ (fun l hl => (addNew_mem _ _ _).2 (.inr hl)) hn
        rcases (mset_sub hg b hb).2 with q | ⟨l', v', ⟨q1, q2, q3, q4⟩ | ⟨q1, q2, q3, q4⟩⟩
        · exact h.notN hh hgl hbl q
        · have := h.sep l l' v v' b hh q1 hgl q3 hbl q4
          subst this
          exact q2 hl
        · have := h.sep l l' v v' b hh q2 hgl q3 hbl q4
          subst this
          exact hv l hl q1
      · exact sls_own hn (((addNew_mem _ _ _).1 hl).resolve_left (by simp))
      · obtain ⟨x, hx, hlx⟩ := List.mem_flatMap.1 (((addNew_mem _ _ _).1 hl).resolve_left (by simp))
        rcases sl_view (blk := blk) hlx with q | q | q
        · exact .inl q
        · exact .inr (.inl q)
        · exact .inr (.inr (List.mem_flatMap.2 ⟨_, List.mem_map.2 ⟨x, hx, rfl⟩, q⟩))
    | none =>
      rw [h1] at hout
      simp only [firstOf] at hout
      exact fin (callOn_sound (vids := []) hok h hfr (fun ids bks hg hv => hn.less fun b hb => (mset_sub hg b hb).1) (fun l hl => by simp at hl) (fun l hl => by simp at hl) hout hp)

/-- ALL OPERATIONS. -/
theorem sound_op (hTy : ∀ t ty, T t = some ty → TyOk P t ty) (hΓ : ∀ f ct, Γ f = some ct → CtOk P S f ct) (hS : ShOk S) (h : Hp S w0 N blk g al w) (hfr : ∀ n, fr ≤ n → n < fr + 64 → ¬ al n)
    (hs : ∀ t, (slot t).Rel S (Mset N blk g) w g (a.tmps.getD t undef)) (hout : xOp T S Γ slot blk fr o.op = some out) (hp : preP out.pre) (hK : Post S w0 N blk g al w fr out o.dst a K) : o.wp P a w K Q := by
  have hr := opnd_rel hs
  cases ho : o.op with
  | move x => rw [ho] at hout; injection hout with hout; subst hout; exact wp_same (v := a.eval x) (by simp [execOp, ho]) h hK rfl (hr x)
  | assign x => rw [ho] at hout; injection hout with hout; subst hout; exact wp_same (v := a.eval x) (by simp [execOp, ho]) h hK rfl (hr x)
  | pick c x y => rw [ho] at hout; exact sound_pick ho h (hr c) (hr x) (hr y) hout hK
  | alloc t =>
    rw [ho] at hout
    simp only [xOp] at hout
    split at hout
    · rename_i ty hty
      injection hout with hout
      subst hout
      exact sound_alloc ho (hTy _ _ hty) h hfr hK
    · cases hout
  | box t x =>
    rw [ho] at hout
    simp only [xOp] at hout
    split at hout
    · rename_i u hu
      split at hout
      · rename_i hw
        injection hout with hout
        subst hout
        have hx := hr x
        rw [hu] at hx
        exact sound_box ho h hfr hx hw hK
      · cases hout
    · cases hout
  | build t parts => rw [ho] at hout; exact sound_build ho hTy h hs hout hK
  | buildSlice t n parts => rw [ho] at hout; exact sound_row hS ho hTy h hs hfr hout hK
  | load t x =>
    rw [ho] at hout
    simp only [xOp] at hout
    cases hty : T t with
    | none => simp [xLoad, hty] at hout
    | some ty => exact sound_load ho (hTy _ _ hty) hty h (hr x) hout hp hK
  | store t x y =>
    rw [ho] at hout
    simp only [xOp] at hout
    cases hty : T t with
    | none => simp [xStore, hty] at hout
    | some ty => exact sound_store ho (hTy _ _ hty) hty h (hr x) (hr y) hout hS hp hK
  | nilCheck x =>
    rw [ho] at hout
    simp only [xOp] at hout
    have hx := hr x
    split at hout
    · rename_i l q he
      rw [he] at hx
      injection hout with hout; subst hout
      refine wp_same (v := a.eval x) ?_ h hK rfl hx
      obtain ⟨b, _, hv⟩ := hx
      simp [execOp, ho, hv]
    · rename_i d i j he
      rw [he] at hx
      injection hout with hout; subst hout
      refine wp_same (v := a.eval x) ?_ h hK rfl hx
      obtain ⟨ad, n, cap, _, _, hv⟩ := hx
      simp [execOp, ho, hv]
    · rename_i l i j sz he
      rw [he] at hx
      injection hout with hout; subst hout
      refine wp_same (v := a.eval x) ?_ h hK rfl hx
      obtain ⟨b, n, cap, _, hv⟩ := hx
      simp [execOp, ho, hv]
    · rename_i f caps he
      rw [he] at hx
      injection hout with hout; subst hout
      refine wp_same (v := a.eval x) ?_ h hK rfl hx
      obtain ⟨vs, hv, _⟩ := hx
      simp [execOp, ho, hv]
    · cases hout
  | binOp op t x y yt =>
    rw [ho] at hout
    simp only [xOp] at hout
    cases hq : xNilq T S op t (opnd slot x) (opnd slot y) with
    | some out' =>
      rw [hq] at hout
      injection hout with hout
      subst hout
      exact sound_nilq ho hTy h (hr x) (hr y) hq hK
    | none =>
      rw [hq] at hout
      exact sound_bin ho hTy h (hr x) (hr y) hout hp hK
  | unOp op t x => rw [ho] at hout; exact sound_un ho h (hr x) hout hp hK
  | fieldAddr t x f =>
    rw [ho] at hout
    simp only [xOp] at hout
    cases hty : T t with
    | none => simp [xField, hty] at hout
    | some ty => exact sound_field ho (hTy _ _ hty) hty h (hr x) hout hK
  | field t x f =>
    rw [ho] at hout
    simp only [xOp] at hout
    cases hty : T t with
    | none => simp [xPart, hty] at hout
    | some ty => exact sound_part ho (hTy _ _ hty) hty h (hr x) hout hK
  | indexAddr t x i => rw [ho] at hout; exact sound_index ho hTy h (hr x) (hr i) hout hp hK
  | extract x i => rw [ho] at hout; exact sound_extract ho h (hr x) hout hK
  | call c =>
    rw [ho] at hout
    simp only [xOp] at hout
    split at hout
    · rename_i hc
      split at hout
      · rename_i x hx
        exact sound_len ho hc hx hTy h (hr x) hout hK
      · cases hout
    · rename_i hc
      split at hout
      · rename_i x y hx
        exact sound_min (.inl rfl) ho hc hx h (hr x) (hr y) hout hK
      · cases hout
    · rename_i hc
      split at hout
      · rename_i x y hx
        exact sound_min (.inr rfl) ho hc hx h (hr x) (hr y) hout hK
      · cases hout
    · rename_i hc
      split at hout
      · rename_i x y hx
        exact sound_append hS ho hc hx hTy h hfr (hr x) (hr y) hout hp hK
      · cases hout
    · rename_i hc
      split at hout
      · rename_i x y hx
        exact sound_copy hS ho hc hx hTy h (hr x) (hr y) hout hK
      · cases hout
    · rename_i fo hc
      split at hout
      · rename_i f caps hf
        split at hout
        · rename_i hcap
          exact sound_call hS ho hc hf hΓ h hfr hs hout hp hcap hK
        · cases hout
      · cases hout
    · cases hout
  | makeFunc fn first caps =>
    rw [ho] at hout
    cases fn with
    | func f =>
      simp only [xOp] at hout
      split at hout
      · rename_i hfi
        split at hout
        · rename_i ls hls
          injection hout with hout
          subst hout
          have hfi : first = #[] := by simpa using hfi
          subst hfi
          refine wp_same (v := .func (.func f) #[] (caps.map a.eval)) ?_ h hK rfl ⟨(caps.map a.eval).toList, rfl, by rw [caps_of hs _ _ hls, Array.toList_map]⟩
          simp [execOp, ho, Instr.makeFunc]
        · cases hout
      · cases hout
    | _ => simp [xOp] at hout
  | makeSlice t x y => rw [ho] at hout; exact sound_make hS ho hTy h hfr (hr x) (hr y) hout hp hK
  | index t x i => rw [ho] at hout; exact sound_strAt ho hTy h (hr x) (hr i) hout hp hK
  | convert src dst x => rw [ho] at hout; exact sound_conv ho hTy h (hr x) hout hp hK
  | slice t x lo hi mx =>
    cases mx with
    | some m => rw [ho] at hout; simp [xOp] at hout
    | none => rw [ho] at hout; exact sound_slice hS ho hTy h hr hout hp hK
  | _ => rw [ho] at hout; simp [xOp] at hout
end
end Go.Vc
