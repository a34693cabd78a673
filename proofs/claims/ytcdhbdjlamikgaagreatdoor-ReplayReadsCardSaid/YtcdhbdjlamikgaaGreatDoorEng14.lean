/-
  Own engine: Vde.
-/
import Derived.Test.YtcdhbdjlamikgaaGreatDoorEng13
namespace Go.Vc
open Go.RowKit
set_option linter.unusedVariables false
set_option linter.unusedSimpArgs false

section
variable {D : Type}

def refsAt' (blk : Nat → Option (Bk D)) (l : Nat) : List Nat :=
  match blk l with
  | some bk => bk.refs
  | none => []
def rangeOk (ids : List Nat) : Nat → Bool
  | 0 => true
  | n + 1 => (match ids[n]? with
    | some l => Nat.beq l n
    | none => false) && rangeOk ids n
/-- Is the lent block i as it was? -/
def keptB (keys : List Nat) (lent i : Nat) : Bool := Nat.blt i lent && !memB i keys
/-- The blocks that are whole: what they point to is there. -/
def liveOnce (blk : Nat → Option (Bk D)) (l : Nat) : Option (Bk D) :=
  match blk l with
  | some bk => if bk.refs.all fun r => (blk r).isSome then some bk else none
  | none => none
def liveB (blk : Nat → Option (Bk D)) : Nat → Option (Bk D) := liveOnce (liveOnce blk)
def postU (blk : Nat → Option (Bk D)) (ids keys : List Nat) (lent : Nat) : List Nat → Nat → List (Nat × Bk D)
  | [], _ => []
  | l :: r, i => (match keptB keys lent i, blk l with
    | false, some bk => (i, bk.ren (posIn ids)) :: postU blk ids keys lent r (i + 1)
    | _, _ => postU blk ids keys lent r (i + 1))
def keepU (blk : Nat → Option (Bk D)) (keys : List Nat) (lent : Nat) : List Nat := (List.range lent).filter fun i => keptB keys lent i && (blk i).isSome
def slOf (us : List (Sv D)) : Sl D :=
  match us with
  | [u] => .one u
  | us => .tup us
abbrev ResU (D : Type) := Sl D × List (Nat × Bk D) × List Nat
def retU (T : TypeId → Option Ty) (S : Sh D) (rs : List ResultVar) (lent : Nat) (s : St D) : Tr D (ResU D) :=
  match resVars T S s rs with
  | none => .halt 603 s
  | some us =>
    let ids := reach s.blk 5 (addNew (List.range lent) (us.flatMap Sv.refs))
    let keys := (s.blks.take (s.blks.length - lent)).map (·.1)
    if rangeOk ids lent && allIn ids (us.flatMap Sv.refs) && allIn ids (ids.flatMap (refsAt' s.blk)) then
      .ret (slOf (us.map (Sv.ren (posIn ids))), postU (liveB s.blk) ids keys lent ids 0, keepU (liveB s.blk) keys lent)
    else .halt 605 s
def retUL (T : TypeId → Option Ty) (S : Sh D) (rs : List ResultVar) (lent : Nat) : Ex → St D → Tr D (ResU D)
  | .normal, s => retU T S rs lent s
  | .ret, s => retU T S rs lent s
  | .exit _, s => .halt 604 s
/-- The same, off the tries. -/
noncomputable def resK (T : TypeId → Option Ty) (S : Sh D) (sl : Nat → Sl D) (bl : Nat → Option (Bk D)) : ResultVar → Option (Sv D)
  | .tmp t => (match sl t with
    | .one u => some u
    | _ => none)
  | .cell t ty => (match xLoad T S bl ty (sl t) with
    | some ⟨none, .one u, _⟩ => some u
    | _ => none)
noncomputable def ressK (T : TypeId → Option Ty) (S : Sh D) (sl : Nat → Sl D) (bl : Nat → Option (Bk D)) : List ResultVar → Option (List (Sv D))
  | [] => some []
  | r :: rs => (match resK T S sl bl r, ressK T S sl bl rs with
    | some u, some us => some (u :: us)
    | _, _ => none)
noncomputable def retK (T : TypeId → Option Ty) (S : Sh D) (rs : List ResultVar) (lent : Nat) (k : Kt D) : Option (ResU D) :=
  match ressK T S (sget k.sl) (bget k.bl) rs with
  | none => none
  | some us =>
    let ids := reach (bget k.bl) 5 (addNew (List.range lent) (us.flatMap Sv.refs))
    let keys := (k.s.blks.take (k.s.blks.length - lent)).map (·.1)
    if rangeOk ids lent && allIn ids (us.flatMap Sv.refs) && allIn ids (ids.flatMap (refsAt' (bget k.bl))) then
      some (slOf (us.map (Sv.ren (posIn ids))), postU (liveB (bget k.bl)) ids keys lent ids 0, keepU (liveB (bget k.bl)) keys lent)
    else none
noncomputable def retUK (T : TypeId → Option Ty) (S : Sh D) (rs : List ResultVar) (lent : Nat) : Ex → Kt D → Option (ResU D)
  | .normal, s => retK T S rs lent s
  | .ret, s => retK T S rs lent s
  | .exit _, _ => none
theorem resK_ok {T : TypeId → Option Ty} {S : Sh D} {s : St D} {r : ResultVar} {u : Sv D} (h : resK T S s.slot s.blk r = some u) : resVar T S s r = some u := by
  cases r with
  | tmp t => exact h
  | cell t ty =>
    simp only [resK] at h
    simp only [resVar]
    split at h
    · rename_i x b hx
      rw [hx]
      exact h
    · cases h
theorem ressK_ok {T : TypeId → Option Ty} {S : Sh D} {s : St D} : ∀ {rs : List ResultVar} {us : List (Sv D)}, ressK T S s.slot s.blk rs = some us → resVars T S s rs = some us
  | [], us, h => h
  | r :: rs, us, h => by
    unfold ressK at h
    split at h
    · rename_i u us' h1 h2
      unfold resVars
      rw [resK_ok h1, ressK_ok h2]
      exact h
    · cases h
theorem retUK_ok {T : TypeId → Option Ty} {S : Sh D} {rs : List ResultVar} {lent : Nat} {e : Ex} {k : Kt D} {r : ResU D} (hk : KtOk k) (h : retUK T S rs lent e k = some r) : (retUL T S rs lent e k.s).go = some r := by
  have key : retK T S rs lent k = some r → (retU T S rs lent k.s).go = some r := by
    intro h
    unfold retK at h
    unfold retU
    rw [hk.sl, hk.bl] at h
    split at h
    · cases h
    · rename_i us hus
      rw [ressK_ok hus]
      dsimp only at h ⊢
      split at h
      · rename_i hc
        rw [if_pos hc]
        exact h
      · cases h
  cases e with
  | normal => exact key h
  | ret => exact key h
  | exit i => cases h
/-- The contract by running. -/
noncomputable def ctU (T : TypeId → Option Ty) (S : Sh D) (Γ : FuncId → Option (Ct D)) (m : Nat) (fn : Func) : Ct D := fun args bks =>
  if Nat.ble args.length fn.ntmps then
    (match Kt.init args bks with
    | none => none
    | some k => (match evK T S Γ fn.ntmps m (bodyF fn) k with
      | none => none
      | some (e, k) => (match retUK T S fn.results.toList bks.length e k with
        | none => none
        | some (r, post, keep) => some (none, r, post, keep)))) else none
end

section
variable {D : Type} {P : Program} {S : Sh D} {T : TypeId → Option Ty} {Γ : FuncId → Option (Ct D)} {N : Nat → Prop} {w w' : World} {w0 : Bs} {g0 : Nat → Option Value} {n : Nat} {al : Nat → Prop} {g : Nat → Option Value} {blk : Nat → Option (Bk D)} {ids : List Nat}

theorem rangeOk_at : ∀ {n : Nat}, rangeOk ids n = true → ∀ i, i < n → ids[i]? = some i
  | 0, _, i, h => by omega
  | n + 1, h, i, hi => by
    simp only [rangeOk, Bool.and_eq_true] at h
    by_cases hin : i = n
    · subst hin
      have := h.1
      split at this
      · rename_i l hl; rw [hl, Nat.eq_of_beq_eq_true this]
      · cases this
    · exact rangeOk_at h.2 i (by omega)
theorem caps_id {f : Nat → Nat} : ∀ {l : List Nat}, (∀ x ∈ l, f x = x) → l.map f = l
  | [], _ => rfl
  | x :: r, h => by rw [List.map_cons, h x (by simp), caps_id fun y hy => h y (by simp [hy])]
theorem Lf.ren_same {f : Nat → Nat} {x : Lf D} (h : ∀ l ∈ x.refs, f l = l) : x.ren f = x := by
  cases x <;> simp only [Lf.ren] <;> simp only [Lf.refs, List.mem_singleton, forall_eq] at h <;> first | rw [h] | (rw [caps_id h]) | rfl
theorem lfs_ren_id {f : Nat → Nat} : ∀ {xs : List (Lf D)}, (∀ l ∈ xs.flatMap Lf.refs, f l = l) → xs.map (Lf.ren f) = xs
  | [], _ => rfl
  | x :: xs, h => by
    rw [List.map_cons, Lf.ren_same fun l hl => h l (by simp [hl]), lfs_ren_id fun l hl => h l (by simp only [List.flatMap_cons, List.mem_append]; exact .inr hl)]
theorem Bk.ren_same {f : Nat → Nat} {bk : Bk D} (h : ∀ l ∈ bk.refs, f l = l) : bk.ren f = bk := by
  cases bk with
  | cells cs => simp only [Bk.ren]; rw [lfs_ren_id h]
  | tc t cs => simp only [Bk.ren]; rw [lfs_ren_id h]
  | _ => rfl

theorem postU_look {keys : List Nat} {lent : Nat} : ∀ (r : List Nat) (i k : Nat) (bk : Bk D), lookB (postU blk ids keys lent r i) k = some bk → ∃ l bk0, r[k - i]? = some l ∧ i ≤ k ∧ blk l = some bk0 ∧ bk = bk0.ren (posIn ids)
  | [], i, k, bk, h => by cases h
  | l :: r, i, k, bk, h => by
    have next : lookB (postU blk ids keys lent r (i + 1)) k = some bk → ∃ l' bk0, (l :: r)[k - i]? = some l' ∧ i ≤ k ∧ blk l' = some bk0 ∧ bk = bk0.ren (posIn ids) := fun h => by
      obtain ⟨l', bk0, h1, h2, h3, h4⟩ := postU_look r (i + 1) k bk h
      exact ⟨l', bk0, by rw [show k - i = (k - (i + 1)) + 1 by omega]; simpa using h1, by omega, h3, h4⟩
    unfold postU at h
    split at h
    · rename_i bk0 hk hb
      unfold lookB at h
      split at h
      · rename_i he
        have he := Nat.eq_of_beq_eq_true he
        subst he
        injection h with h
        exact ⟨l, bk0, by simp, Nat.le_refl _, hb, h.symm⟩
      · exact next h
    · exact next h

theorem live_once {l : Nat} {bk : Bk D} (h : liveOnce blk l = some bk) : blk l = some bk := by
  unfold liveOnce at h
  split at h
  · rename_i b hb
    split at h
    · rw [hb]; exact h
    · cases h
  · cases h
theorem live_some {l : Nat} {bk : Bk D} (h : liveB blk l = some bk) : blk l = some bk := live_once (live_once h)
theorem mset_ids {tab : Nat → Option (Bk D)} (hat : ∀ i bk, tab i = some bk → ∃ l bk0, ids[i]? = some l ∧ blk l = some bk0 ∧ bk = bk0.ren (posIn ids)) : ∀ b, Mset N tab (gc g ids) b → Mset N blk g b := by
  rintro b (hb | ⟨i, v, h1, h2, h3⟩)
  · exact .inl hb
  · obtain ⟨bk, hbk, hh⟩ := hot_some h1
    obtain ⟨l, bk0, hl, hb0, rfl⟩ := hat i bk hbk
    refine .inr ⟨l, v, ?_, by simpa [gc, hl] using h2, h3⟩
    rw [hb0]
    have := hot_ren (f := posIn ids) (some bk0)
    simp only [Option.map_some] at this
    rw [← this]; exact hh
/-- What is left, under other names. -/
theorem Hp.named (h : Hp S w0 N blk g al w) {tab : Nat → Option (Bk D)} (hn : ids.Nodup) (hat : ∀ i bk, tab i = some bk → ∃ l bk0, ids[i]? = some l ∧ blk l = some bk0 ∧ bk = bk0.ren (posIn ids)) (hrefs : ∀ l ∈ ids, ∀ bk, blk l = some bk → ∀ r ∈ bk.refs, r ∈ ids) :
    Hp S w0 N tab (gc g ids) (fun _ => True) w := by
  have hotr : ∀ bk0 : Bk D, hot (some (bk0.ren (posIn ids))) = true → hot (some bk0) = true := fun bk0 hh => by
    have := hot_ren (f := posIn ids) (some bk0)
    simp only [Option.map_some] at this
    rw [← this]; exact hh
  refine ⟨h.below, h.hN, ?_, ?_, fun _ _ _ => trivial, ?_, h.gl.mono fun b hb => mset_ids hat b hb⟩
  · intro i bk hi
    obtain ⟨l, bk0, hl, hb0, rfl⟩ := hat i bk hi
    obtain ⟨v, hv, hok⟩ := h.bks l bk0 hb0
    refine ⟨v, by simp [gc, hl, hv], hok.ren (fun l' hl' u hu => ?_) (fun _ b hb => mset_ids hat b hb) (fun hh b hb => (h.mine (by rw [hb0]; exact hh) hv hb).2)⟩
    rw [gc_pos (hrefs l (List.mem_of_getElem? hl) bk0 hb0 l' hl')]
    exact hu
  · intro i j vi vj b hi hj hgi hgj hbi hbj
    obtain ⟨bki, hbki, hhi⟩ := hot_some hi
    obtain ⟨bkj, hbkj, hhj⟩ := hot_some hj
    obtain ⟨l, bk0, hl, hb0, rfl⟩ := hat i bki hbki
    obtain ⟨l', bk0', hl', hb0', rfl⟩ := hat j bkj hbkj
    have := h.sep l l' vi vj b (by rw [hb0]; exact hotr _ hhi) (by rw [hb0']; exact hotr _ hhj) (by simpa [gc, hl] using hgi) (by simpa [gc, hl'] using hgj) hbi hbj
    subst this
    rw [← posIn_of hn hl, ← posIn_of hn hl']
  · intro i v hi
    simp only [gc] at hi
    cases hl : ids[i]? with
    | none => rw [hl] at hi; cases hi
    | some l => rw [hl] at hi; exact h.refs l v hi

theorem svs_len {M : Nat → Prop} : ∀ {xs : List (Sv D)} {vs : List Value}, SvsRel S M w g xs vs → xs.length = vs.length := SvsRel.length
theorem slOf_rel {M : Nat → Prop} {us : List (Sv D)} {vs : List Value} (h : SvsRel S M w g us vs) : (slOf us).Rel S M w g (if h : vs.toArray.size = 1 then vs.toArray[0] else .tuple vs.toArray) := by
  match us, vs, h with
  | [], [], h => exact ⟨[], rfl, trivial⟩
  | [u], [v], h => exact h.1
  | u :: u' :: us, v :: v' :: vs, h =>
    have : ¬ (v :: v' :: vs).toArray.size = 1 := by simp
    rw [dif_neg this]
    exact ⟨v :: v' :: vs, rfl, h⟩

theorem retU_sound {s : St D} {a : Act} {fn : Func} {bks : List (Bk D)} {r : Sl D} {post : List (Nat × Bk D)} {keep : List Nat} (hTy : ∀ t ty, T t = some ty → TyOk P t ty) (hlt : ∀ l v, g0 l = some v → l < bks.length) (hrf : ∀ (l : Nat) (bk : Bk D), bks[l]? = some bk → ∀ r ∈ bk.refs, r < bks.length)
    (hpre : ∃ pre, s.blks = pre ++ initB 0 bks) (h : HoldsSt S w0 g0 N n s a w) {e0 : ResU D} (hr : (retU T S fn.results.toList bks.length s).run e0 = some (r, post, keep)) :
    a.defers = [] ∧ ∃ v, (results fn a.tmps).run P w = .ok v w ∧ ∃ g', More g0 g' ∧ Hp S w0 N (tabK post keep bks) g' (fun _ => True) w ∧ r.Rel S (Mset N (tabK post keep bks) g') w g' v := by
  obtain ⟨g, hp, hs, hn, hdf, hm⟩ := h
  unfold retU at hr
  split at hr
  · cases hr
  rename_i us hus
  obtain ⟨vs, hrun, hrel⟩ := resVars_run hTy hp hs _ us hus
  dsimp only at hr
  split at hr
  · rename_i hc
    injection hr with hr
    injection hr with q1 hr
    injection hr with q2 q3
    simp only [Bool.and_eq_true] at hc
    obtain ⟨⟨c1, c2⟩, c3⟩ := hc
    generalize hids : reach s.blk 5 (addNew (List.range bks.length) (us.flatMap Sv.refs)) = ids at *
    generalize hkeys : (s.blks.take (s.blks.length - bks.length)).map (·.1) = keys at *
    have hnd : ids.Nodup := by
      rw [← hids]
      exact reach_nodup _ _ (addNew_nodup _ _ List.nodup_range)
    have c1 := rangeOk_at c1
    have c2 := allIn_mem c2
    have c3 := allIn_mem c3
    have hrefs : ∀ l ∈ ids, ∀ bk, s.blk l = some bk → ∀ r ∈ bk.refs, r ∈ ids := fun l hl bk hb r hr => c3 r (List.mem_flatMap.2 ⟨l, hl, by simp only [refsAt', hb]; exact hr⟩)
    obtain ⟨pre, hpre⟩ := hpre
    have hil : ∀ (bks : List (Bk D)) (i : Nat), (initB i bks).length = bks.length := fun bks => by
      induction bks with
      | nil => intro i; rfl
      | cons b r ih => intro i; simp [initB, ih]
    have hk : keys = pre.map (·.1) := by
      rw [← hkeys, hpre]
      simp [hil]
    have hat : ∀ i bk, tabK post keep bks i = some bk → ∃ l bk0, ids[i]? = some l ∧ s.blk l = some bk0 ∧ bk = bk0.ren (posIn ids) := by
      intro i bk hi
      unfold tabK at hi
      split at hi
      · rename_i bk' hb'
        injection hi with hi
        subst hi
        rw [← q2] at hb'
        obtain ⟨l, bk0, h1, _, h3, h4⟩ := postU_look _ _ _ _ hb'
        exact ⟨l, bk0, by simpa using h1, live_some h3, h4⟩
      · split at hi
        · rename_i hmem
          have hmem := memB_iff.1 hmem
          rw [← q3] at hmem
          unfold keepU at hmem
          obtain ⟨m1, m2⟩ := List.mem_filter.1 hmem
          have m2 := (Bool.and_eq_true_iff.1 m2).1
          simp only [keptB, Bool.and_eq_true, Bool.not_eq_true'] at m2
          have hil' : i < bks.length := by simpa [Nat.blt_eq] using m2.1
          have hno : i ∉ pre.map (·.1) := by rw [← hk]; exact memB_no m2.2
          refine ⟨i, bk, c1 i hil', ?_, (Bk.ren_same fun l hl => ?_).symm⟩
          · show look none s.blks i = some bk
            rw [hpre, look_append, if_neg hno, initB_tab]
            exact hi
          · exact posIn_of hnd (c1 l (hrf i bk hi l hl))
        · cases hi
    refine ⟨hdf, if h : vs.toArray.size = 1 then vs.toArray[0] else .tuple vs.toArray, ?_, gc g ids, fun l v hl => ?_, hp.named hnd hat hrefs, ?_⟩
    · unfold results
      rw [Sem.run_bind, Array.mapM_eq_mapM_toList, Sem.run_map]
      change (((Sem.run P (fn.results.toList.mapM (resRun a.tmps)) w).andThen fun a w' => Result.ok a.toArray w').andThen _) = _
      rw [hrun]
      rfl
    · simp only [gc, c1 l (hlt l v hl), Option.bind_some]
      exact hm l v hl
    · rw [← q1]
      refine slOf_rel (hrel.ren (fun l hl u hu => ?_) fun _ b hb => mset_ids hat b hb)
      rw [gc_pos (c2 l hl)]
      exact hu
  · cases hr

/-- The contract by running holds. -/
theorem ctU_ok {f : FuncId} {fn : Func} {m : Nat} (hmx : P.follows .mixedOrders = true) (hTy : ∀ t ty, T t = some ty → TyOk P t ty) (hΓ : ∀ f ct, Γ f = some ct → CtOk P S f ct) (hS : ShOk S) (hf : P.funcs[f]? = some fn) (hc : chkF fn = true) (hid : idsOk (bodyF fn) = true) : CtOk P S f (ctU T S Γ m fn) := by
  simp only [chkF, Bool.and_eq_true, bne_iff_ne, ne_eq] at hc
  obtain ⟨h1, h2, h3⟩ := hc
  obtain ⟨c, hb⟩ := Option.isSome_iff_exists.1 h1
  have hbf : bodyF fn = c := by simp [bodyF, hb]
  refine ⟨fun args w => by simp [callFunc, hf, h2, hb], fun X N g w args sargs bks p r post kp hp hrel hct hpre => ?_⟩
  unfold ctU at hct
  split at hct
  · rename_i hle
    have hle := Nat.le_of_ble_eq_true hle
    split at hct
    · cases hct
    rename_i k0 hk0
    obtain ⟨i1, i2⟩ := init_ok hk0
    split at hct
    · cases hct
    rename_i e1 k1 hev
    rw [evK_eq] at hev
    obtain ⟨v1, v2⟩ := evUK_ok _ i1 hev
    rw [i2] at v2
    split at hct
    · cases hct
    · rename_i r' post' keep' hgo
      have hgo := retUK_ok v1 hgo
      injection hct with hct
      injection hct with q1 hct
      injection hct with q2 hct
      injection hct with q3 q4
      subst q1 q2 q3 q4
      rw [← evU_go (K := retUL T S fn.results.toList bks.length) _ hid v2] at hgo
      have hgo := Tr.go_run _ _ hgo
      rw [hbf] at hgo h3
      have hlt : ∀ l v, g l = some v → l < bks.length := hp.al
      have hrf : ∀ (l : Nat) (bk : Bk D), bks[l]? = some bk → ∀ r ∈ bk.refs, r < bks.length := fun l bk hb r hr => by
        obtain ⟨v, hv, hok⟩ := hp.bks l bk hb
        cases bk with
        | cells cs =>
          obtain ⟨b, vs, t, _, _, _, hr'⟩ := hok
          obtain ⟨u, hu⟩ := LfsRel.refs_some hr' r hr
          exact hlt r u hu
        | row e d => simp [Bk.refs] at hr
        | ice d => simp [Bk.refs] at hr
        | iter s p => simp [Bk.refs] at hr
        | map kvs => simp [Bk.refs] at hr
        | tc t cs =>
          obtain ⟨b, vs, _, _, _, hr'⟩ := hok
          obtain ⟨u, hu⟩ := LfsRel.refs_some hr' r hr
          exact hlt r u hu
      refine calls_of_wp hf hb (ev_sound JU_ok hmx hTy hΓ hS (w0 := ⟨w, X⟩) (N := N) c _ _ _ _ _ _ _ w h3 hgo (init_holds hp hrel hle) fun e s' a' w' h' hpb _ hk => ?_)
      have fin : (retU T S fn.results.toList bks.length s').run (r', post', keep') = some (r', post', keep') → a'.defers = [] ∧ ∃ v, (results fn a'.tmps).run P w' = .ok v w' ∧ ∃ v' g', Ending.returned v = .returned v' ∧ More g g' ∧ Hp S ⟨w, X⟩ N (tabK post' keep' bks) g' (fun _ => True) w' ∧
          r'.Rel S (Mset N (tabK post' keep' bks) g') w' g' v' := by
        intro hk
        obtain ⟨h1, v, h2, g', h3, h4, h5⟩ := retU_sound hTy hlt hrf hpb h' hk
        exact ⟨h1, v, h2, v, g', rfl, h3, h4, h5⟩
      cases e with
      | normal => exact fin hk
      | ret => exact fin hk
      | exit i => cases hk
  · cases hct

/-- All functions, by running; k calls deep. -/
def fnOf (P : Program) (f : FuncId) : Option Func :=
  match P.funcs[f]? with
  | some fn => if chkF fn && idsOk (bodyF fn) then some fn else none
  | none => none
noncomputable def gamU (P : Program) (T : TypeId → Option Ty) (S : Sh D) (ext : FuncId → Option (Ct D)) (m : Nat) : Nat → FuncId → Option (Ct D)
  | 0, _ => none
  | k + 1, f => (match ext f with
    | some ct => (match fnOf P f with
      | some fn => some (ctOr ct (ctU T S (gamU P T S ext m k) m fn))
      | none => some ct)
    | none => (match fnOf P f with
      | some fn => some (ctU T S (gamU P T S ext m k) m fn)
      | none => none))
theorem gamU_ok {ext : FuncId → Option (Ct D)} {m : Nat} (hmx : P.follows .mixedOrders = true) (hTy : ∀ t ty, T t = some ty → TyOk P t ty) (hS : ShOk S) (hext : ∀ f ct, ext f = some ct → CtOk P S f ct) : ∀ (k : Nat) (f : FuncId) (ct : Ct D), gamU P T S ext m k f = some ct → CtOk P S f ct
  | 0, f, ct, h => by cases h
  | k + 1, f, ct, h => by
    have key : ∀ fn, fnOf P f = some fn → CtOk P S f (ctU T S (gamU P T S ext m k) m fn) := fun fn hfn => by
      unfold fnOf at hfn
      split at hfn
      · rename_i fn' hf
        split at hfn
        · rename_i hck
          injection hfn with hfn
          subst hfn
          rw [Bool.and_eq_true] at hck
          exact ctU_ok hmx hTy (gamU_ok hmx hTy hS hext k) hS hf hck.1 hck.2
        · cases hfn
      · cases hfn
    unfold gamU at h
    split at h
    · rename_i c hc
      split at h
      · rename_i fn hfn
        injection h with h
        subst h
        exact ctOr_ok (hext f c hc) (key fn hfn)
      · injection h with h
        subst h
        exact hext f c hc
    · split at h
      · rename_i fn hfn
        injection h with h
        subst h
        exact key fn hfn
      · cases h
end
end Go.Vc
