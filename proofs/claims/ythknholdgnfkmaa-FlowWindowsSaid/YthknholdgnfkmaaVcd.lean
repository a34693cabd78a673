/-
  Own engine, part 13: code, loops, functions.
-/
import Derived.Test.YthknholdgnfkmaaVcc
namespace Go.Vc
open Go.RowKit
set_option linter.unusedVariables false

inductive Ex where
  | normal
  | exit (id : Nat)
  | ret

def exOf : Ex → Exit
  | .normal => .normal
  | .exit id => .exit id
  | .ret => .ret

section
variable {D : Type}

def V.obs : List Prop → V D → V D
  | [], k => k
  | p :: r, k => .ob p (V.obs r k)
theorem V.obs_den : ∀ {ps : List Prop} {k : V D}, (V.obs ps k).den → All ps ∧ k.den
  | [], _, h => ⟨trivial, h⟩
  | _ :: _, _, h => ⟨⟨h.1, (V.obs_den h.2).1⟩, (V.obs_den h.2).2⟩

def Inv.st (I : Inv D) (nx : Nat) (x : I.X) : St D := ⟨I.slots x, (I.blks x).map fun p => (p.1, some p.2), nx⟩

def matchV (S : Sh D) (s : St D) (nx : Nat) (I : Inv D) (x : I.X) (k : V D) : V D :=
  match mSt S (sigOf s.slot s.blk (I.slots x) (I.blks x)) s.slot s.blk nx (I.slots x) (I.blks x) with
  | some ps => V.obs ps k
  | none => .stuck

/-- A loop's name: the number of the first region within. -/
def loopId : Code → Nat
  | .region id _ _ => id
  | .seq a _ => loopId a
  | .cond _ a _ => loopId a
  | .block _ b => loopId b
  | .loop b => loopId b
  | _ => 0

def wpC (T : TypeId → Option Ty) (S : Sh D) (Γ : FuncId → Option (Ct D)) (n : Nat) (J : Nat → Nat → Option (Inv D)) : Nat → Code → St D → (Ex → St D → V D) → V D
  | m, .skip, s, K => K .normal s
  | m, .region _ ops draw, s, K => runOps T S Γ ops n draw ops.toList 0 [] s fun s => K .normal s
  | m, .seq a b, s, K =>
    match J (100000 + loopId b) m with
    | none => wpC T S Γ n J m a s fun e s =>
      match e with
      | .normal => wpC T S Γ n J m b s K
      | .exit i => K (.exit i) s
      | .ret => K .ret s
    | some I => .both (wpC T S Γ n J m a s fun e s' =>
      match e with
      | .normal => .ex I.X fun x => matchV S s' (s.next + 1000) I x (.ob (I.good x) .done)
      | .exit i => K (.exit i) s'
      | .ret => K .ret s') (.all I.X fun x => .hyp (I.good x) (wpC T S Γ n J m b (I.st (s.next + 1000) x) K))
  | m, .cond c x y, s, K =>
    match opnd s.slot c with
    | .one (.lf (.bool b)) => .br b (wpC T S Γ n J m x s K) (wpC T S Γ n J m y s K)
    | .one (.lf (.val (.bool true))) => wpC T S Γ n J m x s K
    | .one (.lf (.val (.bool false))) => wpC T S Γ n J m y s K
    | _ => .stuck
  | m, .block id b, s, K => wpC T S Γ n J m b s fun e s =>
    match e with
    | .normal => K .normal s
    | .exit j => (match Nat.beq j id with
      | true => K .normal s
      | false => K (.exit j) s)
    | .ret => K .ret s
  | m, .loop b, s, K =>
    match J (loopId b) m with
    | none => .stuck
    | some I => .ex I.X fun x0 => matchV S s s.next I x0 (.ob (I.good x0) (.all I.X fun x => .hyp (I.good x) (wpC T S Γ n J (I.mu x) b (I.st s.next x) fun e s' =>
      match e with
      | .normal => .ex I.X fun x' => matchV S s' s.next I x' (.ob (I.good x') (.ob (I.mu x' < I.mu x) .done))
      | .exit i => K (.exit i) s'
      | .ret => K .ret s')))
  | m, .exit id, s, K => K (.exit id) s
  | m, .ret, s, K => K .ret s
  | _, _, _, _ => .stuck

def drawsOk : Code → Bool
  | .region _ ops draw => !draw || drawOkB ops
  | .seq a b => drawsOk a && drawsOk b
  | .cond _ a b => drawsOk a && drawsOk b
  | .block _ b => drawsOk b
  | .loop b => drawsOk b
  | _ => true
end

section
variable {D : Type} {P : Program} {S : Sh D} {T : TypeId → Option Ty} {Γ : FuncId → Option (Ct D)} {N : Nat → Prop} {w w' w0 : World} {n : Nat}

def HoldsSt (S : Sh D) (w0 : World) (N : Nat → Prop) (n : Nat) (s : St D) (a : Act) (w : World) : Prop := Holds S w0 N n s.slot s.blk (· < s.next) a w

theorem matchV_sound {s : St D} {nx : Nat} {I : Inv D} {x : I.X} {k : V D} {a : Act} (h : HoldsSt S w0 N n s a w) (hv : (matchV S s nx I x k).den) : HoldsSt S w0 N n (I.st nx x) a w ∧ k.den := by
  unfold matchV at hv
  split at hv
  · rename_i ps hm
    obtain ⟨ha, hk⟩ := V.obs_den hv
    exact ⟨match_sound h hm ha, hk⟩
  · exact hv.elim

theorem run_region {id : Nat} {ops : Array Oper} {draw : Bool} {s : St D} {K : St D → V D} {a : Act} {Q : Exit → Act → World → Prop} (hmx : P.follows .mixedOrders = true) (hTy : ∀ t ty, T t = some ty → tyOf P t = some ty) (hΓ : ∀ f ct, Γ f = some ct → CtOk P S f ct) (hS : ShOk S)
    (hd : (!draw || drawOkB ops) = true) (hv : (runOps T S Γ ops n draw ops.toList 0 [] s K).den) (h : HoldsSt S w0 N n s a w) (hQ : ∀ s' a' w', HoldsSt S w0 N n s' a' w' → (K s').den → Q .normal a' w') : (Code.region id ops draw).wp P Q a w := by
  obtain ⟨Ws, s', htr, h1, h2, h3, h4, h5⟩ := run_shows _ _ _ _ hv
  simp only [Nat.add_zero] at htr
  have hlen : ops.toList.length = ops.size := by simp
  have fin : ∀ a w, Holds S w0 N n (appSs s.slot Ws) (appBs s.blk Ws) (· < s.next + ops.size) a w → Q .normal a w := by
    intro a w hh
    refine hQ s' a w ?_ h4
    unfold HoldsSt
    rw [h2, h3, hlen, Nat.zero_add]
    exact hh.alike h1
  cases draw with
  | false =>
    refine wp_region ?_
    rw [List.range_eq_range', ← hlen]
    exact text_ops hTy hΓ hS ops.toList Ws 0 s.next s.slot s.blk a w (fun j => by simp) htr h (by rw [hlen]; exact fin)
  | true =>
    have hd : drawOkB ops = true := by simpa using hd
    exact draw_region hmx hTy hΓ hS hd htr (mem_of_run (blk := s.blk) (h5 rfl)) h fin

theorem wpC_sound {J : Nat → Nat → Option (Inv D)} (hmx : P.follows .mixedOrders = true) (hTy : ∀ t ty, T t = some ty → tyOf P t = some ty) (hΓ : ∀ f ct, Γ f = some ct → CtOk P S f ct) (hS : ShOk S) :
    ∀ (c : Code) (m : Nat) (s : St D) (K : Ex → St D → V D) (Q : Exit → Act → World → Prop) (a : Act) (w : World), drawsOk c = true → (wpC T S Γ n J m c s K).den → HoldsSt S w0 N n s a w →
      (∀ e s' a' w', HoldsSt S w0 N n s' a' w' → (K e s').den → Q (exOf e) a' w') → c.wp P Q a w := by
  intro c
  induction c with
  | skip => intro m s K Q a w _ hv h hQ; exact wp_skip (hQ .normal s a w h hv)
  | region id ops draw => intro m s K Q a w hd hv h hQ; exact run_region hmx hTy hΓ hS hd hv h fun s' a' w' h' hk => hQ .normal s' a' w' h' hk
  | seq x y ihx ihy =>
    intro m s K Q a w hd hv h hQ
    simp only [drawsOk, Bool.and_eq_true] at hd
    simp only [wpC] at hv
    split at hv
    · refine wp_seq (ihx m s _ _ a w hd.1 hv h fun e s' a' w' h' hk => ?_)
      cases e with
      | normal => exact ihy m s' K Q a' w' hd.2 hk h' hQ
      | exit i => exact hQ (.exit i) s' a' w' h' hk
      | ret => exact hQ .ret s' a' w' h' hk
    · rename_i I hI
      obtain ⟨h1, h2⟩ := hv
      refine wp_seq (ihx m s _ _ a w hd.1 h1 h fun e s' a' w' h' hk => ?_)
      cases e with
      | normal =>
        obtain ⟨x, hm⟩ := hk
        obtain ⟨hm, hg, _⟩ := matchV_sound h' hm
        exact ihy m _ K Q a' w' hd.2 (h2 x hg) hm hQ
      | exit i => exact hQ (.exit i) s' a' w' h' hk
      | ret => exact hQ .ret s' a' w' h' hk
  | cond c x y ihx ihy =>
    intro m s K Q a w hd hv h hQ
    simp only [drawsOk, Bool.and_eq_true] at hd
    simp only [wpC] at hv
    split at hv
    · rename_i b hb
      have hh := h
      obtain ⟨g, hp, hs, _⟩ := h
      have hc := opnd_rel hs c
      rw [hb] at hc
      exact wp_cond_split hc (fun ht => ihx m s K Q a w hd.1 (hv.1 ht) hh hQ) (fun hf => ihy m s K Q a w hd.2 (hv.2 hf) hh hQ)
    · rename_i hb
      have hh := h
      obtain ⟨g, hp, hs, _⟩ := h
      have hc := opnd_rel hs c
      rw [hb] at hc
      exact wp_cond_true hc (ihx m s K Q a w hd.1 hv hh hQ)
    · rename_i hb
      have hh := h
      obtain ⟨g, hp, hs, _⟩ := h
      have hc := opnd_rel hs c
      rw [hb] at hc
      exact wp_cond_false hc (ihy m s K Q a w hd.2 hv hh hQ)
    · exact hv.elim
  | block id b ih =>
    intro m s K Q a w hd hv h hQ
    refine wp_block (ih m s _ _ a w hd hv h fun e s' a' w' h' hk => ?_)
    cases e with
    | normal => exact hQ .normal s' a' w' h' hk
    | exit j =>
      simp only at hk
      show Exit.inBlock id Q (.exit j) a' w'
      simp only [Exit.inBlock]
      split at hk
      · rename_i hj
        rw [if_pos (Nat.eq_of_beq_eq_true hj)]
        exact hQ .normal s' a' w' h' hk
      · rename_i hj
        rw [if_neg (by rintro rfl; simp at hj)]
        exact hQ (.exit j) s' a' w' h' hk
    | ret => exact hQ .ret s' a' w' h' hk
  | loop b ih =>
    intro m s K Q a w hd hv h hQ
    simp only [wpC] at hv
    split at hv
    · exact hv.elim
    rename_i I hI
    obtain ⟨x0, hv⟩ := hv
    obtain ⟨h0, hg0, hall⟩ := matchV_sound h hv
    refine wp_loop_ghost (fun m' a w => ∃ x, I.mu x = m' ∧ I.good x ∧ HoldsSt S w0 N n (I.st s.next x) a w) (I.mu x0) ⟨x0, rfl, hg0, h0⟩ ?_
    rintro m' a w ⟨x, rfl, hg, hx⟩
    refine ih _ _ _ _ a w hd (hall x hg) hx fun e s' a' w' h' hk => ?_
    cases e with
    | normal =>
      obtain ⟨x', hm⟩ := hk
      obtain ⟨h1, hg', hmu, _⟩ := matchV_sound h' hm
      exact ⟨I.mu x', hmu, x', rfl, hg', h1⟩
    | exit i => exact hQ (.exit i) s' a' w' h' hk
    | ret => exact hQ .ret s' a' w' h' hk
  | exit id => intro m s K Q a w _ hv h hQ; exact wp_exit (hQ (.exit id) s a w h hv)
  | ret => intro m s K Q a w _ hv h hQ; exact wp_ret (hQ .ret s a w h hv)
  | _ => intro m s K Q a w _ hv; exact hv.elim
end

/-! ### functions -/
section
variable {D : Type}

def resVar (T : TypeId → Option Ty) (S : Sh D) (s : St D) : ResultVar → Option (Sv D)
  | .tmp t => (match s.slot t with
    | .one u => some u
    | _ => none)
  | .cell t ty => (match xLoad T S s.blk ty (s.slot t) with
    | some ⟨none, .one u, _⟩ => some u
    | _ => none)
def resVars (T : TypeId → Option Ty) (S : Sh D) (s : St D) : List ResultVar → Option (List (Sv D))
  | [] => some []
  | r :: rs => (match resVar T S s r, resVars T S s rs with
    | some u, some us => some (u :: us)
    | _, _ => none)
def resSl (T : TypeId → Option Ty) (S : Sh D) (s : St D) (rs : List ResultVar) : Option (Sl D) :=
  match resVars T S s rs with
  | some [u] => some (.one u)
  | some us => some (.tup us)
  | none => none

def retV (T : TypeId → Option Ty) (S : Sh D) (rs : List ResultVar) (r : Sl D) (s : St D) : V D :=
  match resSl T S s rs with
  | some u => (match mSl [] s.blk u r with
    | some ps => V.obs ps .done
    | none => .stuck)
  | none => .stuck

def retK (T : TypeId → Option Ty) (S : Sh D) (rs : List ResultVar) (r : Sl D) : Ex → St D → V D
  | .normal, s => retV T S rs r s
  | .ret, s => retV T S rs r s
  | .exit _, _ => .stuck

def initT : Nat → List (Sl D) → List (Nat × Sl D)
  | _, [] => []
  | i, x :: xs => (i, x) :: initT (i + 1) xs
def St.init (args : List (Sl D)) : St D := ⟨initT 0 args, [], 0⟩
end

section
variable {D : Type} {P : Program} {S : Sh D} {T : TypeId → Option Ty} {Γ : FuncId → Option (Ct D)} {N : Nat → Prop} {w w' w0 : World} {n : Nat}

theorem SlsRel.length {M : Nat → Prop} {g : Nat → Option Value} : ∀ {xs : List (Sl D)} {vs : List Value}, SlsRel S M w g xs vs → xs.length = vs.length
  | [], [], _ => rfl
  | _ :: _, _ :: _, h => by simp [SlsRel.length h.2]

theorem init_rel {M : Nat → Prop} {g : Nat → Option Value} : ∀ (xs : List (Sl D)) (vs : List Value) (i : Nat) (f : Nat → Value), SlsRel S M w g xs vs → (∀ j v, vs[j]? = some v → f (i + j) = v) → ∀ t, (look (.one (.lf .any)) (initT i xs) t).Rel S M w g (f t)
  | [], _, _, _, _, _, _ => trivial
  | x :: xs, v :: vs, i, f, h, hf, t => by
    simp only [initT, look]
    split
    · rename_i ht
      have ht := Nat.eq_of_beq_eq_true ht
      subst ht
      have := hf 0 v rfl
      simp only [Nat.add_zero] at this
      rw [this]
      exact h.1
    · exact init_rel xs vs (i + 1) f h.2 (fun j u hj => by have := hf (j + 1) u (by simpa using hj); rwa [show i + (j + 1) = i + 1 + j by omega] at this) t

theorem mset_none {g : Nat → Option Value} : Mset N (look none ([] : List (Nat × Option (Bk D)))) g = N := by
  funext b
  simp only [Mset, look]
  simp

theorem init_holds {args : List Value} {sargs : List (Sl D)} {k : Nat} (hN : ∀ b, N b → b < w.heap.size) (hr : SlsRel S N w noG sargs args) (hle : sargs.length ≤ n) :
    HoldsSt S w N n (St.init sargs) { tmps := args.toArray ++ Array.replicate (n - args.toArray.size) undef, defers := [] } w := by
  have hl := hr.length
  refine ⟨noG, ⟨Below.refl _ _, hN, fun l bk h => by simp [St.init, St.blk, look] at h, fun l l' v v' b h => by simp [St.init, St.blk, look] at h, fun l v h => by simp [noG] at h, fun l v h => by simp [noG] at h⟩, fun t => ?_, by simp; omega, rfl⟩
  have hM : Mset N (St.init sargs).blk noG = N := mset_none
  rw [hM]
  refine init_rel sargs args 0 (fun t => (args.toArray ++ Array.replicate (n - args.toArray.size) undef).getD t undef) hr (fun j v hj => ?_) t
  have hlt : j < args.length := (List.getElem?_eq_some_iff.1 hj).1
  have hv : args[j] = v := by simpa [List.getElem?_eq_getElem hlt] using hj
  simp only [Nat.zero_add, Array.getD]
  have : j < (args.toArray ++ Array.replicate (n - args.toArray.size) undef).size := by simp; omega
  rw [dif_pos this]
  show (args.toArray ++ Array.replicate (n - args.toArray.size) undef)[j] = v
  rw [Array.getElem_append_left (by simpa using hlt)]
  simpa using hv


/-- A result, as the model reads it. -/
def resRun (tmps : Array Value) : ResultVar → Sem Value
  | .tmp t => pure (tmps.getD t undef)
  | .cell a t => do loadVar t (← asAddr (tmps.getD a undef))

theorem resVars_run {s : St D} {a : Act} {g : Nat → Option Value} (hTy : ∀ t ty, T t = some ty → tyOf P t = some ty) (hp : Hp S w0 N s.blk g (· < s.next) w) (hs : ∀ t, (s.slot t).Rel S (Mset N s.blk g) w g (a.tmps.getD t undef)) :
    ∀ (rs : List ResultVar) (us : List (Sv D)), resVars T S s rs = some us → ∃ vs, (rs.mapM (resRun a.tmps)).run P w = .ok vs w ∧ SvsRel S (Mset N s.blk g) w g us vs
  | [], us, h => by
    injection h with h
    subst h
    exact ⟨[], rfl, trivial⟩
  | r :: rs, us, h => by
    unfold resVars at h
    split at h
    · rename_i u us' hu hus
      injection h with h
      subst h
      obtain ⟨vs, hrun, hrel⟩ := resVars_run hTy hp hs rs us' hus
      have : ∃ v, (resRun a.tmps r).run P w = .ok v w ∧ u.Rel S (Mset N s.blk g) w g v := by
        cases r with
        | tmp t =>
          simp only [resVar] at hu
          split at hu
          · rename_i x hx
            injection hu with hu
            subst hu
            have := hs t
            rw [hx] at this
            exact ⟨_, rfl, this⟩
          · cases hu
        | cell t ty =>
          simp only [resVar] at hu
          split at hu
          · rename_i x b hx
            injection hu with hu
            subst hu
            cases hTT : T ty with
            | none => simp [xLoad, hTT] at hx
            | some tyv =>
              obtain ⟨ad, v, hv, hr, hrl⟩ := xLoad_run (hTy _ _ hTT) hTT hp (hs t) hx trivial
              exact ⟨v, by simp only [resRun, hv, asAddr, Sem.run_bind, Sem.run_pure, Result.andThen_ok]; exact hr, hrl⟩
          · cases hu
      obtain ⟨v, hv, hrv⟩ := this
      refine ⟨v :: vs, ?_, hrv, hrel⟩
      simp only [List.mapM_cons, Sem.run_bind, hv, Result.andThen_ok, hrun, Sem.run_pure]
    · cases h

theorem results_run {s : St D} {a : Act} {g : Nat → Option Value} {fn : Func} {u : Sl D} (hTy : ∀ t ty, T t = some ty → tyOf P t = some ty) (hp : Hp S w0 N s.blk g (· < s.next) w) (hs : ∀ t, (s.slot t).Rel S (Mset N s.blk g) w g (a.tmps.getD t undef))
    (h : resSl T S s fn.results.toList = some u) : ∃ v, (results fn a.tmps).run P w = .ok v w ∧ u.Rel S (Mset N s.blk g) w g v := by
  unfold resSl at h
  have key : ∀ us, resVars T S s fn.results.toList = some us → ∃ vs : List Value, (results fn a.tmps).run P w = .ok (if h : vs.toArray.size = 1 then vs.toArray[0] else .tuple vs.toArray) w ∧ SvsRel S (Mset N s.blk g) w g us vs := by
    intro us hus
    obtain ⟨vs, hrun, hrel⟩ := resVars_run hTy hp hs _ us hus
    refine ⟨vs, ?_, hrel⟩
    unfold results
    rw [Sem.run_bind, Array.mapM_eq_mapM_toList, Sem.run_map]
    change (((Sem.run P (fn.results.toList.mapM (resRun a.tmps)) w).andThen fun a w' => Result.ok a.toArray w').andThen _) = _
    rw [hrun]
    rfl
  split at h
  · rename_i x hx
    injection h with h
    subst h
    obtain ⟨vs, hr, hrel⟩ := key _ hx
    cases vs with
    | nil => exact hrel.elim
    | cons v vs =>
      cases vs with
      | nil => exact ⟨v, hr, hrel.1⟩
      | cons v' vs => exact hrel.2.elim
  · rename_i us hne hx
    injection h with h
    subst h
    obtain ⟨vs, hr, hrel⟩ := key _ hx
    have hl : us.length ≠ 1 := by
      intro hl
      cases us with
      | nil => simp at hl
      | cons x xs =>
        cases xs with
        | nil => exact hne x rfl
        | cons y ys => simp at hl
    rw [hrel.length] at hl
    exact ⟨_, hr, by rw [dif_neg (by simpa using hl)]; exact ⟨vs, rfl, hrel⟩⟩
  · cases h

theorem fn_ok {f : FuncId} {fn : Func} {c : Code} {n : Nat} {rs : List ResultVar} (hmx : P.follows .mixedOrders = true) (hTy : ∀ t ty, T t = some ty → tyOf P t = some ty) (hΓ : ∀ f ct, Γ f = some ct → CtOk P S f ct) (hS : ShOk S)
    (hf : P.funcs[f]? = some fn) (hb : fn.body = some c) (hnm : (fn.name == "runtime.NumGoroutine") = false) (hn : fn.ntmps = n) (hrs : fn.results.toList = rs) (hdr : drawsOk c = true) (ct : Ct D)
    (hct : ∀ sargs p r, ct sargs = some (p, r) → sargs.length ≤ n ∧ (preP p → ∃ J, (wpC T S Γ n J 0 c (St.init sargs) (retK T S rs r)).den)) : CtOk P S f ct := by
  subst hn hrs
  refine ⟨fun args w => ?_, fun N w args sargs p r hN hrel hc hp => ?_⟩
  · have hnm' : ¬ fn.name = "runtime.NumGoroutine" := by simpa using hnm
    simp [callFunc, hf, hnm', hb]
  · obtain ⟨hle, hv⟩ := hct sargs p r hc
    obtain ⟨J, hv⟩ := hv hp
    refine calls_of_wp hf hb (wpC_sound hmx hTy hΓ hS (w0 := w) (N := N) c _ _ _ _ _ w hdr hv (init_holds (k := 0) hN hrel hle) fun e s' a' w' h' hk => ?_)
    have fin : (retV T S fn.results.toList r s').den → a'.defers = [] ∧ ∃ v, (results fn a'.tmps).run P w' = .ok v w' ∧ ∃ v', Ending.returned v = .returned v' ∧ Below w.heap.size w w' ∧ r.Rel S N w' noG v' ∧ ∀ e d, r = .one (.lf (.new e d)) → NewOk S w.heap.size N w' e d v' := by
      intro hk
      obtain ⟨g, hpp, hs, hn, hdf⟩ := h'
      unfold retV at hk
      split at hk
      · rename_i u hu
        split at hk
        · rename_i ps hm
          obtain ⟨ha, _⟩ := V.obs_den hk
          obtain ⟨v, hrun, hr⟩ := results_run (a := a') hTy hpp hs hu
          have hsub : Sub S w N s'.blk g [] N := by
            refine ⟨fun b hb => .inl hb, fun c v b hbc hgc _ hb hNb => ?_⟩
            obtain ⟨bk, hbk⟩ := Option.isSome_iff_exists.1 hbc
            obtain ⟨v', hv', hok⟩ := hpp.bks c bk hbk
            rw [hgc] at hv'
            injection hv' with hv'
            subst hv'
            have := (hok.lt hb).2
            have := hN b hNb
            omega
          have hgo : gOf [] g = noG := rfl
          refine ⟨hdf, v, hrun, v, rfl, hpp.below, by rw [← hgo]; exact mSl_rel hpp hsub hm ha hr, ?_⟩
          rintro e d rfl
          -- a row of the call's own, handed over
          cases u with
          | tup us => simp [mSl] at hm
          | one x =>
            cases x with
            | agg xs => simp [mSl, mSv] at hm
            | lf x =>
              simp only [mSl, mSv, mLf] at hm
              split at hm
              · exact (mOwn_rel hpp hsub hm ha hr).2 e rfl
              · cases hm
        · exact hk.elim
      · exact hk.elim
    cases e with
    | normal => exact fin hk
    | ret => exact fin hk
    | exit i => exact hk.elim
end
end Go.Vc
