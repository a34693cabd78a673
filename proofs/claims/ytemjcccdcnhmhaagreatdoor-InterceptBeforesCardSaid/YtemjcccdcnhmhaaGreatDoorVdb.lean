/-
  Own engine, part 13: a region's run, over any trees.
-/
import Derived.Test.YtemjcccdcnhmhaaGreatDoorVda
namespace Go.Vc
open Go.RowKit
set_option linter.unusedVariables false

/-- Trees of what is computed: stuck; something that must hold; a branch. -/
structure Alg (τ : Type 1) where
  stuck : τ
  ob : Prop → τ → τ
  br : Bool → τ → τ → τ
structure AlgOk {τ : Type 1} (A : Alg τ) (den : τ → Prop) : Prop where
  stuck : ¬ den A.stuck
  ob : ∀ {p k}, den (A.ob p k) → p ∧ den k
  br : ∀ {b t e}, den (A.br b t e) → (b = true → den t) ∧ (b = false → den e)

def Alg.opt {τ : Type 1} (A : Alg τ) (p : Option Prop) (k : τ) : τ :=
  match p with
  | none => k
  | some p => A.ob p k
theorem AlgOk.opt {τ : Type 1} {A : Alg τ} {den : τ → Prop} (hA : AlgOk A den) {p : Option Prop} {k : τ} (h : den (A.opt p k)) : preP p ∧ den k := by
  cases p with
  | none => exact ⟨trivial, h⟩
  | some p => exact hA.ob h

def look {α : Type} (d : α) : List (Nat × α) → Nat → α
  | [], _ => d
  | (k, v) :: r, n => if Nat.beq n k then v else look d r n

theorem look_cons {α : Type} (d : α) (k : Nat) (v : α) (r : List (Nat × α)) : look d ((k, v) :: r) = upd (look d r) k v := by
  funext n
  simp only [look, upd]
  by_cases h : n = k
  · simp [h]
  · have : ¬ (n.beq k = true) := fun e => h (Nat.eq_of_beq_eq_true e)
    simp [h, this]
theorem look_rev {α : Type} (d : α) : ∀ (bs l : List (Nat × α)), look d (bs.reverse ++ l) = updL (look d l) bs
  | [], l => rfl
  | (k, v) :: bs, l => by
    rw [List.reverse_cons, List.append_assoc, List.singleton_append, look_rev d bs, look_cons]
    rfl

structure St (D : Type) where
  tmps : List (Nat × Sl D)
  blks : List (Nat × Option (Bk D))
  next : Nat

def St.slot {D : Type} (s : St D) : Nat → Sl D := look (.one (.lf .any)) s.tmps
def St.blk {D : Type} (s : St D) : Nat → Option (Bk D) := look none s.blks
def St.put {D : Type} (s : St D) (dst : Option Nat) (v : Sl D) (bs : List (Nat × Option (Bk D))) : St D :=
  match dst with
  | some d => ⟨(d, v) :: s.tmps, bs.reverse ++ s.blks, s.next⟩
  | none => ⟨s.tmps, bs.reverse ++ s.blks, s.next⟩

theorem put_slot {D : Type} (s : St D) (dst : Option Nat) (v : Sl D) (bs : List (Nat × Option (Bk D))) : (s.put dst v bs).slot = appS s.slot ⟨dst, v, bs⟩ := by
  cases dst with
  | none => rfl
  | some d => exact look_cons _ _ _ _
theorem put_blk {D : Type} (s : St D) (dst : Option Nat) (v : Sl D) (bs : List (Nat × Option (Bk D))) : (s.put dst v bs).blk = appB s.blk ⟨dst, v, bs⟩ := by
  cases dst <;> exact look_rev _ _ _
theorem put_next {D : Type} (s : St D) (dst : Option Nat) (v : Sl D) (bs : List (Nat × Option (Bk D))) : (s.put dst v bs).next = s.next := by
  cases dst <;> rfl

theorem put_pre {D : Type} {s : St D} {dst : Option Nat} {v : Sl D} {bs pre x : List (Nat × Option (Bk D))} (h : x = pre ++ (s.put dst v bs).blks) : ∃ pre', x = pre' ++ s.blks := by
  cases dst <;> exact ⟨pre ++ bs.reverse, by rw [h]; simp [St.put]⟩
theorem put_other {D : Type} {s : St D} {dst : Option Nat} {v : Sl D} {bs : List (Nat × Option (Bk D))} {t : Nat} (h : dst ≠ some t) : (s.put dst v bs).slot t = s.slot t := by
  cases dst with
  | none => rfl
  | some d =>
    show look _ _ t = look _ _ t
    rw [show (s.put (some d) v bs).tmps = (d, v) :: s.tmps from rfl, look_cons]
    exact upd_other _ _ _ _ fun e => h (by rw [e])

def meets (a b : List Nat) : Bool := a.any fun x => b.any fun y => Nat.beq x y
def badB (ops : Array Oper) (acc : List (Nat × List Nat × List Nat)) (o : Oper) (rb wb : List Nat) : Bool :=
  acc.any fun p => (meets wb p.2.1 || meets wb p.2.2 || meets rb p.2.2) && !farTo ops 3 o p.1
def dstOk (n : Nat) : Option Nat → Bool
  | none => true
  | some d => Nat.blt d n

section
variable {D : Type} {τ : Type 1}

/-- One operation, in the order of the text. -/
def stepW (A : Alg τ) (ops : Array Oper) (draw : Bool) (o : Oper) (i : Nat) (acc : List (Nat × List Nat × List Nat)) (s : St D) (out : Out D) (k : List (Nat × List Nat × List Nat) → St D → τ) : τ :=
  match draw with
  | false => A.opt out.pre (k acc (s.put o.dst out.val out.blks))
  | true =>
    if badB ops acc o (memReads s.slot s.blk o.op) (out.blks.map (·.1)) then A.stuck
    else A.opt out.pre (k ((i, memReads s.slot s.blk o.op, out.blks.map (·.1)) :: acc) (s.put o.dst out.val out.blks))
def stepV (A : Alg τ) (T : TypeId → Option Ty) (S : Sh D) (Γ : FuncId → Option (Ct D)) (ops : Array Oper) (draw : Bool) (o : Oper) (i : Nat) (acc : List (Nat × List Nat × List Nat)) (s : St D) (k : List (Nat × List Nat × List Nat) → St D → τ) : τ :=
  match xNext s.slot s.blk o.op with
  | some (b, o1, o2) => A.br b (stepW A ops draw o i acc s o1 k) (stepW A ops draw o i acc s o2 k)
  | none =>
    match xOpR T S Γ s.slot s.blk (s.next + 64 * i) o.op with
    | none => A.stuck
    | some out => stepW A ops draw o i acc s out k
def skipV (A : Alg τ) (ops : Array Oper) (draw : Bool) (o : Oper) (i : Nat) (acc : List (Nat × List Nat × List Nat)) (s : St D) (k : List (Nat × List Nat × List Nat) → St D → τ) : τ :=
  match draw with
  | false => k acc (s.put o.dst (.one (.lf (.val undef))) [])
  | true =>
    if badB ops acc o (memReads s.slot s.blk o.op) [] then A.stuck
    else k ((i, memReads s.slot s.blk o.op, []) :: acc) (s.put o.dst (.one (.lf (.val undef))) [])

def runOps (A : Alg τ) (T : TypeId → Option Ty) (S : Sh D) (Γ : FuncId → Option (Ct D)) (ops : Array Oper) (n : Nat) (draw : Bool) : List Oper → Nat → List (Nat × List Nat × List Nat) → St D → (St D → τ) → τ
  | [], i, _, s, K => K ⟨s.tmps, s.blks, s.next + 64 * i⟩
  | o :: r, i, acc, s, K =>
    match dstOk n o.dst with
    | false => A.stuck
    | true =>
      match o.guard with
      | none => stepV A T S Γ ops draw o i acc s fun acc s => runOps A T S Γ ops n draw r (i + 1) acc s K
      | some (j, want) =>
        match (ops[j]?).bind (·.dst) with
        | none => A.stuck
        | some d =>
          match s.slot d with
          | .one (.lf (.bool b)) =>
            match want with
            | true => A.br b (stepV A T S Γ ops draw o i acc ⟨(d, .one (.lf (.val (.bool true)))) :: s.tmps, s.blks, s.next⟩ fun acc s => runOps A T S Γ ops n draw r (i + 1) acc s K)
                (skipV A ops draw o i acc ⟨(d, .one (.lf (.val (.bool false)))) :: s.tmps, s.blks, s.next⟩ fun acc s => runOps A T S Γ ops n draw r (i + 1) acc s K)
            | false => A.br b (skipV A ops draw o i acc ⟨(d, .one (.lf (.val (.bool true)))) :: s.tmps, s.blks, s.next⟩ fun acc s => runOps A T S Γ ops n draw r (i + 1) acc s K)
                (stepV A T S Γ ops draw o i acc ⟨(d, .one (.lf (.val (.bool false)))) :: s.tmps, s.blks, s.next⟩ fun acc s => runOps A T S Γ ops n draw r (i + 1) acc s K)
          | .one (.lf (.val (.bool b))) =>
            match b == want with
            | true => stepV A T S Γ ops draw o i acc s fun acc s => runOps A T S Γ ops n draw r (i + 1) acc s K
            | false => skipV A ops draw o i acc s fun acc s => runOps A T S Γ ops n draw r (i + 1) acc s K
          | .one (.lf (.val v)) =>
            match notBool v with
            | true => skipV A ops draw o i acc s fun acc s => runOps A T S Γ ops n draw r (i + 1) acc s K
            | false => A.stuck
          | _ => A.stuck
end

section
variable {D : Type} {P : Program} {S : Sh D} {T : TypeId → Option Ty} {Γ : FuncId → Option (Ct D)} {N : Nat → Prop} {w w' : World} {w0 : Bs} {n : Nat} {ops : Array Oper} {τ : Type 1} {A : Alg τ} {den : τ → Prop}

def Confl (p : List Nat × List Nat) (rb wb : List Nat) : Prop := ∃ l, (l ∈ wb ∧ (l ∈ p.1 ∨ l ∈ p.2)) ∨ (l ∈ rb ∧ l ∈ p.2)

theorem meets_of {a b : List Nat} {l : Nat} (ha : l ∈ a) (hb : l ∈ b) : meets a b = true := by
  simp only [meets, List.any_eq_true]
  exact ⟨l, ha, l, hb, by simp⟩
theorem badB_no {acc : List (Nat × List Nat × List Nat)} {o : Oper} {rb wb : List Nat} (h : ¬ badB ops acc o rb wb = true) : ∀ p ∈ acc, Confl p.2 rb wb → farTo ops 3 o p.1 = true := by
  intro p hp ⟨l, hc⟩
  cases he : farTo ops 3 o p.1 with
  | true => rfl
  | false =>
    exfalso
    apply h
    simp only [badB, List.any_eq_true, Bool.and_eq_true, Bool.or_eq_true]
    refine ⟨p, hp, ?_, by simp [he]⟩
    rcases hc with ⟨hw, h1 | h2⟩ | ⟨hr, h2⟩
    · exact .inl (.inl (meets_of hw h1))
    · exact .inl (.inr (meets_of hw h2))
    · exact .inr (meets_of hr h2)

/-- The memory's side of a region that draws. -/
def MemL (ops : Array Oper) : List (Nat × List Nat × List Nat) → Nat → (Nat → Sl D) → (Nat → Option (Bk D)) → List Oper → List (Wr D) → Prop
  | _, _, _, _, [], _ => True
  | _, _, _, _, _ :: _, [] => True
  | acc, i, slot, blk, o :: r, W :: Ws => (∀ p ∈ acc, Confl p.2 (memReads slot blk o.op) W.keys → farTo ops 3 o p.1 = true) ∧ MemL ops ((i, memReads slot blk o.op, W.keys) :: acc) (i + 1) (appS slot W) (appB blk W) r Ws

/-- What a run shows. -/
def Shows (den : τ → Prop) (T : TypeId → Option Ty) (S : Sh D) (Γ : FuncId → Option (Ct D)) (ops : Array Oper) (n : Nat) (draw : Bool) (l : List Oper) (i : Nat) (acc : List (Nat × List Nat × List Nat)) (s : St D) (K : St D → τ) : Prop :=
  ∃ Ws s', Trace T S Γ ops n (s.next + 64 * i) s.slot s.blk l Ws ∧ (∀ t, Alike (appSs s.slot Ws t) (s'.slot t)) ∧ s'.blk = appBs s.blk Ws ∧ s'.next = s.next + 64 * (i + l.length) ∧ den (K s') ∧ (draw = true → MemL ops acc i s.slot s.blk l Ws) ∧
    (∃ pre, s'.blks = pre ++ s.blks) ∧ ∀ t, (∀ o ∈ ops.toList, o.dst ≠ some t) → (∀ o ∈ l, o.dst ≠ some t) → s'.slot t = s.slot t

theorem trace_alike : ∀ (l : List Oper) (Ws : List (Wr D)) (fr : Nat) (slot slot' : Nat → Sl D) (blk : Nat → Option (Bk D)), (∀ t, Alike (slot t) (slot' t)) → Trace T S Γ ops n fr slot blk l Ws → Trace T S Γ ops n fr slot' blk l Ws
  | [], [], _, _, _, _, _, _ => trivial
  | [], _ :: _, _, _, _, _, _, h => by simp [Trace] at h
  | _ :: _, [], _, _, _, _, _, h => by simp [Trace] at h
  | o :: l, W :: Ws, fr, slot, slot', blk, he, ⟨⟨s1, h1, hst⟩, hr⟩ => ⟨⟨s1, fun t => (he t).symm.trans (h1 t), hst⟩, trace_alike l Ws (fr + 64) _ _ _ (appS_alike he) hr⟩
theorem appSs_alike : ∀ (Ws : List (Wr D)) (slot slot' : Nat → Sl D), (∀ t, Alike (slot t) (slot' t)) → ∀ t, Alike (appSs slot Ws t) (appSs slot' Ws t)
  | [], _, _, h, t => h t
  | W :: Ws, _, _, h, t => appSs_alike Ws _ _ (appS_alike h) t
theorem memL_alike : ∀ (l : List Oper) (Ws : List (Wr D)) (acc : List (Nat × List Nat × List Nat)) (i : Nat) (slot slot' : Nat → Sl D) (blk : Nat → Option (Bk D)), (∀ t, Alike (slot t) (slot' t)) → MemL ops acc i slot blk l Ws → MemL ops acc i slot' blk l Ws
  | [], _, _, _, _, _, _, _, _ => trivial
  | _ :: _, [], _, _, _, _, _, _, _ => trivial
  | o :: l, W :: Ws, acc, i, slot, slot', blk, he, h => by
    have e := memReads_alike (op := o.op) (blk := blk) he
    simp only [MemL] at h ⊢
    rw [e] at h
    exact ⟨h.1, memL_alike l Ws _ _ _ _ _ (appS_alike he) h.2⟩

theorem stepV_shows {draw : Bool} {o : Oper} {r : List Oper} {i : Nat} {acc : List (Nat × List Nat × List Nat)} {s : St D} {K : St D → τ} (hA : AlgOk A den) (hd : dstOk n o.dst = true) (hw : Wanted ops s.slot o true)
    (ih : ∀ acc s, den (runOps A T S Γ ops n draw r (i + 1) acc s K) → Shows den T S Γ ops n draw r (i + 1) acc s K)
    (h : den (stepV A T S Γ ops draw o i acc s fun acc s => runOps A T S Γ ops n draw r (i + 1) acc s K)) : Shows den T S Γ ops n draw (o :: r) i acc s K := by
  have hlt : ∀ d, o.dst = some d → d < n := fun d e => by rw [e] at hd; simpa [dstOk, Nat.blt_eq] using hd
  have each : ∀ out, Does T S Γ s.slot s.blk (s.next + 64 * i) o.op out → den (stepW A ops draw o i acc s out fun acc s => runOps A T S Γ ops n draw r (i + 1) acc s K) → Shows den T S Γ ops n draw (o :: r) i acc s K := by
    intro out hx h
    have go : ∀ acc', preP out.pre → den (runOps A T S Γ ops n draw r (i + 1) acc' (s.put o.dst out.val out.blks) K) → (draw = true → acc' = (i, memReads s.slot s.blk o.op, out.blks.map (·.1)) :: acc ∧ ∀ p ∈ acc, Confl p.2 (memReads s.slot s.blk o.op) (out.blks.map (·.1)) → farTo ops 3 o p.1 = true) → Shows den T S Γ ops n draw (o :: r) i acc s K := by
      intro acc' hp hr hacc
      obtain ⟨Ws, s', htr, h1, h2, h3, h4, h5, ⟨pre, h6⟩, h7⟩ := ih acc' _ hr
      rw [put_slot, put_blk, put_next] at htr
      rw [put_slot] at h1
      rw [put_blk] at h2
      rw [put_next] at h3
      rw [put_slot, put_blk] at h5
      refine ⟨⟨o.dst, out.val, out.blks⟩ :: Ws, s', ⟨⟨s.slot, fun _ => Alike.refl _, rfl, hlt, .inl ⟨hw, out, hx, hp, rfl, rfl⟩⟩, ?_⟩, h1, h2, by rw [h3]; simp; omega, h4, fun hdr => ?_, ?_, fun t q1 q2 => ?_⟩
      · rw [show s.next + 64 * i + 64 = s.next + 64 * (i + 1) by omega]; exact htr
      · obtain ⟨e, hc⟩ := hacc hdr
        subst e
        exact ⟨hc, h5 hdr⟩
      · exact put_pre h6
      · rw [h7 t q1 fun o' ho' => q2 o' (by simp [ho'])]
        exact put_other (q2 o (by simp))
    unfold stepW at h
    split at h
    · obtain ⟨hp, hr⟩ := hA.opt h
      exact go acc hp hr (fun e => by cases e)
    · split at h
      · exact (hA.stuck h).elim
      · rename_i hb
        obtain ⟨hp, hr⟩ := hA.opt h
        exact go _ hp hr (fun _ => ⟨rfl, badB_no hb⟩)
  unfold stepV at h
  split at h
  · rename_i b o1 o2 hn
    obtain ⟨h1, h2⟩ := hA.br h
    cases hb : b with
    | true => exact each o1 (.inr ⟨b, o1, o2, hn, by rw [hb]; rfl⟩) (h1 hb)
    | false => exact each o2 (.inr ⟨b, o1, o2, hn, by rw [hb]; rfl⟩) (h2 hb)
  · split at h
    · exact (hA.stuck h).elim
    · rename_i out hx
      exact each out (.inl hx) h

theorem skipV_shows {draw : Bool} {o : Oper} {r : List Oper} {i : Nat} {acc : List (Nat × List Nat × List Nat)} {s : St D} {K : St D → τ} (hA : AlgOk A den) (hd : dstOk n o.dst = true) (hw : Wanted ops s.slot o false)
    (ih : ∀ acc s, den (runOps A T S Γ ops n draw r (i + 1) acc s K) → Shows den T S Γ ops n draw r (i + 1) acc s K)
    (h : den (skipV A ops draw o i acc s fun acc s => runOps A T S Γ ops n draw r (i + 1) acc s K)) : Shows den T S Γ ops n draw (o :: r) i acc s K := by
  have hlt : ∀ d, o.dst = some d → d < n := fun d e => by rw [e] at hd; simpa [dstOk, Nat.blt_eq] using hd
  have go : ∀ acc', den (runOps A T S Γ ops n draw r (i + 1) acc' (s.put o.dst (.one (.lf (.val undef))) []) K) → (draw = true → acc' = (i, memReads s.slot s.blk o.op, []) :: acc ∧ ∀ p ∈ acc, Confl p.2 (memReads s.slot s.blk o.op) [] → farTo ops 3 o p.1 = true) → Shows den T S Γ ops n draw (o :: r) i acc s K := by
    intro acc' hr hacc
    obtain ⟨Ws, s', htr, h1, h2, h3, h4, h5, ⟨pre, h6⟩, h7⟩ := ih acc' _ hr
    rw [put_slot, put_blk, put_next] at htr
    rw [put_slot] at h1
    rw [put_blk] at h2
    rw [put_next] at h3
    rw [put_slot, put_blk] at h5
    refine ⟨⟨o.dst, .one (.lf (.val undef)), []⟩ :: Ws, s', ⟨⟨s.slot, fun _ => Alike.refl _, rfl, hlt, .inr ⟨hw, rfl, rfl⟩⟩, ?_⟩, h1, h2, by rw [h3]; simp; omega, h4, fun hdr => ?_, ?_, fun t q1 q2 => ?_⟩
    · rw [show s.next + 64 * i + 64 = s.next + 64 * (i + 1) by omega]; exact htr
    · obtain ⟨e, hc⟩ := hacc hdr
      subst e
      exact ⟨hc, h5 hdr⟩
    · exact put_pre h6
    · rw [h7 t q1 fun o' ho' => q2 o' (by simp [ho'])]
      exact put_other (q2 o (by simp))
  unfold skipV at h
  split at h
  · exact go acc h (fun e => by cases e)
  · split at h
    · exact (hA.stuck h).elim
    · rename_i hb
      exact go _ h (fun _ => ⟨rfl, badB_no hb⟩)

theorem run_shows (hA : AlgOk A den) {draw : Bool} {K : St D → τ} : ∀ (l : List Oper) (i : Nat) (acc : List (Nat × List Nat × List Nat)) (s : St D), den (runOps A T S Γ ops n draw l i acc s K) → Shows den T S Γ ops n draw l i acc s K
  | [], i, acc, s, h => ⟨[], ⟨s.tmps, s.blks, s.next + 64 * i⟩, trivial, fun _ => Alike.refl _, rfl, rfl, h, fun _ => trivial, ⟨[], rfl⟩, fun _ _ _ => rfl⟩
  | o :: r, i, acc, s, h => by
    have ih := fun acc s => run_shows hA (draw := draw) (K := K) r (i + 1) acc s
    unfold runOps at h
    split at h
    · exact (hA.stuck h).elim
    · rename_i hd
      split at h
      · rename_i hg
        exact stepV_shows hA hd (by simp [Wanted, hg]) ih h
      · rename_i j want hg
        split at h
        · exact (hA.stuck h).elim
        · rename_i d hj
          split at h
          · rename_i b hb
            have same : ∀ c : Bool, b = c → ∀ t, Alike ((⟨(d, .one (.lf (.val (.bool c)))) :: s.tmps, s.blks, s.next⟩ : St D).slot t) (s.slot t) := by
              rintro c rfl t
              show Alike (look _ _ t) _
              rw [look_cons]
              by_cases ht : t = d
              · subst ht; rw [upd_same, hb]; exact .inr ⟨b, rfl, rfl⟩
              · rw [upd_other _ _ _ _ ht]; exact Alike.refl _
            have lift : ∀ c : Bool, b = c → Shows den T S Γ ops n draw (o :: r) i acc (⟨(d, .one (.lf (.val (.bool c)))) :: s.tmps, s.blks, s.next⟩ : St D) K → Shows den T S Γ ops n draw (o :: r) i acc s K := by
              rintro c hc ⟨Ws, s', h1, h2, h3, h4, h5, h6, h7, h8⟩
              refine ⟨Ws, s', trace_alike _ _ _ _ _ _ (same c hc) h1, fun t => (appSs_alike Ws _ _ (same c hc) t).symm.trans (h2 t), h3, h4, h5, fun hd => memL_alike _ _ _ _ _ _ _ (same c hc) (h6 hd), h7, fun t q1 q2 => (h8 t q1 q2).trans ?_⟩
              show look _ _ t = look _ _ t
              rw [look_cons]
              refine upd_other _ _ _ _ fun e => ?_
              subst e
              cases hoj : ops[j]? with
              | none => rw [hoj] at hj; cases hj
              | some oj =>
                rw [hoj] at hj
                exact q1 oj (by have := Array.mem_of_getElem? hoj; simpa using this) hj
            have wt : ∀ c : Bool, b = c → Wanted ops (⟨(d, .one (.lf (.val (.bool c)))) :: s.tmps, s.blks, s.next⟩ : St D).slot o (c == want) := by
              intro c hc
              simp only [Wanted, hg]
              refine ⟨d, hj, .inl ⟨c, ?_, rfl⟩⟩
              show bOf (look _ _ d) = _
              rw [look_cons, upd_same]
              rfl
            cases want with
            | true =>
              obtain ⟨ht, he⟩ := hA.br h
              cases hbv : b with
              | true => exact lift true hbv (stepV_shows hA hd (wt true hbv) ih (ht hbv))
              | false => exact lift false hbv (skipV_shows hA hd (wt false hbv) ih (he hbv))
            | false =>
              obtain ⟨ht, he⟩ := hA.br h
              cases hbv : b with
              | true => exact lift true hbv (skipV_shows hA hd (wt true hbv) ih (ht hbv))
              | false => exact lift false hbv (stepV_shows hA hd (wt false hbv) ih (he hbv))
          · rename_i b hb
            have wt : Wanted ops s.slot o (b == want) := by
              simp only [Wanted, hg]
              exact ⟨d, hj, .inl ⟨b, by rw [hb]; rfl, rfl⟩⟩
            split at h
            · rename_i he
              rw [he] at wt
              exact stepV_shows hA hd wt ih h
            · rename_i he
              rw [he] at wt
              exact skipV_shows hA hd wt ih h
          · rename_i v _ hv
            split at h
            · rename_i hn
              exact skipV_shows hA hd (by simp only [Wanted, hg]; exact ⟨d, hj, .inr ⟨v, hv, hn, trivial⟩⟩) ih h
            · exact (hA.stuck h).elim
          · exact (hA.stuck h).elim

theorem mem_ok : ∀ (l : List Oper) (Ws : List (Wr D)) (acc : List (Nat × List Nat × List Nat)) (b : Nat) (slot : Nat → Sl D) (blk : Nat → Option (Bk D)), MemL ops acc b slot blk l Ws →
    ∀ j oj Wj, l[j]? = some oj → Ws[j]? = some Wj → (∀ p ∈ acc, Confl p.2 (memReads (selS (fun k => decide (k < b + j)) b slot Ws) (selB (fun k => decide (k < b + j)) b blk Ws) oj.op) Wj.keys → farTo ops 3 oj p.1 = true) ∧
      ∀ i oi Wi, i < j → l[i]? = some oi → Ws[i]? = some Wi → Confl (memReads (selS (fun k => decide (k < b + i)) b slot Ws) (selB (fun k => decide (k < b + i)) b blk Ws) oi.op, Wi.keys) (memReads (selS (fun k => decide (k < b + j)) b slot Ws) (selB (fun k => decide (k < b + j)) b blk Ws) oj.op) Wj.keys → farTo ops 3 oj (b + i) = true
  | [], _, _, _, _, _, _, j, oj, Wj, hj, _ => by simp at hj
  | _ :: _, [], _, _, _, _, _, j, oj, Wj, _, hW => by simp at hW
  | o :: r, W :: Ws, acc, b, slot, blk, h, j, oj, Wj, hj, hW => by
    have e0 : selS (fun k => decide (k < b + 0)) b slot (W :: Ws) = slot := by
      funext t
      exact selS_none _ _ _ fun j W' _ _ => by simp
    have f0 : selB (fun k => decide (k < b + 0)) b blk (W :: Ws) = blk := by
      funext t
      exact selB_none _ _ _ fun j W' _ _ => by simp
    have es : ∀ j, selS (fun k => decide (k < b + (j + 1))) b slot (W :: Ws) = selS (fun k => decide (k < b + 1 + j)) (b + 1) (appS slot W) Ws := by
      intro j
      have hb : decide (b < b + (j + 1)) = true := by simp
      simp only [selS, hb, if_true]
      rw [show b + (j + 1) = b + 1 + j by omega]
    have fs : ∀ j, selB (fun k => decide (k < b + (j + 1))) b blk (W :: Ws) = selB (fun k => decide (k < b + 1 + j)) (b + 1) (appB blk W) Ws := by
      intro j
      have hb : decide (b < b + (j + 1)) = true := by simp
      simp only [selB, hb, if_true]
      rw [show b + (j + 1) = b + 1 + j by omega]
    cases j with
    | zero =>
      simp only [List.getElem?_cons_zero, Option.some.injEq] at hj hW
      subst hj hW
      rw [e0, f0]
      exact ⟨h.1, fun i _ _ hi => by omega⟩
    | succ j =>
      obtain ⟨h1, h2⟩ := mem_ok r Ws _ (b + 1) _ _ h.2 j oj Wj (by simpa using hj) (by simpa using hW)
      rw [es j, fs j]
      refine ⟨fun p hp => h1 p (by simp [hp]), fun i oi Wi hij hi hWi hc => ?_⟩
      cases i with
      | zero =>
        simp only [List.getElem?_cons_zero, Option.some.injEq] at hi hWi
        subst hi hWi
        rw [e0, f0] at hc
        exact h1 (b, memReads slot blk o.op, W.keys) (by simp) hc
      | succ i =>
        rw [es i, fs i] at hc
        have := h2 i oi Wi (by omega) (by simpa using hi) (by simpa using hWi) hc
        rwa [show b + 1 + i = b + (i + 1) by omega] at this

theorem mem_of_run {slot : Nat → Sl D} {blk : Nat → Option (Bk D)} {Ws : List (Wr D)} (h : MemL ops [] 0 slot blk ops.toList Ws) : MemOk slot blk Ws ops := by
  intro i j oj Wi Wj l hij hoj hWi hWj hc
  obtain ⟨_, h2⟩ := mem_ok ops.toList Ws [] 0 slot blk h j oj Wj (by simpa using hoj) hWj
  by_cases hi : i < ops.size
  · have hoi : ops[i]? = some ops[i] := by simp [hi]
    have := h2 i ops[i] Wi hij (by simp [hi]) hWi
    simp only [Nat.zero_add] at this
    refine this ⟨l, ?_⟩
    simpa [readsAt, hoi, hoj] using hc
  · have hj : j < ops.size := (Array.getElem?_eq_some_iff.1 hoj).1
    omega
end
end Go.Vc
