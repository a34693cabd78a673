/-
  Own engine, part 8: regions: in the order of the text, and in whatever order the edges allow.
-/
import Derived.Test.YtemjcccdcnhmhaaGreatDoorVdw
namespace Go.Vc
open Go.RowKit
set_option linter.unusedVariables false

def notBool : Value → Bool
  | .bool _ => false
  | _ => true

/-- What an operation writes: a slot, and blocks of the call's own. -/
structure Wr (D : Type) where
  dst : Option Nat
  val : Sl D
  blks : List (Nat × Option (Bk D))

def appS {D : Type} (slot : Nat → Sl D) (W : Wr D) : Nat → Sl D :=
  match W.dst with
  | some d => upd slot d W.val
  | none => slot
def appB {D : Type} (blk : Nat → Option (Bk D)) (W : Wr D) : Nat → Option (Bk D) := updL blk W.blks

/-- Is the operation wanted (r)? -/
def Wanted {D : Type} (ops : Array Oper) (slot : Nat → Sl D) (o : Oper) (r : Bool) : Prop :=
  match o.guard with
  | none => r = true
  | some (j, want) => ∃ d, (ops[j]?).bind (·.dst) = some d ∧ ((∃ b, bOf (slot d) = some b ∧ r = (b == want)) ∨ (∃ v, slot d = .one (.lf (.val v)) ∧ notBool v = true ∧ r = false))

def StepOk {D : Type} (T : TypeId → Option Ty) (S : Sh D) (Γ : FuncId → Option (Ct D)) (ops : Array Oper) (n fr : Nat) (slot : Nat → Sl D) (blk : Nat → Option (Bk D)) (o : Oper) (W : Wr D) : Prop :=
  W.dst = o.dst ∧ (∀ d, o.dst = some d → d < n) ∧
  ((Wanted ops slot o true ∧ ∃ out, Does T S Γ slot blk fr o.op out ∧ preP out.pre ∧ W.val = out.val ∧ W.blks = out.blks) ∨
   (Wanted ops slot o false ∧ W.val = .one (.lf (.val undef)) ∧ W.blks = []))

/-- The machine's state stands for the symbolic one. -/
def Holds {D : Type} (S : Sh D) (w0 : Bs) (g0 : Nat → Option Value) (N : Nat → Prop) (n : Nat) (slot : Nat → Sl D) (blk : Nat → Option (Bk D)) (al : Nat → Prop) (a : Act) (w : World) : Prop :=
  ∃ g, Hp S w0 N blk g al w ∧ (∀ t, (slot t).Rel S (Mset N blk g) w g (a.tmps.getD t undef)) ∧ a.tmps.size = n ∧ a.defers = [] ∧ More g0 g

section
variable {D : Type} {P : Program} {S : Sh D} {T : TypeId → Option Ty} {Γ : FuncId → Option (Ct D)} {N : Nat → Prop} {w w' : World} {w0 : Bs} {g0 : Nat → Option Value} {blk : Nat → Option (Bk D)} {al : Nat → Prop}
  {a : Act} {o : Oper} {K : Act → World → Prop} {Q : Exit → Act → World → Prop} {slot : Nat → Sl D} {fr n : Nat} {ops : Array Oper} {W : Wr D}

theorem getD_put {d : Option Tmp} {v : Value} {t : Nat} (hd : ∀ x, d = some x → x < a.tmps.size) : (a.put d v).tmps.getD t undef = if d = some t then v else a.tmps.getD t undef := by
  cases d with
  | none => simp [Act.put]
  | some d =>
    have := hd d rfl
    simp only [Act.put]
    by_cases h : d = t
    · subst h
      simp [Array.getD, this]
    · rw [if_neg (by simpa using h)]
      simp only [Array.getD]
      by_cases ht : t < a.tmps.size
      · simp [ht, h]
      · simp [ht]

theorem wanted_spec {g : Nat → Option Value} {M : Nat → Prop} {r : Bool} (hs : ∀ t, (slot t).Rel S M w g (a.tmps.getD t undef)) (h : Wanted ops slot o r) : Region.wanted o (yielded ops a.tmps) = r := by
  unfold Wanted at h
  unfold Region.wanted
  split at h
  · rename_i hg; simp only [hg]; exact h.symm
  · rename_i j want hg
    simp only [hg]
    obtain ⟨d, hd, h⟩ := h
    have hy : ∀ v, a.tmps.getD d undef = v → notBool v = true → yielded ops a.tmps j = none := by
      intro v hv hn
      simp only [yielded, hd, Option.bind_some]
      by_cases hlt : d < a.tmps.size
      · simp only [Array.getD, hlt, dif_pos] at hv
        simp only [Array.getElem?_eq_getElem hlt]
        have : a.tmps[d] = v := hv
        rw [this]
        cases v <;> first | rfl | simp [notBool] at hn
      · simp [hlt]
    rcases h with ⟨b, hb, rfl⟩ | ⟨v, hv, hn, rfl⟩
    · have := hs d
      have this := bOf_rel hb this
      have hy2 : yielded ops a.tmps j = some b := by
        simp only [yielded, hd, Option.bind_some]
        by_cases hlt : d < a.tmps.size
        · simp only [Array.getD, hlt, dif_pos] at this
          simp only [Array.getElem?_eq_getElem hlt]
          have h2 : a.tmps[d] = .bool b := this
          rw [h2]
        · simp [Array.getD, hlt, undef] at this
      rw [hy2]
      cases b <;> cases want <;> rfl
    · have := hs d
      rw [hv] at this
      simp only [Sl.Rel, Sv.Rel, Lf.Rel] at this
      rw [hy v this hn]
      rfl

/-- The same, or the same bool, known or not. -/
def Alike (x y : Sl D) : Prop := x = y ∨ ∃ b, bOf x = some b ∧ bOf y = some b
theorem Alike.refl (x : Sl D) : Alike x x := .inl rfl
theorem Alike.symm {x y : Sl D} (h : Alike x y) : Alike y x := by
  rcases h with rfl | ⟨b, h1, h2⟩
  · exact .inl rfl
  · exact .inr ⟨b, h2, h1⟩
theorem Alike.trans {x y z : Sl D} (h : Alike x y) (k : Alike y z) : Alike x z := by
  rcases h with rfl | ⟨b, h1, h2⟩
  · exact k
  · rcases k with rfl | ⟨c, h3, h4⟩
    · exact .inr ⟨b, h1, h2⟩
    · rw [h2] at h3
      injection h3 with h3
      subst h3
      exact .inr ⟨b, h1, h4⟩
theorem bOf_mk {M : Nat → Prop} {g : Nat → Option Value} {x : Sl D} {b : Bool} (h : bOf x = some b) : x.Rel S M w g (.bool b) := by
  unfold bOf at h
  split at h
  · injection h with h; subst h; rfl
  · injection h with h; subst h; rfl
  · cases h
theorem Alike.rel {M : Nat → Prop} {g : Nat → Option Value} {x y : Sl D} {v : Value} (h : Alike x y) (hr : x.Rel S M w g v) : y.Rel S M w g v := by
  rcases h with rfl | ⟨b, h1, h2⟩
  · exact hr
  · rw [bOf_rel h1 hr]; exact bOf_mk h2
theorem Holds.alike {slot' : Nat → Sl D} (h : Holds S w0 g0 N n slot blk al a w) (he : ∀ t, Alike (slot t) (slot' t)) : Holds S w0 g0 N n slot' blk al a w := by
  obtain ⟨g, hp, hs, hr⟩ := h
  exact ⟨g, hp, fun t => (he t).rel (hs t), hr⟩
theorem appS_alike {slot' : Nat → Sl D} (he : ∀ t, Alike (slot t) (slot' t)) (t : Nat) : Alike (appS slot W t) (appS slot' W t) := by
  unfold appS
  cases W.dst with
  | none => exact he t
  | some d =>
    by_cases ht : t = d
    · subst ht
      show Alike (upd slot t W.val t) (upd slot' t W.val t)
      rw [upd_same, upd_same]; exact Alike.refl _
    · show Alike (upd slot d W.val t) (upd slot' d W.val t)
      rw [upd_other _ _ _ _ ht, upd_other _ _ _ _ ht]; exact he t

/-- ONE OPERATION, wanted or not. -/
theorem step_sound {i : Nat} (hTy : ∀ t ty, T t = some ty → TyOk P t ty) (hΓ : ∀ f ct, Γ f = some ct → CtOk P S f ct) (hS : ShOk S) (ho : ops[i]? = some o) (h : Holds S w0 g0 N n slot blk al a w) (hfr : ∀ n, fr ≤ n → n < fr + 64 → ¬ al n)
    (hst : StepOk T S Γ ops n fr slot blk o W) (hK : ∀ a' w', Holds S w0 g0 N n (appS slot W) (appB blk W) (fun l => al l ∨ (fr ≤ l ∧ l < fr + 64)) a' w' → K a' w') : wpOp P ops Q i K a w := by
  obtain ⟨g, hp, hs, hn, hdf, hm0⟩ := h
  obtain ⟨hdst, hlt, hst⟩ := hst
  have fin : ∀ v w' g', More g g' → Keeps (Mset N blk g) w (Mset N (appB blk W) g') w' → Hp S w0 N (appB blk W) g' (fun l => al l ∨ (fr ≤ l ∧ l < fr + 64)) w' → W.val.Rel S (Mset N (appB blk W) g') w' g' v → K (a.put o.dst v) w' := by
    intro v w' g' hm hk hp' hv
    have hsz : ∀ x, o.dst = some x → x < a.tmps.size := fun x hx => by rw [hn]; exact hlt x hx
    refine hK _ _ ⟨g', hp', fun t => ?_, ?_, ?_, fun l v h => hm l v (hm0 l v h)⟩
    · rw [getD_put hsz]
      by_cases hd : o.dst = some t
      · rw [if_pos hd]
        simp only [appS, hdst, hd, upd_same]
        exact hv
      · rw [if_neg hd]
        have : appS slot W t = slot t := by
          unfold appS
          rw [hdst]
          cases he : o.dst with
          | none => rfl
          | some d => exact upd_other _ _ _ _ (fun e => hd (by rw [he, e]))
        rw [this]
        exact (hs t).keep hk hm
    · cases hd : o.dst <;> simp [Act.put, hn]
    · cases hd : o.dst <;> simp [Act.put, hdf]
  unfold wpOp
  simp only [ho]
  rcases hst with ⟨hw, out, hx, hpre, hv, hb⟩ | ⟨hw, hv, hb⟩
  · rw [wanted_spec hs hw, if_pos rfl]
    refine .inl (sound_does hTy hΓ hS hp hfr hs hx hpre ?_)
    intro v w' g' hm hk hp' hr
    refine fin v w' g' hm ?_ ?_ ?_
    · simpa [appB, hb] using hk
    · simpa [appB, hb] using hp'
    · simpa [appB, hb, hv] using hr
  · rw [wanted_spec hs hw]
    have hb' : appB blk W = blk := by simp [appB, hb, updL]
    refine fin undef w g (More.refl _) (by rw [hb']; exact Keeps.refl _ _) (by rw [hb']; exact hp.weaken fun _ h => .inl h) (by rw [hv]; rfl)

/-- The operations, one behind the other: what each writes. -/
def Trace (T : TypeId → Option Ty) (S : Sh D) (Γ : FuncId → Option (Ct D)) (ops : Array Oper) (n : Nat) : Nat → (Nat → Sl D) → (Nat → Option (Bk D)) → List Oper → List (Wr D) → Prop
  | _, _, _, [], [] => True
  | fr, slot, blk, o :: r, W :: Ws => (∃ slot', (∀ t, Alike (slot t) (slot' t)) ∧ StepOk T S Γ ops n fr slot' blk o W) ∧ Trace T S Γ ops n (fr + 64) (appS slot W) (appB blk W) r Ws
  | _, _, _, _, _ => False

def appSs : (Nat → Sl D) → List (Wr D) → (Nat → Sl D)
  | slot, [] => slot
  | slot, W :: Ws => appSs (appS slot W) Ws
def appBs : (Nat → Option (Bk D)) → List (Wr D) → (Nat → Option (Bk D))
  | blk, [] => blk
  | blk, W :: Ws => appBs (appB blk W) Ws

theorem text_ops (hTy : ∀ t ty, T t = some ty → TyOk P t ty) (hΓ : ∀ f ct, Γ f = some ct → CtOk P S f ct) (hS : ShOk S) :
    ∀ (l : List Oper) (Ws : List (Wr D)) (i fr : Nat) (slot : Nat → Sl D) (blk : Nat → Option (Bk D)) (a : Act) (w : World), (∀ j, l[j]? = ops[i + j]?) → Trace T S Γ ops n fr slot blk l Ws → Holds S w0 g0 N n slot blk (· < fr) a w →
      (∀ a' w', Holds S w0 g0 N n (appSs slot Ws) (appBs blk Ws) (· < fr + 64 * l.length) a' w' → Q .normal a' w') → wpOps P ops Q (List.range' i l.length) a w
  | [], [], i, fr, slot, blk, a, w, _, _, h, hQ => by simpa [wpOps] using hQ a w (by simpa [appSs, appBs] using h)
  | [], _ :: _, _, _, _, _, _, _, _, ht, _, _ => by simp [Trace] at ht
  | _ :: _, [], _, _, _, _, _, _, _, ht, _, _ => by simp [Trace] at ht
  | o :: l, W :: Ws, i, fr, slot, blk, a, w, hl, ht, h, hQ => by
    rw [List.length_cons, List.range'_succ, wpOps_cons]
    have h0 : ops[i]? = some o := by simpa using (hl 0).symm
    obtain ⟨⟨slot', he, hst⟩, ht2⟩ := ht
    refine step_sound hTy hΓ hS h0 (h.alike he) (by omega) hst fun a' w' h' => ?_
    obtain ⟨g, hp, hrest⟩ := h'.alike (appS_alike fun t => (he t).symm)
    refine text_ops hTy hΓ hS l Ws (i + 1) (fr + 64) _ _ a' w' (fun j => by have := hl (j + 1); simpa [Nat.add_assoc, Nat.add_comm 1 j] using this) ht2 ⟨g, hp.weaken fun l hl => by omega, hrest⟩ fun a'' w'' h'' => hQ a'' w'' ?_
    have e : fr + 64 * (l.length + 1) = fr + 64 + 64 * l.length := by omega
    rw [List.length_cons, e]
    simpa only [appSs, appBs] using h''
end
end Go.Vc
