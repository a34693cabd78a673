/-
  Own engine: Vej.
-/
import Derived.Test.YtcdhbdjlamikgaaGreatDoorEng19
namespace Go.Vc
open Go.RowKit
set_option linter.unusedVariables false
set_option linter.unusedSimpArgs false

section
variable {D : Type}
/-- What a tree without forks asks and gives. -/
def Tr.line : {R : Type} → Tr D R → Option (Prop × R)
  | _, .ret r => some (True, r)
  | _, .ob p k => (match k.line with
    | some (q, r) => some (p.p ∧ q, r)
    | none => none)
  | _, .as _ k => k.line
  | _, .br b t e => cond b t.line e.line
  | _, .stuck _ => none
  | _, .halt _ _ => none
  | _, .unk _ _ _ => none
  | _, .loop _ _ _ => none
  | _, .cut _ _ _ => none
theorem Tr.line_run : ∀ {R : Type} (t : Tr D R) (q : Prop) (r : R), t.line = some (q, r) → q → t.run r = some r
  | _, .ret r, q, r', h, _ => by injection h with h; injection h with _ h; subst h; rfl
  | _, .ob p k, q, r', h, hq => by
    simp only [Tr.line] at h
    split at h
    · rename_i q' r'' hk
      injection h with h
      injection h with h1 h2
      subst h1 h2
      simp only [Tr.run]
      rw [need_pos hq.1]
      exact Tr.line_run k q' r'' hk hq.2
    · cases h
  | _, .as p k, q, r', h, hq => by
    have := Tr.line_run k q r' h hq
    simp only [Tr.run]
    by_cases hp : p
    · rw [asm_pos hp]; exact this
    · rw [asm_neg hp]
  | _, .br b t e, q, r', h, hq => by
    cases b with
    | true => exact Tr.line_run t q r' h hq
    | false => exact Tr.line_run e q r' h hq
  | _, .stuck _, q, r', h, _ => by cases h
  | _, .halt _ _, q, r', h, _ => by cases h
  | _, .unk _ _ _, q, r', h, _ => by cases h
  | _, .loop _ _ _, q, r', h, _ => by cases h
  | _, .cut _ _ _, q, r', h, _ => by cases h
/-- The contract out of the code. -/
def ctI (T : TypeId → Option Ty) (S : Sh D) (Γ : FuncId → Option (Ct D)) (fn : Func) : Ct D := fun args bks =>
  if Nat.ble args.length fn.ntmps then
    (match (evC T S Γ fn.ntmps (fun _ => none) (bodyF fn) (ResU D) (St.init args bks) (retUL T S fn.results.toList bks.length)).line with
    | none => none
    | some (q, r, post, keep) => some (some (dq q), r, post, keep)) else none
end

section
variable {D : Type} {P : Program} {S : Sh D} {T : TypeId → Option Ty} {Γ : FuncId → Option (Ct D)} {N : Nat → Prop} {w w' : World} {w0 : Bs} {g0 : Nat → Option Value} {n : Nat} {al : Nat → Prop} {g : Nat → Option Value} {blk : Nat → Option (Bk D)} {ids : List Nat}
theorem ctI_ok {f : FuncId} {fn : Func} (hmx : P.follows .mixedOrders = true) (hTy : ∀ t ty, T t = some ty → TyOk P t ty) (hΓ : ∀ f ct, Γ f = some ct → CtOk P S f ct) (hS : ShOk S) (hf : P.funcs[f]? = some fn) (hc : chkF fn = true) : CtOk P S f (ctI T S Γ fn) := by
  simp only [chkF, Bool.and_eq_true, bne_iff_ne, ne_eq] at hc
  obtain ⟨h1, h2, h3⟩ := hc
  obtain ⟨c, hb⟩ := Option.isSome_iff_exists.1 h1
  have hbf : bodyF fn = c := by simp [bodyF, hb]
  refine ⟨fun args w => by simp [callFunc, hf, h2, hb], fun X N g w args sargs bks p r post kp hp hrel hct hpre => ?_⟩
  unfold ctI at hct
  split at hct
  · rename_i hle
    have hle := Nat.le_of_ble_eq_true hle
    split at hct
    · cases hct
    rename_i q r' post' keep' hgo
    injection hct with hct
    injection hct with q1 hct
    injection hct with q2 hct
    injection hct with q3 q4
    subst q1 q2 q3 q4
    have hgo := Tr.line_run _ _ _ hgo hpre
    rw [hbf] at hgo h3
    have hlt : ∀ l v, g l = some v → l < bks.length := hp.al
    have hrf : ∀ (l : Nat) (bk : Bk D), bks[l]? = some bk → ∀ r ∈ bk.refs, r < bks.length := fun l bk hb r hr => by
      obtain ⟨v, hv, hok⟩ := hp.bks l bk hb
      cases bk with
      | cells cs =>
        obtain ⟨b, vs, t, _, _, _, hr'⟩ := hok
        obtain ⟨u, hu⟩ := LfsRel.refs_some hr' r hr
        exact hlt r u hu
      | row e d => simp [Bk.refs] at hr
      | ice d => simp [Bk.refs] at hr
      | iter s p => simp [Bk.refs] at hr
      | map kvs => simp [Bk.refs] at hr
      | tc t cs =>
        obtain ⟨b, vs, _, _, _, hr'⟩ := hok
        obtain ⟨u, hu⟩ := LfsRel.refs_some hr' r hr
        exact hlt r u hu
    refine calls_of_wp hf hb (ev_sound (J := fun _ => none) (fun _ _ h => by cases h) hmx hTy hΓ hS (w0 := ⟨w, X⟩) (N := N) c _ _ _ _ _ _ _ w h3 hgo (init_holds hp hrel hle) fun e s' a' w' h' hpb _ hk => ?_)
    have fin : (retU T S fn.results.toList bks.length s').run (r', post', keep') = some (r', post', keep') → a'.defers = [] ∧ ∃ v, (results fn a'.tmps).run P w' = .ok v w' ∧ ∃ v' g', Ending.returned v = .returned v' ∧ More g g' ∧ Hp S ⟨w, X⟩ N (tabK post' keep' bks) g' (fun _ => True) w' ∧
        r'.Rel S (Mset N (tabK post' keep' bks) g') w' g' v' := by
      intro hk
      obtain ⟨h1, v, h2, g', h3, h4, h5⟩ := retU_sound hTy hlt hrf hpb h' hk
      exact ⟨h1, v, h2, v, g', rfl, h3, h4, h5⟩
    cases e with
    | normal => exact fin hk
    | ret => exact fin hk
    | exit i => cases hk
  · cases hct
/-- The same, as a seat's contract. -/
def entI (Z : Seat D) (l : List (Ent Z)) (f : FuncId) {fn : Func} (hf : Z.P.funcs[f]? = some fn) (hc : chkF fn = true) : Ent Z :=
  ⟨f, ctI Z.T Z.S (envL l) fn, ctI_ok Z.mx Z.hT (fun _ _ h => envL_ok h) Z.hS hf hc⟩
end
end Go.Vc
