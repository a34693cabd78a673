/-
  Own engine: Vec.
-/
import Derived.Test.YtcdhbdjlamikgaaGreatDoorEng16
import Derived.Lib.Bytealg
namespace Go.Vc
open Go.RowKit
set_option linter.unusedVariables false
set_option linter.unusedSimpArgs false

section
variable {D : Type} {P : Program} {S : Sh D}
/-- A function of plain values. -/
def ctPure (g : List (Sl D) → Option (Sl D)) : Ct D := fun args bks =>
  match bks, g args with
  | [], some r => some (none, r, [], [])
  | _, _ => none
theorem tab_nil : tabK (D := D) [] [] [] = tabOf [] := by
  funext i
  simp [tabK, tabOf, lookB, memB]
theorem ctPure_ok {f : FuncId} {g : List (Sl D) → Option (Sl D)} (hen : ∀ (args : Array Value) (w : World), (callFunc f args).run P w = .ok (.enter f args) w)
    (h : ∀ (M : Nat → Prop) (w : World) (gh : Nat → Option Value) (args : List (Sl D)) (vals : List Value) (r : Sl D), g args = some r → SlsRel S M w gh args vals → ∃ v, (Calls P f vals.toArray w fun e w' => e = .returned v ∧ w' = w) ∧ r.Rel S M w gh v) : CtOk P S f (ctPure g) := by
  refine ⟨hen, fun X N gh w args sargs bks p r post kp hp hrel hct hpre => ?_⟩
  unfold ctPure at hct
  split at hct
  · rename_i r' hr
    injection hct with hct
    injection hct with q1 hct
    injection hct with q2 hct
    injection hct with q3 q4
    subst q2 q3 q4
    obtain ⟨v, hc, hv⟩ := h _ _ _ _ _ _ hr hrel
    refine hc.mono ?_
    rintro e w' ⟨rfl, rfl⟩
    refine ⟨v, gh, rfl, fun _ _ h => h, ?_, ?_⟩
    · rw [tab_nil]; exact hp.weaken fun _ _ => trivial
    · rw [tab_nil]; exact hv
  · cases hct

/-! ### strings.Builder's check -/
def ctCheck (tB : TypeId) : Ct D := fun args bks =>
  match args, bks with
  | [.one (.lf (.ptr 0 0))], .tc t [c1] :: r => if Nat.beq t tB then some (none, .tup [], [(0, .tc t [c1])], (List.range (r.length + 1)).filter fun i => !Nat.beq i 0) else none
  | _, _ => none
theorem tabK_all {bks : List (Bk D)} {n : Nat} (h : bks.length = n) : tabK [] (List.range n) bks = tabOf bks := by
  funext i
  simp only [tabK, lookB, tabOf]
  by_cases hi : i < n
  · rw [if_pos (memB_iff.2 (List.mem_range.2 hi))]
  · rw [if_neg (fun hm => hi (List.mem_range.1 (memB_iff.1 hm))), List.getElem?_eq_none (by omega)]
theorem tabK_first {bk bk' : Bk D} {r : List (Bk D)} : tabK [(0, bk')] ((List.range (r.length + 1)).filter fun i => !Nat.beq i 0) (bk :: r) = upd (tabOf (bk :: r)) 0 (some bk') := by
  funext i
  simp only [tabK, lookB, tabOf]
  by_cases hi : i = 0
  · subst hi; simp [upd_same]
  · have h0 : ¬ (Nat.beq 0 i = true) := fun e => hi (Nat.eq_of_beq_eq_true e).symm
    rw [if_neg h0, upd_other _ _ _ _ hi]
    dsimp only
    by_cases hl : i < r.length + 1
    · have hb : (!Nat.beq i 0) = true := by
        cases e : Nat.beq i 0 with
        | true => exact absurd (Nat.eq_of_beq_eq_true e) hi
        | false => rfl
      rw [if_pos (memB_iff.2 (List.mem_filter.2 ⟨List.mem_range.2 hl, hb⟩))]
      rfl
    · rw [if_neg (fun hm => hl (List.mem_range.1 (List.mem_filter.1 (memB_iff.1 hm)).1))]
      exact (List.getElem?_eq_none (by simpa using hl)).symm
theorem ctCheck_ok {f : FuncId} {tB : TypeId} (hen : ∀ (args : Array Value) (w : World), (callFunc f args).run P w = .ok (.enter f args) w)
    (h1 : ∀ (b : Nat) (w : World), w.cell? ⟨b, 0, none⟩ = some (.pointer (some ⟨b, 0, none⟩)) → Calls P f #[.pointer (some ⟨b, 0, none⟩)] w fun e w' => e = .returned (.tuple #[]) ∧ w' = w)
    (h2 : ∀ (b : Nat) (w : World), w.cell? ⟨b, 0, none⟩ = some (.pointer none) → w.shape? b = some (tB, 2) → w.frozen? ⟨b, 0, none⟩ = false → Calls P f #[.pointer (some ⟨b, 0, none⟩)] w fun e w' => e = .returned (.tuple #[]) ∧ w' = w.setCell ⟨b, 0, none⟩ (.pointer (some ⟨b, 0, none⟩))) :
    CtOk P S f (ctCheck tB) := by
  refine ⟨hen, fun X N gh w args sargs bks p r post kp hp hrel hct hpre => ?_⟩
  unfold ctCheck at hct
  split at hct
  · rename_i t c1 rs
    obtain ⟨v, hg, b, vs, rfl, hm, ⟨u0, hh, hu0⟩, hr⟩ := hp.bks 0 (.tc t [c1]) rfl
    have hargs : args = [.pointer (some ⟨b, 0, none⟩)] := by
      match args, hrel with
      | [a], hrel =>
        obtain ⟨b', hb', ha⟩ := hrel.1
        rw [hg] at hb'
        injection hb' with hb'
        injection hb' with hb'
        injection hb' with hb'
        injection hb' with hb'
        subst hb'
        rw [ha]
    subst hargs
    match vs, hr, hh with
    | [u1], hr, hh =>
    have hc0 : w.cell? ⟨b, 0, none⟩ = some u0 := by rw [cell_of hh]; rfl
    split at hct
    · rename_i hte
      have hte := Nat.eq_of_beq_eq_true hte
      subst hte
      injection hct with hct
      injection hct with q1 hct
      injection hct with q2 hct
      injection hct with q3 q4
      subst q2 q3 q4
      rcases hu0 with rfl | rfl
      · refine (h2 b w hc0 (by simp [World.shape?, hh]) (by simp [World.frozen?, hh])).mono ?_
        rintro e w' ⟨rfl, rfl⟩
        refine ⟨_, gh, rfl, fun _ _ h => h, ?_, [], rfl, trivial⟩
        rw [tabK_first]
        have hset : ∀ n, n ≠ b → (w.setCell ⟨b, 0, none⟩ (.pointer (some ⟨b, 0, none⟩))).heap[n]? = w.heap[n]? := fun n hn => by
          simp only [World.setCell]
          rw [Array.getElem?_modify, if_neg (Ne.symm hn)]
        obtain ⟨h3, _⟩ := hp.write (w' := w.setCell ⟨b, 0, none⟩ (.pointer (some ⟨b, 0, none⟩))) (bk' := .tc t [c1]) (l := 0) (b := b) rfl rfl rfl hg rfl rfl rfl rfl (by simp [World.setCell]) hset
          (fun hk => ⟨b, [u1], rfl, hm, ⟨.pointer (some ⟨b, 0, none⟩), by simp [World.setCell, Array.getElem?_modify, hh], .inr rfl⟩, hr.1.keep hk (More.refl _), trivial⟩)
        exact h3.weaken fun _ _ => trivial
      · refine (h1 b w hc0).mono ?_
        rintro e w' ⟨rfl, rfl⟩
        refine ⟨_, gh, rfl, fun _ _ h => h, ?_, [], rfl, trivial⟩
        rw [tabK_first]
        obtain ⟨h3, _⟩ := hp.write (w' := w') (bk' := .tc t [c1]) (l := 0) (b := b) rfl rfl rfl hg rfl rfl rfl rfl rfl (fun _ _ => rfl)
          (fun hk => ⟨b, [u1], rfl, hm, ⟨_, hh, .inr rfl⟩, hr.1.keep hk (More.refl _), trivial⟩)
        exact h3.weaken fun _ _ => trivial
    · cases hct
  · cases hct
end

/-! ### slices.Clone -/
/-- A row of a fixed size. -/
def cU (sz : Nat) : Cod U (List (List UC)) := ⟨1, fun r => [.dat (.mk sz r)], fun xs => match xs with
  | [.dat (.mk s r)] => if Nat.beq s sz then some r else none
  | [.val (.slice none 0 0)] => some []
  | _ => none⟩
instance cU_ok {ks : TypeId → Option (List Nat)} {gl : Nat → Option U} {sz : Nat} : CodOk (shU ks gl) (cU sz) where
  ok := fun xs a h => by
    simp only [cU] at h
    split at h
    · rename_i s r
      split at h
      · rename_i hs
        injection h with h
        subst h
        rw [Nat.eq_of_beq_eq_true hs]
        exact ⟨.inl rfl, rfl, trivial⟩
      · cases h
    · injection h with h
      subst h
      exact ⟨.inr (.inl ⟨rfl, _, rfl, rfl⟩), rfl, trivial⟩
    · cases h
  len := fun a => rfl
  data := fun a x hx => by simp [cU] at hx; subst hx; rfl
/-- A row of a fixed size, not nil. -/
def cV (sz : Nat) : Cod U (List (List UC)) := ⟨1, fun r => [.dat (.mk sz r)], fun xs => match xs with
  | [.dat (.mk s r)] => if Nat.beq s sz then some r else none
  | _ => none⟩
instance cV_ok {ks : TypeId → Option (List Nat)} {gl : Nat → Option U} {sz : Nat} : CodOk (shU ks gl) (cV sz) where
  ok := fun xs a h => by
    simp only [cV] at h
    split at h
    · rename_i s r
      split at h
      · rename_i hs
        injection h with h
        subst h
        rw [Nat.eq_of_beq_eq_true hs]
        exact ⟨.inl rfl, rfl, trivial⟩
      · cases h
    · cases h
  len := fun a => rfl
  data := fun a x hx => by simp [cV] at hx; subst hx; rfl
section
variable {D : Type} {P : Program} {S : Sh D}
/-- A contract with what decides it. -/
def ctDec (AS : ArgShp D) (RS : Shp D) (k : Nat) (keep : List Nat) (pb : AS.A → Bool) (f : AS.A → RS.X) : Ct D := fun args bks =>
  match AS.dec args bks with
  | none => none
  | some a => if pb a then (match ctN AS RS k keep (fun _ => none) f args bks with
    | some (_, r, post, kp) => some (none, r, post, kp)
    | none => none) else none
theorem ctDec_ok {f : FuncId} {AS : ArgShp D} {RS : Shp D} {k : Nat} {keep : List Nat} {pb : AS.A → Bool} {fv : AS.A → RS.X} (h : CtOk P S f (ctN AS RS k keep (fun a => some (pb a = true)) fv)) : CtOk P S f (ctDec AS RS k keep pb fv) := by
  refine ⟨h.enters, fun X N gh w args sargs bks p r post kp hp hrel hct hpre => ?_⟩
  unfold ctDec at hct
  split at hct
  · cases hct
  rename_i a ha
  split at hct
  · rename_i hb
    split at hct
    · rename_i p' r' post' kp' hn
      injection hct with hct
      injection hct with q1 hct
      injection hct with q2 hct
      injection hct with q3 q4
      subst q1 q2 q3 q4
      refine h.calls X N gh w args sargs bks (some (dq (pb a = true))) r' post' kp' hp hrel ?_ hb
      unfold ctN at hn ⊢
      rw [ha] at hn ⊢
      dsimp only at hn ⊢
      injection hn with hn
      injection hn with _ hn
      rw [hn]
      rfl
    · cases hn : ctN AS RS k keep (fun _ => none) fv sargs bks with
      | none => cases hct
      | some x => cases hct
  · cases hct
end
def t0 (P : Program) (t : TypeId) : Option Ty :=
  match tyOf P t with
  | some ty => if ty.lit then none else some ty
  | none => none
theorem t0_ok {P : Program} : ∀ t ty, t0 P t = some ty → TyOk P t ty := fun t ty h => by
  unfold t0 at h
  split at h
  · rename_i ty0 h0
    split at h
    · cases h
    · rename_i hl
      injection h with h
      subst h
      unfold TyOk
      rw [h0]
      cases ty0
      simp at hl
      simp [hl]
  · cases h
def asClone (sz : Nat) : ArgShp U := args (a1 (aLf (cV sz)))
def rsClone (sz : Nat) (e : TypeId) : Shp U := shr [.slot 0 false [some e]] (l1 (cU sz))
def clonePg (bytes : Nat) (r : List (List UC)) : Pg (List (List UC)) := .unk false (fun b => b = true → r.length = 0) (.ret []) (.obD (roomP (0 + r.length) bytes) inferInstance (.ret r))
theorem clone_is {bytes : Nat} {r : List (List UC)} (h : roomP (0 + r.length) bytes) : Is (clonePg bytes r) ∧ (clonePg bytes r).val = r :=
  ⟨is_unk ⟨false, fun e => by cases e⟩ (fun hp => ⟨fun _ _ _ => rfl, by have h0 := hp rfl; cases r with | nil => rfl | cons a l => simp at h0⟩) (fun _ => ⟨fun R' f e => by simp only [Pg.runK, need_pos h]; rfl, rfl⟩), rfl⟩
def ctClone (sz bytes : Nat) (e : TypeId) : Ct U := ctDec (asClone sz) (rsClone sz e) 1 [] (fun r => decide (roomP (0 + r.length) bytes)) (fun r => r)
theorem ctClone_ok {P : Program} {ks : TypeId → Option (List Nat)} {gl : Nat → Option U} (hmx : P.follows .mixedOrders = true) {f : FuncId} {fn : Func} {n sz bytes : Nat} {e : TypeId} (hf : P.funcs[f]? = some fn) (hn : fn.ntmps = n) (h1 : 1 ≤ n) (hc : chkF fn = true) (hk : fn.results.toList.length = 1)
    (hrun : ∀ r e0, (clonePg bytes r).run e0 = (treeF ⟨P, shU ks gl, t0 P, hmx, t0_ok, shU_ok⟩ (fun _ => none) (fun _ => none) (asClone sz) (rsClone sz e) 0 [] fn n r).run e0) : CtOk P (shU ks gl) f (ctClone sz bytes e) := by
  refine ctDec_ok ?_
  exact ct_ofN (Z := ⟨P, shU ks gl, t0 P, hmx, t0_ok, shU_ok⟩) (Γ := fun _ => none) (fun _ _ h => by cases h) (J := []) (AS := asClone sz) (RS := rsClone sz e) (lent := 0) (n := n) (keep := []) (argsI (n := n) (Nat.ble_eq_true_of_le h1)) (shr_ok (l1_ok cU_ok)) hf hn hc 1 hk (clonePg bytes) (fun r => some (decide (roomP (0 + r.length) bytes) = true)) (fun r e0 _ => hrun r e0) (fun r => r) fun r hr => clone_is (of_decide_eq_true hr)
end Go.Vc
