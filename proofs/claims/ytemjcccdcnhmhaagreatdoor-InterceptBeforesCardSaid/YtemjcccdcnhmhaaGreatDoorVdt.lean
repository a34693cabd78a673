/-
  Own engine, part 12b: rows of the call's own that are laid into data: from then on they are data for good.
-/
import Derived.Test.YtemjcccdcnhmhaaGreatDoorVdh
namespace Go.Vc
open Go.RowKit
set_option linter.unusedVariables false

section
variable {D : Type}

def opTmps : List Operand → List Nat
  | [] => []
  | .tmp t :: r => t :: opTmps r
  | _ :: r => opTmps r
def coolS (ts : List Nat) (slot : Nat → Sl D) (blk : Nat → Option (Bk D)) : Nat → Sl D := fun t => if memB t ts then (slot t).view blk else slot t
def isRow : Option (Bk D) → Bool
  | some (.row _ _) => true
  | some (.ice _) => true
  | _ => false
def coolable : Op → Bool
  | .store _ _ _ => true
  | .buildSlice _ _ _ => true
  | _ => false
def coolIds (slot : Nat → Sl D) (op : Op) : List Nat := addNew [] ((opTmps op.operands.toList).flatMap fun t => (slot t).owns)
def xCool (T : TypeId → Option Ty) (S : Sh D) (Γ : FuncId → Option (Ct D)) (slot : Nat → Sl D) (blk : Nat → Option (Bk D)) (fr : Nat) (op : Op) : Option (Out D) :=
  let ls := coolIds slot op
  if coolable op && ls.all (fun l => isRow (blk l)) then
    (match xOp T S Γ (coolS (opTmps op.operands.toList) slot blk) (updL blk (ls.filterMap (iceOf blk))) fr op with
    | some out => some ⟨out.pre, out.val, ls.filterMap (iceOf blk) ++ out.blks⟩
    | none => none)
  else none
def xOpC (T : TypeId → Option Ty) (S : Sh D) (Γ : FuncId → Option (Ct D)) (slot : Nat → Sl D) (blk : Nat → Option (Bk D)) (fr : Nat) (op : Op) : Option (Out D) :=
  match xOp T S Γ slot blk fr op with
  | some out => some out
  | none => xCool T S Γ slot blk fr op

theorem filterMap_same {α β : Type} {f f' : α → Option β} : ∀ {l : List α}, (∀ x ∈ l, f x = f' x) → l.filterMap f = l.filterMap f'
  | [], _ => rfl
  | x :: l, h => by
    rw [List.filterMap_cons, List.filterMap_cons, h x (by simp), filterMap_same fun y hy => h y (by simp [hy])]
theorem updL_app {α : Type} : ∀ (xs ys : List (Nat × α)) (f : Nat → α), updL f (xs ++ ys) = updL (updL f xs) ys
  | [], _, _ => rfl
  | (k, v) :: xs, ys, f => updL_app xs ys (upd f k v)
end

section
variable {D : Type} {P : Program} {S : Sh D} {T : TypeId → Option Ty} {Γ : FuncId → Option (Ct D)} {M M' N : Nat → Prop} {w w' : World} {w0 : Bs} {g g' : Nat → Option Value} {blk blk' : Nat → Option (Bk D)} {al : Nat → Prop}
  {a : Act} {o : Oper} {K : Act → World → Prop} {Q : Exit → Act → World → Prop} {slot : Nat → Sl D} {out : Out D} {fr : Nat} {ids vids : List Nat}

theorem Keeps.comp {M1 M2 M3 : Nat → Prop} {w1 w2 w3 : World} (h : Keeps M1 w1 M2 w2) (k : Keeps M2 w2 M3 w3) : Keeps M1 w1 M3 w3 :=
  ⟨Nat.le_trans h.size k.size, fun b hb hm => by
    obtain ⟨h1, h2⟩ := h.same b hb hm
    obtain ⟨k1, k2⟩ := k.same b (Nat.lt_of_lt_of_le hb h.size) h1
    exact ⟨k1, k2.trans h2⟩⟩

theorem ice_key {l : Nat} {p : Nat × Option (Bk D)} (h : iceOf blk l = some p) : p.1 = l := by
  unfold iceOf at h
  split at h
  · injection h with h; rw [← h]
  · cases h

/-- Rows that become data for good. -/
theorem Hp.coolAll : ∀ (ls : List Nat) (blk : Nat → Option (Bk D)), ls.Nodup → Hp S w0 N blk g al w →
    Hp S w0 N (updL blk (ls.filterMap (iceOf blk))) g al w ∧ Keeps (Mset N blk g) w (Mset N (updL blk (ls.filterMap (iceOf blk))) g) w ∧
      (∀ n, hot (updL blk (ls.filterMap (iceOf blk)) n) = true → hot (blk n) = true) ∧ ∀ l ∈ ls, isRow (blk l) = true → hot (updL blk (ls.filterMap (iceOf blk)) l) = false
  | [], blk, _, h => ⟨h, ⟨Nat.le_refl _, fun b _ hm => ⟨hm, rfl⟩⟩, fun n hn => hn, fun l hl => by simp at hl⟩
  | l :: r, blk, hn, h => by
    obtain ⟨hl, hr⟩ := List.nodup_cons.1 hn
    have off : ∀ {x : Option (Bk D)} (blk1 : Nat → Option (Bk D)), updL blk1 (r.filterMap (iceOf blk)) l = blk1 l := fun {x} blk1 => updL_off fun v hv => by
      obtain ⟨l', hl', he⟩ := List.mem_filterMap.1 hv
      have := ice_key he
      exact hl (by rw [show l = l' from this]; exact hl')
    by_cases hrow : ∃ e d, blk l = some (.row e d)
    · obtain ⟨e, d, hb⟩ := hrow
      have hi : iceOf blk l = some (l, some (.ice d)) := by unfold iceOf; rw [hb]
      rw [List.filterMap_cons_some hi]
      have hcg : r.filterMap (iceOf blk) = r.filterMap (iceOf (upd blk l (some (.ice d)))) := by
        refine filterMap_same fun l' hl' => ?_
        have hne : l' ≠ l := fun e => hl (e ▸ hl')
        unfold iceOf
        rw [upd_other _ _ _ _ hne]
      obtain ⟨v, hg, _⟩ := h.bks l _ hb
      have hot1 : hot (upd blk l (some (Bk.ice d)) l) = false := by rw [upd_same]; rfl
      have hsub : ∀ n, hot (upd blk l (some (Bk.ice d)) n) = true → hot (blk n) = true := fun n hn => by
        by_cases he : n = l
        · subst he; rw [hot1] at hn; cases hn
        · rwa [upd_other _ _ _ _ he] at hn
      have hM : ∀ b, Mset N (upd blk l (some (Bk.ice d))) g b → Mset N blk g b := by
        rintro b (hb | ⟨n, u, h1, h2, h3⟩)
        · exact .inl hb
        · exact .inr ⟨n, u, hsub n h1, h2, h3⟩
      obtain ⟨h1, k1⟩ := h.cool l (some (.ice d)) rfl (fun bk hbk => by
        injection hbk with hbk
        subst hbk
        refine ⟨v, hg, row_dat h hb hg hM fun b hbv => ?_⟩
        have hh : hot (blk l) = true := by rw [hb]; rfl
        rintro (q | ⟨n, u, q1, q2, q3⟩)
        · exact h.notN hh hg hbv q
        · have := h.sep l n v u b hh (hsub n q1) hg q2 hbv q3
          subst this
          rw [hot1] at q1
          cases q1)
      obtain ⟨h2, k2, s2, o2⟩ := Hp.coolAll r (upd blk l (some (.ice d))) hr h1
      rw [← hcg] at h2 k2 s2 o2
      refine ⟨h2, k1.comp k2, fun n hn => hsub n (s2 n hn), fun l' hl' hi' => ?_⟩
      rcases List.mem_cons.1 hl' with rfl | hl'
      · show hot (updL (upd blk l' (some (.ice d))) (r.filterMap (iceOf blk)) l') = false
        rw [off (x := none), upd_same]
        rfl
      · refine o2 l' hl' ?_
        have hne : l' ≠ l := fun e => hl (e ▸ hl')
        rwa [upd_other _ _ _ _ hne]
    · have hi : iceOf blk l = none := by
        unfold iceOf
        split
        · rename_i e d hb; exact absurd ⟨e, d, hb⟩ hrow
        · rfl
      rw [List.filterMap_cons_none hi]
      obtain ⟨h2, k2, s2, o2⟩ := Hp.coolAll r blk hr h
      refine ⟨h2, k2, s2, fun l' hl' hi' => ?_⟩
      rcases List.mem_cons.1 hl' with rfl | hl'
      · rw [off (x := none)]
        unfold isRow at hi'
        split at hi'
        · rename_i e d hb; exact absurd ⟨e, d, hb⟩ hrow
        · rename_i d hb; rw [hb]; rfl
        · cases hi'
      · exact o2 l' hl' hi'

theorem sound_opC (hTy : ∀ t ty, T t = some ty → TyOk P t ty) (hΓ : ∀ f ct, Γ f = some ct → CtOk P S f ct) (hS : ShOk S) (h : Hp S w0 N blk g al w) (hfr : ∀ n, fr ≤ n → n < fr + 64 → ¬ al n)
    (hs : ∀ t, (slot t).Rel S (Mset N blk g) w g (a.tmps.getD t undef)) (hout : xOpC T S Γ slot blk fr o.op = some out) (hp : preP out.pre) (hK : Post S w0 N blk g al w fr out o.dst a K) : o.wp P a w K Q := by
  unfold xOpC at hout
  split at hout
  · rename_i out' hx
    injection hout with hout
    subst hout
    exact sound_op hTy hΓ hS h hfr hs hx hp hK
  · unfold xCool at hout
    dsimp only at hout
    split at hout
    · rename_i hc
      simp only [Bool.and_eq_true, List.all_eq_true] at hc
      split at hout
      · rename_i out' hx
        injection hout with hout
        subst hout
        have hnd : (coolIds slot o.op).Nodup := addNew_nodup _ _ List.nodup_nil
        obtain ⟨h1, k1, s1, o1⟩ := Hp.coolAll (coolIds slot o.op) blk hnd h
        refine sound_op hTy hΓ hS h1 hfr (fun t => ?_) hx hp (fun v w' g' m k hp' hr => ?_)
        · unfold coolS
          split
          · rename_i ht
            have ht := memB_iff.1 ht
            refine Sl.Rel.view (vids := coolIds slot o.op) hS h ⟨?_, fun l hl v b hh hg hb => ?_⟩ (fun l hl => (addNew_mem _ _ _).2 (.inr (List.mem_flatMap.2 ⟨t, ht, hl⟩))) (hs t)
            · rintro b (hb | ⟨n, u, q1, q2, q3⟩)
              · exact .inl hb
              · exact .inr ⟨n, u, s1 n q1, q2, q3⟩
            · rintro (q | ⟨n, u, q1, q2, q3⟩)
              · exact h.notN hh hg hb q
              · have := h.sep l n v u b hh (s1 n q1) hg q2 hb q3
                subst this
                rw [o1 l hl (hc.2 l hl)] at q1
                cases q1
          · exact (hs t).keep k1 (More.refl _)
        · have e : updL blk ((coolIds slot o.op).filterMap (iceOf blk) ++ out'.blks) = updL (updL blk ((coolIds slot o.op).filterMap (iceOf blk))) out'.blks := updL_app _ _ _
          refine hK v w' g' m ?_ ?_ ?_
          · rw [e]; exact k1.comp k
          · rw [e]; exact hp'
          · rw [e]; exact hr
      · cases hout
    · cases hout
end
end Go.Vc
