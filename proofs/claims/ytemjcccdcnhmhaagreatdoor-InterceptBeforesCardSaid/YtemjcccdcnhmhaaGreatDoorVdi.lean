/-
  Own engine, part 10: calls: what the callee leaves is the caller's again.
-/
import Derived.Test.YtemjcccdcnhmhaaGreatDoorVdg
namespace Go.Vc
open Go.RowKit
set_option linter.unusedVariables false

section
variable {D : Type} {P : Program} {S : Sh D} {T : TypeId → Option Ty} {Γ : FuncId → Option (Ct D)} {M M' N : Nat → Prop} {w w' : World} {w0 : Bs} {g g' : Nat → Option Value} {blk blk' : Nat → Option (Bk D)} {al : Nat → Prop}
  {a : Act} {o : Oper} {K : Act → World → Prop} {Q : Exit → Act → World → Prop} {slot : Nat → Sl D} {out : Out D} {fr : Nat} {ids vids : List Nat}

/-- A row of the call's own, seen as a datum by those who look at other blocks alone. -/
theorem row_dat (h : Hp S w0 N blk g al w) {c : Nat} {e : TypeId} {d : D} {v : Value} {M' : Nat → Prop} (hb : blk c = some (.row e d)) (hg : g c = some v) (hM : ∀ b, M' b → Mset N blk g b) (hn : ∀ b, blkOf v = some b → ¬ M' b) :
    DatOk S M' w d v := by
  intro w' hs
  obtain ⟨v', hv', hm, xs, hown, hcell⟩ := h.bks c _ hb
  rw [hg] at hv'
  injection hv' with hv'
  subst hv'
  rcases hown.2 with ⟨rfl, h0⟩ | ⟨b, cap, cur, rfl, _, hh, hnc, _, hcs, htake⟩
  · have := DRel.mk (S := S) (w := w') d none 0 (fun _ _ => .bool false) (by omega) (by omega) (fun i j hi _ => by omega) (fun i j hi _ => by omega) (fun i j _ hi _ => by omega)
    rwa [h0] at this
  · have hb' : w'.heap[b]? = some (.cells cur e (0, 0)) := (hs b (heap_lt hh) (hn b rfl)).trans hh
    have key : ∀ i j, i < S.len d → j < S.size d → ∃ u, cur[i * S.size d + j]? = some u ∧ Lf.plain (S.cell d i j) u ∧ ∀ d', S.cell d i j = .dat d' → DRel S w' d' u := by
      intro i j hi hj
      obtain ⟨u, hu, hda, hr⟩ := hcell i j hi hj
      have hlt := row_lt hi hj
      have : cur[i * S.size d + j]? = some u := by
        rw [← htake, List.getElem?_take, if_pos hlt] at hu
        simpa using hu
      have hr' : (S.cell d i j).Rel S M' w g u := by
        have := hr.ren (g' := g) (M' := M') (f := fun x => x) (fun l _ u hu => hu) (fun _ => hM)
        rw [isData_ren hda] at this
        exact this
      exact ⟨u, this, data_plain hda hr' hs⟩
    refine DRel.mk (S := S) (w := w') d (some ⟨b, 0, none⟩) cap (fun i j => (cur[i * S.size d + j]?).getD undef) hnc hm.2 (fun i j hi hj => ?_) (fun i j hi hj => ?_) (fun i j d' hi hj he => ?_)
    · obtain ⟨u, hu, _⟩ := key i j hi hj
      refine ⟨_, rfl, ?_⟩
      simp only [hu, Option.getD_some]
      rw [add_none, Nat.zero_add]
      simp [World.cell?, hb', ← hu]
    · obtain ⟨u, hu, hp, _⟩ := key i j hi hj
      simpa [hu] using hp
    · obtain ⟨u, hu, _, hd⟩ := key i j hi hj
      simpa [hu] using hd d' he

/-- The ghost behind the call. -/
def gBack (g gc' : Nat → Option Value) (ids : List Nat) (fr : Nat) : Nat → Option Value := fun l =>
  match g l with
  | some u => some u
  | none => if fr ≤ l ∧ l < fr + 64 then gc' (ids.length + (l - fr)) else none

theorem gBack_more {gc' : Nat → Option Value} : More g (gBack g gc' ids fr) := fun l v hl => by simp [gBack, hl]

structure Back (blk blk' : Nat → Option (Bk D)) (tab : Nat → Option (Bk D)) (ids vids : List Nat) (fr : Nat) (fz : Bool) : Prop where
  b1 : ∀ l ∈ ids, blk' l = (tab (posIn ids l)).map (Bk.ren (backTo ids fr))
  b2 : ∀ j, j < 64 → blk' (fr + j) = (tab (ids.length + j)).map (Bk.ren (backTo ids fr))
  b3 : ∀ l ∈ vids, fz = true → (∃ e d, blk l = some (.row e d) ∧ blk' l = some (.ice d)) ∨ (hot (blk l) = false ∧ blk' l = blk l)
  b4 : ∀ l, l ∉ ids → (fz = true → l ∉ vids) → ¬ (fr ≤ l ∧ l < fr + 64) → blk' l = blk l

theorem Hp.back (h : Hp S w0 N blk g al w) {bks : List (Bk D)} {tab : Nat → Option (Bk D)} {gc' : Nat → Option Value} {fz : Bool} (hfr : ∀ n, fr ≤ n → n < fr + 64 → ¬ al n) (hn : ids.Nodup) (hg : getAll blk ids = some bks) (hv : ∀ l ∈ vids, l ∉ ids)
    (hm : More (gc g ids) gc') (hc : Hp S ⟨w, Xc blk g ids⟩ (Nc N blk g ids vids) (tab) gc' (fun _ => True) w') (hb : Back blk blk' tab ids vids fr fz)
    (hp64 : ∀ i, (tab i).isSome = true → i < ids.length + 64) (hrefs : ∀ i bk, tab i = some bk → ∀ l ∈ bk.refs, (tab l).isSome = true) (hfz : ∀ i bk, tab i = some bk → bk.hasDat = true → fz = true) :
    Hp S w0 N blk' (gBack g gc' ids fr) (fun n => al n ∨ (fr ≤ n ∧ n < fr + 64)) w' ∧ Keeps (Mset N blk g) w (Mset N blk' (gBack g gc' ids fr)) w' ∧
      (fz = true → ∀ b, Mset N blk' (gBack g gc' ids fr) b → Mset (Nc N blk g ids vids) (tab) gc' b) ∧
      ∀ i, (tab i).isSome = true → ∀ u, gc' i = some u → gBack g gc' ids fr (backTo ids fr i) = some u := by
  obtain ⟨hlen, hat⟩ := getAll_spec hg
  have gsome : ∀ l ∈ ids, ∃ u, g l = some u := fun l hl => by
    obtain ⟨bk, hbk, _⟩ := hat _ l (posIn_get hl)
    obtain ⟨v, hv, _⟩ := h.bks l bk hbk
    exact ⟨v, hv⟩
  have glt : ∀ l u, g l = some u → ¬ (fr ≤ l ∧ l < fr + 64) := fun l u hl hle => hfr l hle.1 hle.2 (h.al l u hl)
  have gnone : ∀ l, fr ≤ l → l < fr + 64 → g l = none := fun l hl hl2 => by
    cases e : g l with
    | none => rfl
    | some u => exact absurd ⟨hl, hl2⟩ (glt l u e)
  -- the ghost of the callee, under the caller's names
  have gb : ∀ i, (tab i).isSome = true → ∀ u, gc' i = some u → gBack g gc' ids fr (backTo ids fr i) = some u := by
    intro i hi u hu
    unfold backTo
    by_cases hlt : i < ids.length
    · rw [if_pos (by simpa [Nat.blt_eq] using hlt)]
      have hl : ids[i]? = some (ids.getD i 0) := by simp [List.getD, hlt]
      obtain ⟨u0, hu0⟩ := gsome _ (List.mem_of_getElem? hl)
      have : gc' i = some u0 := hm i u0 (by unfold gc; rw [hl]; exact hu0)
      rw [this] at hu
      injection hu with hu
      subst hu
      exact gBack_more _ _ hu0
    · rw [if_neg (by simpa [Nat.blt_eq] using hlt)]
      have := hp64 i hi
      simp only [gBack, gnone (fr + (i - ids.length)) (by omega) (by omega)]
      rw [if_pos (by omega)]
      have e : ids.length + (fr + (i - ids.length) - fr) = i := by omega
      rw [e]
      exact hu
  -- where a block of the new table comes from
  have from' : ∀ l bk, blk' l = some bk → (∃ i bk0, tab i = some bk0 ∧ bk = bk0.ren (backTo ids fr) ∧ l = backTo ids fr i) ∨
      (l ∉ ids ∧ ¬ (fr ≤ l ∧ l < fr + 64) ∧ blk l = some bk ∧ (hot (some bk) = true → fz = true → l ∉ vids)) ∨ (fz = true ∧ l ∈ vids ∧ ∃ e d, blk l = some (.row e d) ∧ bk = .ice d) := by
    intro l bk hl
    by_cases h1 : l ∈ ids
    · rw [hb.b1 l h1] at hl
      obtain ⟨bk0, q1, rfl⟩ := Option.map_eq_some_iff.1 hl
      refine .inl ⟨_, bk0, q1, rfl, ?_⟩
      unfold backTo
      have := posIn_get h1
      have hlt := (List.getElem?_eq_some_iff.1 this).1
      rw [if_pos (by simpa [Nat.blt_eq] using hlt)]
      simp [List.getD, this]
    · by_cases h2 : fr ≤ l ∧ l < fr + 64
      · obtain ⟨j, rfl⟩ : ∃ j, l = fr + j := ⟨l - fr, by omega⟩
        rw [hb.b2 j (by omega)] at hl
        obtain ⟨bk0, q1, rfl⟩ := Option.map_eq_some_iff.1 hl
        refine .inl ⟨_, bk0, q1, rfl, ?_⟩
        unfold backTo
        rw [if_neg (by simp [Nat.blt_eq])]
        omega
      · by_cases h3 : fz = true ∧ l ∈ vids
        · rcases hb.b3 l h3.2 h3.1 with ⟨e, d, q1, q2⟩ | ⟨q1, q2⟩
          · rw [q2] at hl
            injection hl with hl
            exact .inr (.inr ⟨h3.1, h3.2, e, d, q1, hl.symm⟩)
          · rw [q2] at hl
            obtain ⟨u, hu, _⟩ := h.bks l bk hl
            exact .inr (.inl ⟨h1, glt l u hu, hl, fun hh => by rw [hl] at q1; rw [q1] at hh; cases hh⟩)
        · have q := hb.b4 l h1 (fun e hm => h3 ⟨e, hm⟩) h2
          rw [q] at hl
          obtain ⟨u, hu, _⟩ := h.bks l bk hl
          exact .inr (.inl ⟨h1, glt l u hu, hl, fun _ e hm => h3 ⟨e, hm⟩⟩)
  have hotren : ∀ (f : Nat → Nat) (bk : Bk D), hot (some (bk.ren f)) = hot (some bk) := fun f bk => by cases bk <;> rfl
  -- a block that the callee left
  have left : ∀ i bk v b, tab i = some bk → hot (some bk) = true → gc' i = some v → blkOf v = some b → b < w'.heap.size ∧ (w.heap.size ≤ b ∨ Xc blk g ids b) := by
    intro i bk v b h1 h2 h3 h4
    exact hc.mine (by rw [h1]; exact h2) h3 h4
  have xm : ∀ b, Xc blk g ids b → Mset N blk g b := fun b ⟨l, v, h1, h2, h3, h4⟩ => .inr ⟨l, v, h1, h3, h4⟩
  have xmine : ∀ b, Xc blk g ids b → w0.Mine b := fun b ⟨l, v, h1, h2, h3, h4⟩ => (h.mine h1 h3 h4).2
  have notX : ∀ l v b, hot (blk l) = true → l ∉ ids → g l = some v → blkOf v = some b → ¬ Xc blk g ids b := by
    rintro l v b h1 h2 h3 h4 ⟨l', v', q1, q2, q3, q4⟩
    have := h.sep l l' v v' b h1 q1 h3 q3 h4 q4
    subst this
    exact h2 q2
  have hsame : ∀ b, b < w.heap.size → ¬ Xc blk g ids b → w'.heap[b]? = w.heap[b]? := fun b h1 h2 => hc.below.block b h1 h2
  have gold : ∀ l, ¬ (fr ≤ l ∧ l < fr + 64) → gBack g gc' ids fr l = g l := fun l hl => by
    unfold gBack
    cases e : g l with
    | some u => rfl
    | none => simp [hl]
  have ghot : ∀ l bk, blk l = some bk → ∃ v, g l = some v := fun l bk hl => by obtain ⟨v, hv, _⟩ := h.bks l bk hl; exact ⟨v, hv⟩
  have gcsome : ∀ i bk, tab i = some bk → ∃ v, gc' i = some v ∧ gBack g gc' ids fr (backTo ids fr i) = some v := fun i bk hi => by
    obtain ⟨v, hv, _⟩ := hc.bks i bk hi
    exact ⟨v, hv, gb i (by rw [hi]; rfl) v hv⟩
  have hk : Keeps (Mset N blk g) w (Mset N blk' (gBack g gc' ids fr)) w' := by
    refine ⟨hc.below.size, fun b hlt hmb => ⟨?_, hsame b hlt fun q => hmb (xm b q)⟩⟩
    rintro (hnb | ⟨l, v, h1, h2, h3⟩)
    · exact hmb (.inl hnb)
    · obtain ⟨bk, hbk, hh⟩ := hot_some h1
      rcases from' l bk hbk with ⟨i, bk0, q1, rfl, rfl⟩ | ⟨q1, q2, q3, _⟩ | ⟨_, _, e, d, _, rfl⟩
      · obtain ⟨v0, e1, e2⟩ := gcsome i bk0 q1
        rw [h2] at e2
        injection e2 with e2
        subst e2
        rw [hotren] at hh
        rcases (left i bk0 v b q1 hh e1 h3).2 with q | q
        · omega
        · exact hmb (xm b q)
      · rw [gold l q2] at h2
        exact hmb (.inr ⟨l, v, by rw [q3]; exact hh, h2, h3⟩)
      · simp [hot] at hh
  have hsub : fz = true → ∀ b, Mset N blk' (gBack g gc' ids fr) b → Mset (Nc N blk g ids vids) (tab) gc' b := by
    rintro hz b (hnb | ⟨l, v, h1, h2, h3⟩)
    · exact .inl (.inl hnb)
    · obtain ⟨bk, hbk, hh⟩ := hot_some h1
      rcases from' l bk hbk with ⟨i, bk0, q1, rfl, rfl⟩ | ⟨q1, q2, q3, q4⟩ | ⟨_, _, e, d, _, rfl⟩
      · obtain ⟨v0, e1, e2⟩ := gcsome i bk0 q1
        rw [h2] at e2
        injection e2 with e2
        subst e2
        rw [hotren] at hh
        exact .inr ⟨i, v, by rw [q1]; exact hh, e1, h3⟩
      · rw [gold l q2] at h2
        exact .inl (.inr ⟨l, v, by rw [q3]; exact hh, q1, q4 hh hz, h2, h3⟩)
      · simp [hot] at hh
  refine ⟨⟨⟨hc.below.os.trans h.below.os, hc.below.tape.trans h.below.tape, hc.below.output.trans h.below.output, Nat.le_trans h.below.size hc.below.size, fun k hk' hx => ?_⟩, h.hN, fun l bk hl => ?_, ?_, ?_, ?_, h.gl.keep hk⟩, hk, hsub, gb⟩
  · refine (hsame k (Nat.lt_of_lt_of_le hk' h.below.size) fun q => ?_).trans (h.below.block k hk' hx)
    rcases xmine k q with q | q
    · omega
    · exact hx q
  · rcases from' l bk hl with ⟨i, bk0, q1, rfl, rfl⟩ | ⟨q1, q2, q3, q4⟩ | ⟨hz, hlv, e, d, q, rfl⟩
    · obtain ⟨v, e1, hok⟩ := hc.bks i bk0 q1
      refine ⟨v, gb i (by rw [q1]; rfl) v e1, hok.ren (fun l' hl' u hu => gb l' (hrefs i bk0 q1 l' hl') u hu) (fun hd => hsub (hfz i bk0 q1 hd)) (fun hh b hbv => ?_)⟩
      rcases (left i bk0 v b q1 hh e1 hbv).2 with q | q
      · exact .inl (Nat.le_trans h.below.size q)
      · exact xmine b q
    · obtain ⟨v, hv0, hok⟩ := h.bks l bk q3
      refine ⟨v, by rw [gold l q2]; exact hv0, hok.keep hk gBack_more fun hh b hbv => ?_⟩
      have hhl : hot (blk l) = true := by rw [q3]; exact hh
      exact hsame b (h.mine hhl hv0 hbv).1 (notX l v b hhl q1 hv0 hbv)
    · obtain ⟨v, hv0, _⟩ := h.bks l _ q
      refine ⟨v, gBack_more _ _ hv0, ?_⟩
      -- frozen: seen by those who look at what the callee may look at
      have hd0 : DatOk S (fun b => Mset N blk g b ∧ blkOf v ≠ some b) w d v := row_dat h q hv0 (fun b hb => hb.1) (fun b hb hb' => hb'.2 hb)
      refine hd0.keep ⟨hc.below.size, fun b hlt hmb => ⟨fun hb' => ?_, hsame b hlt fun hx => ?_⟩⟩
      · -- not written any more
        have hmem := hsub hz b hb'
        by_cases hvb : blkOf v = some b
        · rcases hmem with (hnb | ⟨l', v', r1, r2, r3, r4, r5⟩) | ⟨i, v', r1, r2, r3⟩
          · exact h.notN (by rw [q]; rfl) hv0 hvb hnb
          · have := h.sep l l' v v' b (by rw [q]; rfl) r1 hv0 r4 hvb r5
            subst this
            exact r3 hlv
          · obtain ⟨bk, hbk, hh⟩ := hot_some r1
            rcases (left i bk v' b hbk hh r2 r3).2 with r | r
            · omega
            · exact notX l v b (by rw [q]; rfl) (hv l hlv) hv0 hvb r
        · exact hmb ⟨by
            rcases hmem with (hnb | ⟨l', v', r1, r2, r3, r4, r5⟩) | ⟨i, v', r1, r2, r3⟩
            · exact .inl hnb
            · exact .inr ⟨l', v', r1, r4, r5⟩
            · obtain ⟨bk, hbk, hh⟩ := hot_some r1
              rcases (left i bk v' b hbk hh r2 r3).2 with r | r
              · omega
              · exact xm b r, hvb⟩
      · by_cases hvb : blkOf v = some b
        · exact notX l v b (by rw [q]; rfl) (hv l hlv) hv0 hvb hx
        · exact hmb ⟨xm b hx, hvb⟩
  · intro l l' v v' b h1 h2 h3 h4 h5 h6
    obtain ⟨bk, hbk, hh⟩ := hot_some h1
    obtain ⟨bk', hbk', hh'⟩ := hot_some h2
    rcases from' l bk hbk with ⟨i, bk0, q1, rfl, rfl⟩ | ⟨q1, q2, q3, q4⟩ | ⟨_, _, e, d, _, rfl⟩
    · obtain ⟨v0, e1, e2⟩ := gcsome i bk0 q1
      rw [h3] at e2
      injection e2 with e2
      subst e2
      rw [hotren] at hh
      rcases from' l' bk' hbk' with ⟨i', bk0', q1', rfl, rfl⟩ | ⟨q1', q2', q3', q4'⟩ | ⟨_, _, e, d, _, rfl⟩
      · obtain ⟨v0', e1', e2'⟩ := gcsome i' bk0' q1'
        rw [h4] at e2'
        injection e2' with e2'
        subst e2'
        rw [hotren] at hh'
        rw [hc.sep i i' v v' b (by rw [q1]; exact hh) (by rw [q1']; exact hh') e1 e1' h5 h6]
      · rw [gold l' q2'] at h4
        have hhl : hot (blk l') = true := by rw [q3']; exact hh'
        rcases (left i bk0 v b q1 hh e1 h5).2 with q | q
        · have := (h.mine hhl h4 h6).1; omega
        · exact absurd q (notX l' v' b hhl q1' h4 h6)
      · simp [hot] at hh'
    · rw [gold l q2] at h3
      have hhl : hot (blk l) = true := by rw [q3]; exact hh
      rcases from' l' bk' hbk' with ⟨i', bk0', q1', rfl, rfl⟩ | ⟨q1', q2', q3', q4'⟩ | ⟨_, _, e, d, _, rfl⟩
      · obtain ⟨v0', e1', e2'⟩ := gcsome i' bk0' q1'
        rw [h4] at e2'
        injection e2' with e2'
        subst e2'
        rw [hotren] at hh'
        rcases (left i' bk0' v' b q1' hh' e1' h6).2 with q | q
        · have := (h.mine hhl h3 h5).1; omega
        · exact absurd q (notX l v b hhl q1 h3 h5)
      · rw [gold l' q2'] at h4
        exact h.sep l l' v v' b hhl (by rw [q3']; exact hh') h3 h4 h5 h6
      · simp [hot] at hh'
    · simp [hot] at hh
  · intro n u hn
    unfold gBack at hn
    split at hn
    · rename_i u' hu'; exact .inl (h.al n u' hu')
    · split at hn
      · rename_i q; exact .inr q
      · cases hn
  · intro n u hn
    unfold gBack at hn
    split at hn
    · rename_i u' hu'; injection hn with hn; subst hn; exact h.refs n _ hu'
    · split at hn
      · exact hc.refs _ _ hn
      · cases hn
end
end Go.Vc
