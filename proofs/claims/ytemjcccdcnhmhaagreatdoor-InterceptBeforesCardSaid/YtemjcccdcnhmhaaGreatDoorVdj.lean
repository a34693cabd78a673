/-
  Own engine, part 11: calls: the operation.
-/
import Derived.Test.YtemjcccdcnhmhaaGreatDoorVdi
namespace Go.Vc
open Go.RowKit
set_option linter.unusedVariables false

section
variable {D : Type} {P : Program} {S : Sh D} {T : TypeId → Option Ty} {Γ : FuncId → Option (Ct D)} {M M' N : Nat → Prop} {w w' : World} {w0 : Bs} {g g' : Nat → Option Value} {blk blk' : Nat → Option (Bk D)} {al : Nat → Prop}
  {a : Act} {o : Oper} {K : Act → World → Prop} {Q : Exit → Act → World → Prop} {slot : Nat → Sl D} {out : Out D} {fr : Nat} {ids vids : List Nat}

theorem blt_no {i n : Nat} (h : n ≤ i) : Nat.blt i n = false := by
  cases e : Nat.blt i n with
  | false => rfl
  | true =>
    have : i < n := Nat.blt_eq ▸ e
    omega

theorem updL_off {α : Type} {k : Nat} : ∀ {kv : List (Nat × α)} {f : Nat → α}, (∀ v, (k, v) ∉ kv) → updL f kv k = f k
  | [], _, _ => rfl
  | (k0, v0) :: r, f, h => by
    show updL (upd f k0 v0) r k = f k
    rw [updL_off fun v hv => h v (List.mem_cons_of_mem _ hv)]
    exact upd_other _ _ _ _ (by rintro rfl; exact h v0 (by simp))
theorem updL_at {α : Type} {k : Nat} {v : α} : ∀ {kv : List (Nat × α)} {f : Nat → α}, (k, v) ∈ kv → (∀ v', (k, v') ∈ kv → v' = v) → updL f kv k = v
  | [], _, h, _ => by simp at h
  | (k0, v0) :: r, f, h, hu => by
    show updL (upd f k0 v0) r k = v
    by_cases hr : ∃ v', (k, v') ∈ r
    · obtain ⟨v', hv'⟩ := hr
      have := hu v' (List.mem_cons_of_mem _ hv')
      subst this
      exact updL_at hv' fun v'' h'' => hu v'' (List.mem_cons_of_mem _ h'')
    · rw [updL_off fun v' hv' => hr ⟨v', hv'⟩]
      rcases List.mem_cons.1 h with h | h
      · injection h with h1 h2
        subst h1 h2
        exact upd_same _ _ _
      · exact absurd ⟨v, h⟩ hr

theorem lookB_mem : ∀ {l : List (Nat × Bk D)} {i : Nat} {bk : Bk D}, lookB l i = some bk → (i, bk) ∈ l
  | [], i, bk, h => by simp [lookB] at h
  | (k, v) :: r, i, bk, h => by
    unfold lookB at h
    split at h
    · rename_i he
      injection h with h
      rw [← Nat.eq_of_beq_eq_true he, h]
      simp
    · exact List.mem_cons_of_mem _ (lookB_mem h)
theorem lookB_of : ∀ {l : List (Nat × Bk D)} {i : Nat} {bk : Bk D}, nodupB l = true → (i, bk) ∈ l → lookB l i = some bk
  | [], i, bk, _, h => by simp at h
  | (k, v) :: r, i, bk, hn, h => by
    simp only [nodupB, Bool.and_eq_true, Bool.not_eq_true', List.any_eq_false] at hn
    unfold lookB
    rcases List.mem_cons.1 h with h | h
    · injection h with h1 h2
      subst h1 h2
      rw [if_pos (by simp)]
    · have hne : Nat.beq k i = false := by
        have := hn.1 _ h
        simp only [Bool.not_eq_true] at this
        cases e : Nat.beq k i with
        | false => rfl
        | true =>
          have := Nat.eq_of_beq_eq_true e
          subst this
          simp at *
      rw [hne]
      exact lookB_of hn.2 h
theorem lookB_isSome {l : List (Nat × Bk D)} {i : Nat} (h : i ∈ l.map (·.1)) : (lookB l i).isSome = true := by
  induction l with
  | nil => simp at h
  | cons p r ih =>
    obtain ⟨k, v⟩ := p
    unfold lookB
    split
    · rfl
    · rename_i he
      simp only [List.map_cons, List.mem_cons] at h
      rcases h with rfl | h
      · simp at he
      · exact ih h
theorem freshOk_lt {k : Nat} : ∀ {l : List (Nat × Bk D)}, freshOk k l = true → ∀ i bk, (i, bk) ∈ l → i < k + 64
  | [], _, i, bk, h => by simp at h
  | (j, v) :: r, hf, i, bk, h => by
    simp only [freshOk, Bool.and_eq_true] at hf
    rcases List.mem_cons.1 h with h | h
    · injection h with h1 h2
      subst h1
      simpa [Nat.blt_eq] using hf.1
    · exact freshOk_lt hf.2 i bk h

theorem SlsRel.ren {f : Nat → Nat} : ∀ {xs : List (Sl D)} {vs : List Value}, SlsRel S M w g xs vs → (∀ l ∈ xs.flatMap Sl.refs, ∀ u, g l = some u → g' (f l) = some u) → SlsRel S M w g' (xs.map (Sl.ren f)) vs
  | [], [], _, _ => trivial
  | x :: xs, v :: vs, h, hf => ⟨h.1.ren (fun l hl => hf l (by simp [hl])) (fun _ _ hb => hb), SlsRel.ren h.2 (fun l hl => hf l (by simp at hl ⊢; exact .inr hl))⟩

theorem Lf.ren_ren {f h : Nat → Nat} {x : Lf D} (hx : ∀ l ∈ x.refs, h (f l) = l) : (x.ren f).ren h = x := by
  cases x with
  | ptr l o => simp only [Lf.ren]; rw [hx l (by simp [Lf.refs])]
  | own l => simp only [Lf.ren]; rw [hx l (by simp [Lf.refs])]
  | opt l i j sz => simp only [Lf.ren]; rw [hx l (by simp [Lf.refs])]
  | part l i j sz f => simp only [Lf.ren]; rw [hx l (by simp [Lf.refs])]
  | fn g caps =>
    simp only [Lf.ren, List.map_map]
    have : caps.map (h ∘ f) = caps := by
      have := List.map_congr_left (l := caps) (f := h ∘ f) (g := id) fun l hl => hx l hl
      simpa using this
    rw [this]
  | _ => rfl
theorem Bk.ren_ren {f h : Nat → Nat} {bk : Bk D} (hx : ∀ l ∈ bk.refs, h (f l) = l) : (bk.ren f).ren h = bk := by
  cases bk with
  | cells cs =>
    simp only [Bk.ren, List.map_map]
    have : cs.map (Lf.ren h ∘ Lf.ren f) = cs := by
      have := List.map_congr_left (l := cs) (f := Lf.ren h ∘ Lf.ren f) (g := id) fun x hx' => Lf.ren_ren fun l hl => hx l (List.mem_flatMap.2 ⟨x, hx', hl⟩)
      simpa using this
    rw [this]
  | row e d => rfl
  | ice d => rfl
  | iter s p => rfl
theorem back_pos {l : Nat} (h : l ∈ ids) : backTo ids fr (posIn ids l) = l := by
  unfold backTo
  have := posIn_get h
  have hlt := (List.getElem?_eq_some_iff.1 this).1
  rw [if_pos (by simpa [Nat.blt_eq] using hlt)]
  simp [List.getD, this]

theorem callOn_sound {f : FuncId} {ct : Ct D} {args : List (Sl D)} {vals : List Value} (hok : CtOk P S f ct) (h : Hp S w0 N blk g al w) (hfr : ∀ n, fr ≤ n → n < fr + 64 → ¬ al n)
    (hargs : ∀ ids bks, getAll blk ids = some bks → (∀ l ∈ vids, l ∉ ids) → SlsRel S (Mset (Nc N blk g ids vids) (tabOf (bks.map (Bk.ren (posIn ids)))) (gc g ids)) w g args vals)
    (hvl : ∀ l ∈ vids, ∃ u, g l = some u) (hvr : ∀ l ∈ vids, (∃ e d, blk l = some (.row e d)) ∨ hot (blk l) = false ∨ l ∈ args.flatMap Sl.refs) (hout : callOn ct blk fr args vids = some out) (hp : preP out.pre) :
    Calls P f vals.toArray w fun e w' => ∃ v g', e = .returned v ∧ More g g' ∧ Keeps (Mset N blk g) w (Mset N (updL blk out.blks) g') w' ∧ Hp S w0 N (updL blk out.blks) g' (fun n => al n ∨ (fr ≤ n ∧ n < fr + 64)) w' ∧
      out.val.Rel S (Mset N (updL blk out.blks) g') w' g' v := by
  unfold callOn at hout
  generalize hids : reach blk 3 (addNew [] (args.flatMap Sl.refs)) = ids at hout
  dsimp only at hout
  have hnd : ids.Nodup := by rw [← hids]; exact reach_nodup 3 _ (addNew_nodup _ _ List.nodup_nil)
  split at hout
  · cases hout
  · rename_i bks hg
    split at hout
    · rename_i hc
      simp only [Bool.and_eq_true, Bool.not_eq_true', List.any_eq_false] at hc
      obtain ⟨⟨c1, c2⟩, c3⟩ := hc
      have c1 := allIn_mem c1
      have c2 : ∀ bk ∈ bks, ∀ l ∈ bk.refs, l ∈ ids := fun bk hbk l hl => allIn_mem c2 l (List.mem_flatMap.2 ⟨bk, hbk, hl⟩)
      have hv : ∀ l ∈ vids, l ∉ ids := fun l hl hm => c3 l hl (memB_iff.2 hm)
      split at hout
      · rename_i p r post keep hct
        split at hout
        · rename_i hq
          simp only [Bool.and_eq_true] at hq
          obtain ⟨⟨⟨⟨⟨k1, k2⟩, k3⟩, k4⟩, k5⟩, k6⟩ := hq
          have k6 : ∀ i ∈ keep, i < ids.length ∧ i ∉ post.map (·.1) := fun i hi => by
            have := List.all_eq_true.1 k6 i hi
            simp only [Bool.and_eq_true, Bool.not_eq_true'] at this
            refine ⟨by simpa [Nat.blt_eq] using this.1, fun hm => ?_⟩
            rw [memB_iff.2 hm] at this
            simp at this
          have hlen : (bks.map (Bk.ren (posIn ids))).length = ids.length := by rw [List.length_map]; exact (getAll_spec hg).1
          have tabOff : ∀ i, i ∉ keep → tabK post keep (bks.map (Bk.ren (posIn ids))) i = lookB post i := fun i hi => by
            unfold tabK
            cases hlk : lookB post i with
            | some bk => rfl
            | none =>
              have : memB i keep = false := by
                cases hm : memB i keep with
                | false => rfl
                | true => exact absurd (memB_iff.1 hm) hi
              simp [this]
          have tabOn : ∀ i, i ∈ keep → tabK post keep (bks.map (Bk.ren (posIn ids))) i = (bks.map (Bk.ren (posIn ids)))[i]? := fun i hi => by
            unfold tabK
            have : lookB post i = none := by
              cases hlk : lookB post i with
              | none => rfl
              | some bk => exact absurd (List.mem_map.2 ⟨_, lookB_mem hlk, rfl⟩) (k6 i hi).2
            rw [this, memB_iff.2 hi]
            rfl
          have tabIn : ∀ i, i ∈ post.map (·.1) ++ keep → (tabK post keep (bks.map (Bk.ren (posIn ids))) i).isSome = true := fun i hi => by
            by_cases hk : i ∈ keep
            · rw [tabOn i hk]
              have := (k6 i hk).1
              rw [← hlen] at this
              rw [List.getElem?_eq_getElem this]
              rfl
            · rw [tabOff i hk]
              rcases List.mem_append.1 hi with q | q
              · exact lookB_isSome q
              · exact absurd q hk
          injection hout with hout
          have hpre : preP p := by subst hout; exact hp
          have hl := h.lend hnd hg c2 hv (vids := vids)
          have hrel := (hargs ids bks hg hv).ren (g' := gc g ids) (f := posIn ids) (fun l hl u hu => by rw [gc_pos (c1 l hl)]; exact hu)
          refine (hok.calls _ _ _ w vals _ _ p r post keep hl hrel hct hpre).mono ?_
          rintro e w' ⟨v, gc', rfl, hm, hc', hr⟩
          have glt : ∀ l u, g l = some u → ¬ (fr ≤ l ∧ l < fr + 64) := fun l u hl hle => hfr l hle.1 hle.2 (h.al l u hl)
          have blt : ∀ l bk, blk l = some bk → ¬ (fr ≤ l ∧ l < fr + 64) := fun l bk hl => by obtain ⟨u, hu, _⟩ := h.bks l bk hl; exact glt l u hu
          have idlt : ∀ l ∈ ids, ¬ (fr ≤ l ∧ l < fr + 64) := fun l hl => by
            obtain ⟨bk, hbk, _⟩ := (getAll_spec hg).2 _ l (posIn_get hl)
            exact blt l bk hbk
          let fz : Bool := r.hasDat || post.any (fun q => q.2.hasDat) || keep.any (fun i => datAt (bks.map (Bk.ren (posIn ids))) i)
          -- the keys that are written
          have inA : ∀ l x, (l, x) ∈ ((ids.filter fun l => !memB (posIn ids l) keep).map fun l => (l, (lookB post (posIn ids l)).map (Bk.ren (backTo ids fr)))) → l ∈ ids ∧ posIn ids l ∉ keep ∧ x = (lookB post (posIn ids l)).map (Bk.ren (backTo ids fr)) := by
            intro l x hx
            obtain ⟨l', hl', he⟩ := List.mem_map.1 hx
            injection he with e1 e2
            subst e1
            obtain ⟨q1, q2⟩ := List.mem_filter.1 hl'
            refine ⟨q1, fun hm => ?_, e2.symm⟩
            rw [memB_iff.2 hm] at q2
            simp at q2
          have inB : ∀ l x, (l, x) ∈ ((post.filter fun q => !Nat.blt q.1 ids.length).map fun q => (backTo ids fr q.1, some (q.2.ren (backTo ids fr)))) → ∃ i bk, (i, bk) ∈ post ∧ ids.length ≤ i ∧ i < ids.length + 64 ∧ l = fr + (i - ids.length) ∧ x = some (bk.ren (backTo ids fr)) := by
            intro l x hx
            obtain ⟨⟨i, bk⟩, hq, he⟩ := List.mem_map.1 hx
            obtain ⟨hmem, hge⟩ := List.mem_filter.1 hq
            injection he with e1 e2
            have hge : ¬ i < ids.length := fun hlt => by
              rw [show Nat.blt i ids.length = true from Nat.blt_eq ▸ hlt] at hge
              simp at hge
            refine ⟨i, bk, hmem, by omega, freshOk_lt k1 i bk hmem, ?_, e2.symm⟩
            rw [← e1]
            simp only [backTo]
            rw [if_neg (by simpa [Nat.blt_eq] using hge)]
          have inC : ∀ l x, (l, x) ∈ (if fz then vids.filterMap (iceOf blk) else ([] : List (Nat × Option (Bk D)))) → fz = true ∧ l ∈ vids ∧ ∃ e d, blk l = some (.row e d) ∧ x = some (.ice d) := by
            intro l x hx
            by_cases hz : fz = true
            · rw [if_pos hz] at hx
              obtain ⟨l', hl', he⟩ := List.mem_filterMap.1 hx
              unfold iceOf at he
              split at he
              · rename_i e d hrow
                injection he with he
                injection he with e1 e2
                subst e1
                exact ⟨hz, hl', e, d, hrow, e2.symm⟩
              · cases he
            · rw [if_neg hz] at hx
              simp at hx
          have hblks : out.blks = ((ids.filter fun l => !memB (posIn ids l) keep).map fun l => (l, (lookB post (posIn ids l)).map (Bk.ren (backTo ids fr)))) ++ (post.filter fun q => !Nat.blt q.1 ids.length).map (fun q => (backTo ids fr q.1, some (q.2.ren (backTo ids fr)))) ++
            (if fz then vids.filterMap (iceOf blk) else []) := by
            rw [← hout]
          have hall : ∀ l x, (l, x) ∈ out.blks → (l ∈ ids ∧ posIn ids l ∉ keep ∧ x = (lookB post (posIn ids l)).map (Bk.ren (backTo ids fr))) ∨ (∃ i bk, (i, bk) ∈ post ∧ ids.length ≤ i ∧ i < ids.length + 64 ∧ l = fr + (i - ids.length) ∧ x = some (bk.ren (backTo ids fr))) ∨ (fz = true ∧ l ∈ vids ∧ ∃ e d, blk l = some (.row e d) ∧ x = some (.ice d)) := by
            intro l x hx
            rw [hblks] at hx
            rcases List.mem_append.1 hx with hx | hx
            · rcases List.mem_append.1 hx with hx | hx
              · exact .inl (inA l x hx)
              · exact .inr (.inl (inB l x hx))
            · exact .inr (.inr (inC l x hx))
          have hB : Back blk (updL blk out.blks) (tabK post keep (bks.map (Bk.ren (posIn ids)))) ids vids fr fz := by
            refine ⟨fun l hl => ?_, fun j hj => ?_, fun l hl hz => ?_, fun l h1 h2 h3 => ?_⟩
            · by_cases hk : posIn ids l ∈ keep
              · obtain ⟨bk, q1, q2⟩ := (getAll_spec hg).2 _ l (posIn_get hl)
                rw [tabOn _ hk, List.getElem?_map, q2]
                simp only [Option.map_some]
                rw [Bk.ren_ren fun r hr => back_pos (c2 bk (List.mem_of_getElem? q2) r hr), ← q1]
                refine updL_off fun x hx => ?_
                rcases hall l x hx with ⟨_, q, _⟩ | ⟨i, bk, q1, q2, q3, q4, _⟩ | ⟨_, q, _⟩
                · exact q hk
                · exact absurd (show fr ≤ l ∧ l < fr + 64 by omega) (idlt l hl)
                · exact absurd hl (hv l q)
              rw [tabOff _ hk]
              refine updL_at (by
                rw [hblks]
                refine List.mem_append_left _ (List.mem_append_left _ (List.mem_map.2 ⟨l, List.mem_filter.2 ⟨hl, ?_⟩, rfl⟩))
                cases hm : memB (posIn ids l) keep with
                | false => rfl
                | true => exact absurd (memB_iff.1 hm) hk) fun x hx => ?_
              rcases hall l x hx with ⟨_, _, q⟩ | ⟨i, bk, q1, q2, q3, q4, _⟩ | ⟨_, q, _⟩
              · exact q
              · exact absurd (show fr ≤ l ∧ l < fr + 64 by omega) (idlt l hl)
              · exact absurd hl (hv l q)
            · rw [tabOff _ fun hk => by have := (k6 _ hk).1; omega]
              cases hlk : lookB post (ids.length + j) with
              | none =>
                rw [updL_off]
                · cases hb : blk (fr + j) with
                  | none => rfl
                  | some bk => exact absurd ⟨Nat.le_add_right fr j, by omega⟩ (blt _ bk hb)
                · intro x hx
                  rcases hall _ x hx with ⟨q, _⟩ | ⟨i, bk, q1, q2, q3, q4, _⟩ | ⟨_, _, e, d, q, _⟩
                  · exact idlt _ q (by omega)
                  · have : i = ids.length + j := by omega
                    subst this
                    rw [lookB_of k2 q1] at hlk
                    cases hlk
                  · exact blt _ _ q (by omega)
              | some bk =>
                refine updL_at (by
                  rw [hblks]
                  refine List.mem_append_left _ (List.mem_append_right _ (List.mem_map.2 ⟨(ids.length + j, bk), List.mem_filter.2 ⟨lookB_mem hlk, by rw [blt_no (Nat.le_add_right _ _)]; rfl⟩, ?_⟩))
                  simp only [backTo, Option.map_some]
                  rw [if_neg (by simp [Nat.blt_eq])]
                  congr 1
                  omega) fun x hx => ?_
                rcases hall _ x hx with ⟨q, _⟩ | ⟨i, bk', q1, q2, q3, q4, q5⟩ | ⟨_, _, e, d, q, _⟩
                · exact absurd (by omega) (idlt _ q)
                · have : i = ids.length + j := by omega
                  subst this
                  rw [lookB_of k2 q1] at hlk
                  injection hlk with hlk
                  rw [q5, hlk]
                  rfl
                · exact absurd (by omega) (blt _ _ q)
            · by_cases hrow : ∃ e d, blk l = some (.row e d)
              · obtain ⟨e, d, hrow⟩ := hrow
                refine .inl ⟨e, d, hrow, updL_at (by
                  rw [hblks, if_pos hz]
                  exact List.mem_append_right _ (List.mem_filterMap.2 ⟨l, hl, by unfold iceOf; rw [hrow]⟩)) fun x hx => ?_⟩
                rcases hall _ x hx with ⟨q, _⟩ | ⟨i, bk', q1, q2, q3, q4, q5⟩ | ⟨_, _, e', d', q, q'⟩
                · exact absurd q (hv l hl)
                · exact absurd (by omega) (blt _ _ hrow)
                · rw [hrow] at q
                  injection q with q
                  injection q with _ q
                  rw [q', q]
              · have hnot : hot (blk l) = false := by
                  rcases hvr l hl with q | q | q
                  · exact absurd q hrow
                  · exact q
                  · exact absurd (c1 l q) (hv l hl)
                by_cases hfl : fr ≤ l ∧ l < fr + 64
                · obtain ⟨u, hu⟩ := hvl l hl
                  exact absurd hfl (glt l u hu)
                · refine .inr ⟨hnot, updL_off fun x hx => ?_⟩
                  rcases hall _ x hx with ⟨q, _⟩ | ⟨i, bk', q1, q2, q3, q4, q5⟩ | ⟨_, _, e', d', q, q'⟩
                  · exact hv l hl q
                  · exact hfl (by omega)
                  · exact hrow ⟨e', d', q⟩
            · refine updL_off fun x hx => ?_
              rcases hall _ x hx with ⟨q, _⟩ | ⟨i, bk', q1, q2, q3, q4, q5⟩ | ⟨hz, q, _⟩
              · exact h1 q
              · exact h3 (by omega)
              · exact h2 hz q
          obtain ⟨g1, g2, g3, g4⟩ := h.back hfr hnd hg hv hm hc' hB (fun i hi => by
              by_cases hk : i ∈ keep
              · have := (k6 i hk).1; omega
              rw [tabOff i hk] at hi
              obtain ⟨bk, hbk⟩ := Option.isSome_iff_exists.1 hi
              exact freshOk_lt k1 i bk (lookB_mem hbk))
            (fun i bk hbk l hl => by
              by_cases hk : i ∈ keep
              · rw [tabOn i hk] at hbk
                exact tabIn l (allIn_mem k5 l (List.mem_flatMap.2 ⟨i, hk, by unfold refsAt; rw [hbk]; exact hl⟩))
              · rw [tabOff i hk] at hbk
                exact tabIn l (allIn_mem k3 l (List.mem_flatMap.2 ⟨(i, bk), lookB_mem hbk, hl⟩)))
            (fun i bk hbk hd => by
              simp only [fz, Bool.or_eq_true, List.any_eq_true]
              by_cases hk : i ∈ keep
              · rw [tabOn i hk] at hbk
                exact .inr ⟨i, hk, by unfold datAt; rw [hbk]; exact hd⟩
              · rw [tabOff i hk] at hbk
                exact .inl (.inr ⟨(i, bk), lookB_mem hbk, hd⟩))
          refine ⟨v, _, rfl, gBack_more, g2, g1, ?_⟩
          have : out.val = r.ren (backTo ids fr) := by rw [← hout]
          rw [this]
          exact hr.ren (fun l hl u hu => g4 l (tabIn l (allIn_mem k4 l hl)) u hu) (fun hd => g3 (by simp [fz, hd]))
        · cases hout
      · cases hout
    · cases hout
end
end Go.Vc
