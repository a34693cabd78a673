/-
  Own engine, part 8b: data cut (a part of a slice, of a text), data copied into a row of the call's own.
-/
import Derived.Test.YtemjcccdcnhmhaaGreatDoorVdf
namespace Go.Vc
open Go.RowKit
set_option linter.unusedVariables false

section
variable {D : Type} {P : Program} {S : Sh D} {T : TypeId → Option Ty} {M N : Nat → Prop} {w w' : World} {w0 : Bs} {g : Nat → Option Value} {blk : Nat → Option (Bk D)} {al : Nat → Prop}
  {a : Act} {o : Oper} {K : Act → World → Prop} {Q : Exit → Act → World → Prop} {slot : Nat → Sl D} {out : Out D} {fr : Nat}

theorem dat_sub (hS : ShOk S) {d d' : D} {av : Option Addr} {n cap l h : Nat} (hd : DatOk S M w d (.slice av n cap)) (hs : S.sub d l h = some d') (h1 : l ≤ h) (h2 : h ≤ S.len d) : DatOk S M w d' (sliced av l h cap (S.size d)) := by
  obtain ⟨e1, e2, e3⟩ := hS.sub _ _ _ _ hs h1 h2
  intro w' hw
  have hr := hd w' hw
  generalize hv : Value.slice av n cap = v at hr
  cases hr with
  | mk d a' cap' U hcap hlen hcell hpl hdat =>
    injection hv with i1 i2 i3
    subst i1 i3
    show DRel S w' d' (.slice (if cap = l then av else av.map (·.add (l * S.size d))) (h - l) (cap - l))
    rw [← e2]
    refine DRel.mk d' _ (cap - l) (fun i j => U (l + i) j) (by omega) (by omega) (fun i j hi hj => ?_) (fun i j hi hj => ?_) (fun i j x hi hj hx => ?_)
    · rw [e1] at hj
      obtain ⟨ad, had, hc⟩ := hcell (l + i) j (by omega) hj
      have hne : ¬ cap = l := by omega
      refine ⟨ad.add (l * S.size d), by rw [if_neg hne, had]; rfl, ?_⟩
      rw [add_add', e1, ← hc, Nat.add_mul]
      congr 2
      omega
    · rw [e1] at hj
      rw [e3 i j (by omega)]
      exact hpl (l + i) j (by omega) hj
    · rw [e1] at hj
      rw [e3 i j (by omega)] at hx
      exact hdat (l + i) j x (by omega) hj hx

theorem bnd_rel {n : Nat} {lo : Option Operand} {l : Int} (hr : ∀ x : Operand, (opnd slot x).Rel S M w g (a.eval x)) (h : bnd n (lo.map (opnd slot)) = some l) : (lo = none ∧ l = n) ∨ ∃ x k, lo = some x ∧ a.eval x = .int k l := by
  cases lo with
  | none => simp only [Option.map_none, bnd, Option.some.injEq] at h; exact .inl ⟨rfl, h.symm⟩
  | some x =>
    simp only [Option.map_some] at h
    unfold bnd at h
    split at h
    · rename_i he; cases he
    · rename_i k i he
      injection he with he
      injection h with h
      subst h
      have := hr x
      rw [he] at this
      exact .inr ⟨x, k, rfl, this⟩
    · cases h

theorem run_cut {t e : TypeId} {x : Operand} {lo hi : Option Operand} {sz s n cap : Nat} {av : Option Addr} {l hh : Int} (ho : o.op = .slice t x lo hi none) (hsl : P.underlying t = some (.slice e)) (hsz : (sizeOf e).run P w = .ok sz w) (hv : a.eval x = .slice av n cap) (hcap : n ≤ cap)
    (hr : ∀ x : Operand, (opnd slot x).Rel S (Mset N blk g) w g (a.eval x)) (hl : bnd 0 (lo.map (opnd slot)) = some l) (hhi : bnd n (hi.map (opnd slot)) = some hh) (h1 : sz = s) (p1 : 0 ≤ l) (p2 : l ≤ hh) (p3 : hh ≤ n) :
    (execOp a.eval o).run P w = .ok (.value (sliced av l.toNat hh.toNat cap s)) w := by
  have hel2 : P.elem t = e := by simp [Program.elem, hsl]
  have hsl' : P.underlying t = some (.slice (P.elem t)) := by rw [hel2]; exact hsl
  have e1 : (execOp a.eval o).run P w = ((Instr.slice t (.slice av (n) cap) (lo.map a.eval) (hi.map a.eval) none).run P w).andThen fun v w => .ok (.value v) w := by
    simp [execOp, ho, hv, run_sliceAt_slice w t _ _ _ _ hsl']
  rw [e1]
  rcases bnd_rel hr hl with ⟨rfl, hl0⟩ | ⟨xl, kl, rfl, hxl⟩ <;> rcases bnd_rel hr hhi with ⟨rfl, hh0⟩ | ⟨xh, kh, rfl, hxh⟩
  · simp only [Option.map_none]
    rw [run_slice_all w t _ _ _ hsl', hel2, hsz]
    have : l.toNat = 0 := by omega
    have h2 : hh.toNat = n := by omega
    rw [this, h2, ← h1]; rfl
  · simp only [Option.map_none, Option.map_some, hxh]
    rw [run_slice_h w t _ _ _ hsl' kh hh (by omega) (by omega), hel2, hsz]
    have : l.toNat = 0 := by omega
    rw [this, ← h1]; rfl
  · simp only [Option.map_none, Option.map_some, hxl]
    rw [run_slice_l w t _ _ _ hsl' kl l (by omega) (by omega), hel2, hsz]
    have h2 : hh.toNat = n := by omega
    rw [h2, ← h1]; rfl
  · simp only [Option.map_some, hxl, hxh]
    rw [run_slice_lh w t _ _ _ hsl' kl kh l hh (by omega) (by omega) (by omega), hel2, hsz, ← h1]
    rfl

theorem sound_slice {t : TypeId} {x : Operand} {lo hi : Option Operand} (hS : ShOk S) (ho : o.op = .slice t x lo hi none) (hTy : ∀ t ty, T t = some ty → TyOk P t ty) (h : Hp S w0 N blk g al w)
    (hr : ∀ x : Operand, (opnd slot x).Rel S (Mset N blk g) w g (a.eval x)) (hout : xSlice T S blk t (opnd slot x) (lo.map (opnd slot)) (hi.map (opnd slot)) = some out) (hp : preP out.pre) (hK : Post S w0 N blk g al w fr out o.dst a K) : o.wp P a w K Q := by
  have hx := hr x
  unfold xSlice at hout
  split at hout
  · cases hout
  · rename_i ty hty
    split at hout
    · cases hout
    · rename_i l hl
      split at hout
      · rename_i s hex
        rw [hex] at hx
        simp only [Sl.Rel, Sv.Rel, Lf.Rel] at hx
        obtain ⟨hx, hxl⟩ := hx
        split at hout
        · rename_i hk
          obtain ⟨d, hd, hkd⟩ := ty_kind (hTy _ _ hty)
          have hk : ty.kind = 3 := by simpa using hk
          rw [hk] at hkd
          have hd : P.underlying t = some .string := by cases d <;> simp_all [kindOf]
          split at hout
          · rename_i hh hhi
            injection hout with hout
            subst hout
            obtain ⟨p1, p2, p3⟩ := hp
            have hsz : (ByteArray.mk s.toArray).size = s.length := by show s.toArray.size = _; simp
            have hex2 : (ByteArray.mk s.toArray).extract l.toNat hh.toNat = ⟨((s.take hh.toNat).drop l.toNat).toArray⟩ := by
              apply ByteArray.ext
              rw [ByteArray.data_extract]
              apply Array.toList_inj.1
              simp [List.extract_eq_take_drop, List.drop_take]
            refine wp_same (v := .string ⟨((s.take hh.toNat).drop l.toNat).toArray⟩) ?_ h hK rfl ⟨rfl, by rw [List.length_drop, List.length_take]; omega⟩
            rw [← hex2]
            have e1 : (execOp a.eval o).run P w = ((Instr.slice t (.string ⟨s.toArray⟩) (lo.map a.eval) (hi.map a.eval) none).run P w).andThen fun v w => .ok (.value v) w := by
              simp [execOp, ho, hx, run_sliceAt_string w t _ _ _ _ hd]
            rw [e1]
            rcases bnd_rel hr hl with ⟨rfl, hl0⟩ | ⟨xl, kl, rfl, hxl⟩ <;> rcases bnd_rel hr hhi with ⟨rfl, hh0⟩ | ⟨xh, kh, rfl, hxh⟩
            · simp only [Option.map_none]
              rw [run_slice_string_all w t _ hd]
              have : l.toNat = 0 := by omega
              have h2 : hh.toNat = (ByteArray.mk s.toArray).size := by omega
              rw [this, h2]; rfl
            · simp only [Option.map_none, Option.map_some, hxh]
              rw [run_slice_string_h w t _ hd kh hh (by omega) (by omega)]
              have : l.toNat = 0 := by omega
              rw [this]; rfl
            · simp only [Option.map_none, Option.map_some, hxl]
              rw [run_slice_string_l w t _ hd kl l (by omega) (by omega)]
              have h2 : hh.toNat = (ByteArray.mk s.toArray).size := by omega
              rw [h2]; rfl
            · simp only [Option.map_some, hxl, hxh]
              rw [run_slice_string w t _ kl kh l hh hd (by omega) (by omega) (by omega)]
              rfl
          · cases hout
        · cases hout
      · rename_i d hex
        rw [hex] at hx
        split at hout
        · cases hout
        · rename_i e hel
          split at hout
          · cases hout
          · rename_i te hte
            have hsl := ty_elem (hTy _ _ hty) hel
            have hsz := ty_size (hTy _ _ hte) w
            split at hout
            · rename_i hc
              simp only [Bool.and_eq_true] at hc
              have h1 := Nat.eq_of_beq_eq_true hc.1
              split at hout
              · rename_i hh hhi
                split at hout
                · rename_i d' hd'
                  injection hout with hout
                  subst hout
                  obtain ⟨p1, p2, p3⟩ := hp
                  have hx : DatOk S (Mset N blk g) w d (a.eval x) := hx
                  obtain ⟨av, cap, hv, hcap⟩ := DatOk.slice hx
                  rw [hv] at hx
                  have hres := dat_sub hS hx hd' (by omega) (by omega)
                  refine wp_same (v := sliced av l.toNat hh.toNat cap (S.size d)) ?_ h hK rfl hres
                  exact run_cut ho hsl hsz hv hcap hr hl hhi h1 p1 p2 p3
                · cases hout
              · cases hout
            · cases hout
      · rename_i q hex
        rw [hex] at hx
        have hx : g q = some (a.eval x) := hx
        split at hout
        · cases hout
        · rename_i e hel
          split at hout
          · cases hout
          · rename_i te hte
            have hsl := ty_elem (hTy _ _ hty) hel
            have hsz := ty_size (hTy _ _ hte) w
            split at hout
            · rename_i e' d hb
              split at hout
              · rename_i hh hhi
                injection hout with hout
                subst hout
                obtain ⟨p1, p2, p3⟩ := hp
                obtain ⟨v, hv', _, xs, ⟨_, hown⟩, _⟩ := h.bks q _ hb
                rw [hx] at hv'
                injection hv' with hv'
                rcases hown with ⟨h0, hn0⟩ | ⟨b, cap', cur, hvv, _, _, hnc, _⟩
                · exact wp_same (v := _) (run_cut (n := S.len d) (cap := 0) ho hsl hsz (by rw [hv', h0, hn0]) (by omega) hr hl hhi rfl p1 p2 p3) h hK rfl ⟨none, S.len d, 0, by rw [hx, hv', h0, hn0], rfl, by omega, by omega, rfl⟩
                · exact wp_same (v := _) (run_cut (n := S.len d) ho hsl hsz (by rw [hv', hvv]) hnc hr hl hhi rfl p1 p2 p3) h hK rfl ⟨_, S.len d, _, by rw [hx, hv', hvv], rfl, by omega, by omega, rfl⟩
              · cases hout
            · cases hout
      · cases hout

/-- What a block of the call's own holds, told otherwise. -/
theorem Hp.retell (h : Hp S w0 N blk g al w) {l : Nat} {bk bk' : Bk D} {v : Value} (hl : blk l = some bk) (hh : hot (some bk) = true) (hh' : hot (some bk') = true) (hg : g l = some v)
    (hok : BkOk S (Mset N blk g) w g w0 bk' v) : Hp S w0 N (upd blk l (some bk')) g al w ∧ Keeps (Mset N blk g) w (Mset N (upd blk l (some bk')) g) w := by
  have hsome : ∀ n, hot (upd blk l (some bk') n) = hot (blk n) := by
    intro n
    by_cases he : n = l
    · subst he; simp [upd_same, hl, hh, hh']
    · rw [upd_other _ _ _ _ he]
  have hM : Mset N (upd blk l (some bk')) g = Mset N blk g := by
    funext c
    simp only [Mset, hsome]
  refine ⟨⟨h.below, h.hN, ?_, ?_, h.al, h.refs, by rw [hM]; exact h.gl⟩, hM ▸ Keeps.refl _ _⟩
  · intro n bkn hn
    rw [hM]
    by_cases he : n = l
    · subst he
      rw [upd_same] at hn
      injection hn with hn
      subst hn
      exact ⟨v, hg, hok⟩
    · rw [upd_other _ _ _ _ he] at hn
      exact h.bks n bkn hn
  · intro a c va vc d ha hc
    rw [hsome] at ha hc
    exact h.sep a c va vc d ha hc

theorem one_of {v : Value} (h : v.oneCell' = true) : one' v = true := by cases v <;> simp_all [one', Value.oneCell']

theorem sound_copy {c : Call} {x y : Operand} (hS : ShOk S) (ho : o.op = .call c) (hc : c.callee = .builtin .copy) (hx' : c.args.toList = [x, y]) (hTy : ∀ t ty, T t = some ty → TyOk P t ty) (h : Hp S w0 N blk g al w)
    (hx : (opnd slot x).Rel S (Mset N blk g) w g (a.eval x)) (hy : (opnd slot y).Rel S (Mset N blk g) w g (a.eval y)) (hout : xCopy T S blk c.argTypes (opnd slot x) (opnd slot y) = some out) (hK : Post S w0 N blk g al w fr out o.dst a K) : o.wp P a w K Q := by
  unfold xCopy at hout
  split at hout
  · rename_i t t' hts
    split at hout
    · rename_i htt
      have htt := Nat.eq_of_beq_eq_true htt
      subst htt
      split at hout
      · cases hout
      · rename_i ty hty
        split at hout
        · cases hout
        · rename_i e hel
          split at hout
          · cases hout
          · rename_i te hte
            have hsl := ty_elem (hTy _ _ hty) hel
            have hsz := ty_size (hTy _ _ hte) w
            split at hout
            · rename_i l d2 hex hey
              rw [hex] at hx
              rw [hey] at hy
              have hx : g l = some (a.eval x) := hx
              have hy : DatOk S (Mset N blk g) w d2 (a.eval y) := hy
              split at hout
              · rename_i e' d1 hb
                split at hout
                · rename_i hcc
                  simp only [Bool.and_eq_true] at hcc
                  obtain ⟨c1, c2, c3, c4⟩ := hcc
                  have c1 := Nat.eq_of_beq_eq_true c1
                  have c2 := Nat.eq_of_beq_eq_true c2
                  have c3 := Nat.eq_of_beq_eq_true c3
                  have c4 : 0 < te.size := by simpa [Nat.blt_eq] using c4
                  subst c1
                  split at hout
                  · rename_i dp dq hdp hdq
                    split at hout
                    · rename_i d hd
                      injection hout with hout
                      subst hout
                      generalize hm : min (S.len d2) (S.len d1) = m at *
                      have hm1 : m ≤ S.len d1 := by omega
                      have hm2 : m ≤ S.len d2 := by omega
                      obtain ⟨p1, p2, p3⟩ := hS.sub _ _ _ _ hdp (by omega) hm2
                      obtain ⟨q1, q2, q3⟩ := hS.sub _ _ _ _ hdq hm1 (Nat.le_refl _)
                      obtain ⟨k1, k2, k3, k4, k5⟩ := hS.cat _ _ _ hd
                      have hsd : S.size d = te.size := by omega
                      have hld : S.len d = S.len d1 := by omega
                      obtain ⟨av, cap, news, hv2, hnl, hnc, hnz, hone, hnr⟩ := dat_news (g := g) hS hy (by omega)
                      obtain ⟨v, hv', hmine, xs, ⟨hxl, hown⟩, hcell⟩ := h.bks l _ hb
                      rw [hx] at hv'
                      injection hv' with hv'
                      -- what is loaded
                      have hload : (Builtin.firstCells te.size m (a.eval y)).run P w = .ok (news.take (m * te.size)).toArray w := by
                        rw [hv2]
                        cases av with
                        | none =>
                          have h0 := hnz rfl
                          have : m = 0 := by omega
                          subst this
                          simp [Builtin.firstCells]
                        | some ad =>
                          have hlen : (news.take (m * te.size)).length = m * te.size := by
                            rw [List.length_take, hnl, ← c3]
                            have := Nat.mul_le_mul_right te.size hm2
                            omega
                          have := run_loadCells_list (P := P) w ad (news.take (m * te.size)) (fun j u hj => hnc ad rfl j u (by
                            rw [List.getElem?_take] at hj
                            split at hj
                            · exact hj
                            · cases hj))
                          rw [hlen] at this
                          exact this
                      have hlenOf : (Builtin.lenOf (a.eval y)).run P w = .ok (S.len d2) w := by rw [hv2]; simp [Builtin.lenOf]
                      have hargs : c.args = #[x, y] := by rw [← Array.toList_inj]; exact hx'
                      have hat : c.argTypes = #[t, t] := by rw [← Array.toList_inj]; exact hts
                      rcases hown with ⟨h0, hn0⟩ | ⟨b, cap', cur, hvv, _, hh, hnc', hcm, hcs, htake⟩
                      · -- the row is nil
                        have hm0 : m = 0 := by omega
                        subst hm0
                        have hdst : a.eval x = .slice none 0 0 := by rw [hv', h0]
                        have hrun' : (execOp a.eval o).run P w = .ok (.value (goInt 0)) w := by
                          simp [execOp, ho, resolve, hc, invoke, builtin, hargs, hat, Builtin.copy_, run_underlying hsl, hdst, hlenOf, hsz, hload]
                        obtain ⟨g1, g2⟩ := h.retell (bk' := .row e d) hb rfl rfl hx (by
                          rw [hv']
                          refine ⟨⟨hmine.1, by rw [hld]; exact hmine.2⟩, [], ⟨by simp [hld, hn0], .inl ⟨h0, by omega⟩⟩, fun i j hi hj => by omega⟩)
                        exact wp_val hrun' (hK _ _ _ (More.refl _) g2 (g1.weaken fun _ h => .inl h) rfl)
                      · have hdst : a.eval x = .slice (some ⟨b, 0, none⟩) (S.len d1) cap' := by rw [hv', hvv]
                        have hlt : (news.take (m * te.size)).length = m * te.size := by
                          rw [List.length_take, hnl, ← c3]
                          have := Nat.mul_le_mul_right te.size hm2
                          omega
                        have hms : m * te.size ≤ S.len d1 * te.size := Nat.mul_le_mul_right _ hm1
                        have hcl : S.len d1 * te.size ≤ cur.toList.length := by rw [Array.length_toList, hcs, ← c2]; exact Nat.mul_le_mul_right _ hnc'
                        have hh' : w.heap[b]? = some (.cells (cur.toList).toArray e (0, 0)) := by simpa using hh
                        obtain ⟨w', hrun, hb', hn, hs, q1', q2', q3'⟩ := run_storeCells (P := P) b e (news.take (m * te.size)) w cur.toList 0 0 hh' (by omega) (by
                          rw [List.all_eq_true]
                          intro u hu
                          exact one_of (hone u (List.mem_of_mem_take hu)))
                        have hrun' : (execOp a.eval o).run P w = .ok (.value (goInt m)) w' := by
                          have hmin : Nat.min (S.len d2) (S.len d1) = m := hm
                          simp [execOp, ho, resolve, hc, invoke, builtin, hargs, hat, Builtin.copy_, run_underlying hsl, hdst, hlenOf, hmin, hsz, hload, hrun]
                        have hcurx : ∀ k, k < S.len d1 * te.size → cur.toList[k]? = xs[k]? := fun k hk => by rw [← htake, List.getElem?_take, if_pos (by rw [← c2]; exact hk)]
                        simp only [Nat.add_zero, Nat.zero_add, List.take_zero, List.nil_append, hlt] at hb'
                        obtain ⟨g1, g2⟩ := h.write (bk' := .row e d) hb rfl rfl hx (by rw [hdst]; rfl) q1' q2' q3' hs hn (fun hk => by
                          rw [hv']
                          refine ⟨⟨hmine.1, by rw [hld]; exact hmine.2⟩, (news.take (m * te.size) ++ cur.toList.drop (m * te.size)).take (S.len d1 * te.size), ⟨?_, .inr ⟨b, cap', (news.take (m * te.size) ++ cur.toList.drop (m * te.size)).toArray, by rw [hvv, hld], Nat.zero_le _, hb', by omega, hcm, ?_, by rw [hld, hsd]⟩⟩, fun i j hi hj => ?_⟩
                          · rw [hld, hsd]
                            rw [List.length_take, List.length_append, hlt, List.length_drop]
                            omega
                          · rw [List.size_toArray, List.length_append, hlt, List.length_drop, hsd, c2, ← hcs, ← c2]
                            have := Array.length_toList (xs := cur)
                            omega
                          · rw [hsd] at hj ⊢
                            rw [hld] at hi
                            have hlt' := row_lt hi hj
                            rw [List.getElem?_take, if_pos hlt']
                            have hdt := hS.data d i j (by omega) (by omega)
                            by_cases him : i < m
                            · obtain ⟨u, hu, hru⟩ := hnr i j (by omega) (by omega)
                              have hlm := row_lt him hj
                              refine ⟨u, ?_, hdt, ?_⟩
                              · rw [List.getElem?_append_left (by omega), List.getElem?_take, if_pos hlm, c3]
                                exact hu
                              · have e1 : S.cell d i j = S.cell d2 i j := by rw [k4 i j (by omega), p3 i j (by omega), Nat.zero_add]
                                rw [e1]
                                exact hru.keep hk (More.refl _)
                            · obtain ⟨u, hu, _, hru⟩ := hcell i j hi (by omega)
                              have hge : m * te.size ≤ i * te.size := Nat.mul_le_mul_right _ (by omega)
                              refine ⟨u, ?_, hdt, ?_⟩
                              · rw [List.getElem?_append_right (by omega), hlt, List.getElem?_drop, show m * te.size + (i * te.size + j - m * te.size) = i * te.size + j by omega, hcurx _ hlt', c2]
                                exact hu
                              · have e1 : S.cell d i j = S.cell d1 i j := by
                                  have e2 := k5 (i - m) j (by omega)
                                  rw [show S.len dp + (i - m) = i by omega] at e2
                                  rw [e2, q3 (i - m) j (by omega), show m + (i - m) = i by omega]
                                rw [e1]
                                exact hru.keep hk (More.refl _))
                        exact wp_val hrun' (hK _ _ _ (More.refl _) g2 (g1.weaken fun _ h => .inl h) rfl)
                    · cases hout
                  · cases hout
                · cases hout
              · cases hout
            · cases hout
    · cases hout
  · cases hout
end
end Go.Vc
