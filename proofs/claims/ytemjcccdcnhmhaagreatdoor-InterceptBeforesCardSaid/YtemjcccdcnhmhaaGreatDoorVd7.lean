/-
  Own engine, part 7: struct and slice literals, len, min, max.
-/
import Derived.Test.YtemjcccdcnhmhaaGreatDoorVd6
namespace Go.Vc
open Go.RowKit
set_option linter.unusedVariables false

section
variable {D : Type} {P : Program} {S : Sh D} {T : TypeId → Option Ty} {Γ : FuncId → Option (Ct D)} {M N : Nat → Prop} {w w' : World} {w0 : Bs} {g : Nat → Option Value} {blk : Nat → Option (Bk D)} {al : Nat → Prop}
  {a : Act} {o : Oper} {K : Act → World → Prop} {Q : Exit → Act → World → Prop} {slot : Nat → Sl D} {out : Out D} {fr : Nat}

theorem foldl_put : ∀ (us : List Value) (off k : Nat) (cs : Array Value), off + k + us.length ≤ cs.size →
    ((us.zipIdx k).foldl (fun (cs : Array Value) (p : Value × Nat) => cs.setIfInBounds (off + p.2) p.1) cs).toList = cs.toList.take (off + k) ++ (us ++ cs.toList.drop (off + k + us.length))
  | [], off, k, cs, _ => by simp
  | u :: us, off, k, cs, h => by
    simp only [List.length_cons] at h
    have hlt : off + k < cs.toList.length := by simp; omega
    rw [List.zipIdx_cons, List.foldl_cons, foldl_put us off (k + 1) _ (by simp; omega)]
    simp only [Array.toList_setIfInBounds]
    have e1 : (cs.toList.set (off + k) u).take (off + (k + 1)) = cs.toList.take (off + k) ++ [u] := by
      rw [show off + (k + 1) = (off + k) + 1 by omega, List.take_succ_eq_append_getElem (by simpa using hlt), List.take_set, List.set_eq_of_length_le (by simp; omega)]
      simp
    have e2 : (cs.toList.set (off + k) u).drop (off + (k + 1) + us.length) = cs.toList.drop (off + k + (u :: us).length) := by
      rw [List.drop_set_of_lt (by omega)]
      congr 1
      simp; omega
    rw [e1, e2]
    simp

theorem fill_put {v : Value} {off : Nat} {cs : Array Value} (h : off + v.cells.size ≤ cs.size) :
    (v.cells.zipIdx.foldl (fun (cs : Array Value) (p : Value × Nat) => cs.setIfInBounds (off + p.2) p.1) cs).toList = cs.toList.take off ++ (v.cells.toList ++ cs.toList.drop (off + v.cells.toList.length)) := by
  rw [← Array.foldl_toList, Array.toList_zipIdx]
  simpa using foldl_put v.cells.toList off 0 cs (by simpa using h)

theorem fill_in {ty : Ty} {place : Nat → Option (Nat × Nat)} (href : ∀ l u, g l = some u → isRef u = true) (hs : ∀ t, (slot t).Rel S M w g (a.tmps.getD t undef))
    (hpl : ∀ f off sz ag, ty.offs[f]? = some (off, sz, ag) → place f = some (off, sz)) :
    ∀ (parts : List (Nat × Operand)) (cs cs' : List (Lf D)) (vs : Array Value), LfsRel S M w g cs vs.toList → fillIn ty slot parts cs = some cs' →
      ∃ vs', Instr.fill place vs (parts.map fun p => (p.1, a.eval p.2)) = some vs' ∧ LfsRel S M w g cs' vs'.toList
  | [], cs, cs', vs, h, hf => ⟨vs, rfl, by injection hf with hf; subst hf; exact h⟩
  | (f, x) :: r, cs, cs', vs, h, hf => by
    unfold fillIn at hf
    split at hf
    · rename_i off sz ag u ho hu
      split at hf
      · rename_i hc
        simp only [Bool.and_eq_true] at hc
        obtain ⟨⟨h1, h2⟩, h3⟩ := hc
        have h2 := Nat.eq_of_beq_eq_true h2
        have h3 := Nat.le_of_ble_eq_true h3
        have hx := opnd_rel hs x
        rw [hu] at hx
        have hc := whole_cells href h1 hx
        have hl := hc.length
        have hvl := h.length
        have hsz : (a.eval x).cells.size = sz := by rw [← h2, hl]; simp
        have hfit : off + (a.eval x).cells.size ≤ vs.size := by
          have : vs.toList.length = vs.size := by simp
          omega
        obtain ⟨vs', hv', hr'⟩ := fill_in href hs hpl r _ cs' _ (by rw [fill_put hfit]; exact h.putAt hc off) hf
        refine ⟨vs', ?_, hr'⟩
        simp only [List.map_cons, Instr.fill, hpl f off sz ag ho]
        rw [if_neg (by simp [hsz]; omega)]
        exact hv'
      · cases hf
    · cases hf

theorem run_mapM_places : ∀ (fs : List Field), (∀ f ∈ fs, cellsIn P f.type ≠ 0) →
    (fs.mapM fun f => (do pure (f.offset, ← sizeOf f.type) : Sem (Nat × Nat))).run P w = .ok (fs.map fun f => (f.offset, cellsIn P f.type)) w
  | [], _ => rfl
  | f :: fs, h => by
    have hf := size_of_cells (P := P) rfl (h f (by simp)) w
    have ih := run_mapM_places fs fun x hx => h x (by simp [hx])
    simp only [List.mapM_cons, Sem.run_bind, hf, Result.andThen_ok, Sem.run_pure, ih, List.map_cons]

theorem sound_build {t : TypeId} {parts : Array (Nat × Operand)} (ho : o.op = .build t parts) (hTy : ∀ t ty, T t = some ty → TyOk P t ty) (h : Hp S w0 N blk g al w)
    (hs : ∀ t, (slot t).Rel S (Mset N blk g) w g (a.tmps.getD t undef)) (hout : xBuild T slot t parts = some out) (hK : Post S w0 N blk g al w fr out o.dst a K) : o.wp P a w K Q := by
  unfold xBuild at hout
  split at hout
  · rename_i ty hty
    have hT := hTy _ _ hty
    split at hout
    · rename_i hc
      simp only [Bool.and_eq_true] at hc
      split at hout
      · rename_i cs hf
        injection hout with hout
        subst hout
        obtain ⟨z, hz, hzc⟩ := ty_zero hT w
        obtain ⟨i, d, z', lt, hi, hd, hz', rfl⟩ := ty_parts hT
        cases d with
        | struct fs =>
          have hall : ∀ f ∈ fs.toList, cellsIn P f.type ≠ 0 := by
            intro f hm
            have := hc.2
            simp only [offsOf, List.all_map, List.all_eq_true, Function.comp, Bool.not_eq_true'] at this
            intro e
            have := this f hm
            rw [e] at this
            simp at this
          obtain ⟨vs', hv', hr'⟩ := fill_in (a := a) (place := fun f => ((fs.toList.map fun f => (f.offset, cellsIn P f.type)).toArray)[f]?) h.refs hs (fun f off sz ag ho => by
            simp only [offsOf, List.getElem?_map, Option.map_eq_some_iff, Prod.mk.injEq] at ho
            obtain ⟨fd, h1, rfl, rfl, _⟩ := ho
            simp at h1
            simp [h1]) parts.toList _ cs z.cells (by rw [hzc]; exact ofLfs_rel _) hf
          refine wp_same (v := .agg vs') ?_ h hK rfl ⟨vs'.toList, by simp, hr'⟩
          have hm := run_mapM_places (P := P) (w := w) fs.toList hall
          have hmap : parts.toList.map (fun p => (p.1, a.eval p.2)) = (parts.map fun (i, x) => (i, a.eval x)).toList := by simp
          rw [hmap] at hv'
          simp only [execOp, ho, Instr.build, Sem.run_bind, hz, Result.andThen_ok, run_underlying hd]
          rw [Array.mapM_eq_mapM_toList]
          simp only [Sem.run_map, hm, Result.andThen_ok, Sem.run_pure]
          simp at hv'
          simp [hv']
        | _ => simp [kindOf] at hc
      · cases hout
    · cases hout
  · cases hout

theorem fill_row {sz : Nat} (href : ∀ l u, g l = some u → isRef u = true) (hs : ∀ t, (slot t).Rel S M w g (a.tmps.getD t undef)) :
    ∀ (parts : List (Nat × Operand)) (cs cs' : List (Lf D)) (vs : Array Value), LfsRel S M w g cs vs.toList → fillRow sz slot parts cs = some cs' →
      ∃ vs', Instr.fill (fun i => some (i * sz, sz)) vs (parts.map fun p => (p.1, a.eval p.2)) = some vs' ∧ LfsRel S M w g cs' vs'.toList
  | [], cs, cs', vs, h, hf => ⟨vs, rfl, by injection hf with hf; subst hf; exact h⟩
  | (f, x) :: r, cs, cs', vs, h, hf => by
    unfold fillRow at hf
    split at hf
    · rename_i u hu
      split at hf
      · rename_i hc
        simp only [Bool.and_eq_true] at hc
        obtain ⟨⟨h1, h2⟩, h3⟩ := hc
        have h2 := Nat.eq_of_beq_eq_true h2
        have h3 := Nat.le_of_ble_eq_true h3
        have hx := opnd_rel hs x
        rw [hu] at hx
        have hc := whole_cells href h1 hx
        have hl := hc.length
        have hvl := h.length
        have hsz : (a.eval x).cells.size = sz := by rw [← h2, hl]; simp
        have hfit : f * sz + (a.eval x).cells.size ≤ vs.size := by
          have : vs.toList.length = vs.size := by simp
          omega
        obtain ⟨vs', hv', hr'⟩ := fill_row href hs r _ cs' _ (by rw [fill_put hfit]; exact h.putAt hc (f * sz)) hf
        refine ⟨vs', ?_, hr'⟩
        simp only [List.map_cons, Instr.fill]
        rw [if_neg (by simp [hsz]; omega)]
        exact hv'
      · cases hf
    · cases hf

theorem data_plain {x : Lf D} {u : Value} (hd : x.isData = true) (h : x.Rel S M w g u) (hs : ∀ b, b < w.heap.size → ¬ M b → w'.heap[b]? = w.heap[b]?) : Lf.plain x u ∧ ∀ d', x = .dat d' → DRel S w' d' u := by
  cases x <;> first | (simp [Lf.isData] at hd; done) | exact ⟨h, fun d' e => by cases e⟩ | exact ⟨trivial, fun d' e => by cases e; exact h w' hs⟩

theorem datOk_row {d : D} {b n : Nat} {e : TypeId} {vs : Array Value} {cs : List (Lf D)} (hS : ShOk S) (hm : S.make e n cs = some d) (hb : w.heap[b]? = some (.cells vs e (0, 0))) (hnM : ¬ M b) (hr : LfsRel S M w g cs vs.toList) (hn : n ≤ 9223372036854775807) :
    DatOk S M w d (.slice (some ⟨b, 0, none⟩) n n) := by
  intro w' hs
  obtain ⟨h1, h2, h3⟩ := hS.make e n cs d hm
  have hb' := (hs b (heap_lt hb) hnM).trans hb
  have key : ∀ i j, i < n → j < S.size d → ∃ u, vs.toList[i * S.size d + j]? = some u ∧ Lf.plain (S.cell d i j) u ∧ ∀ d', S.cell d i j = .dat d' → DRel S w' d' u := by
    intro i j hi hj
    obtain ⟨x, hc, hle⟩ := h3 i j hi hj
    obtain ⟨u, hu, hru⟩ := hr.get _ hc
    exact ⟨u, hu, data_plain (hS.data d i j (by omega) hj) (hle.rel hru) hs⟩
  have := DRel.mk (S := S) (w := w') d (some ⟨b, 0, none⟩) n (fun i j => (vs.toList[i * S.size d + j]?).getD undef) (by omega) (by omega)
    (fun i j hi hj => by
      obtain ⟨u, hu, _⟩ := key i j (by omega) hj
      refine ⟨_, rfl, ?_⟩
      simp only [hu, Option.getD_some]
      rw [add_none, Nat.zero_add]
      simp [World.cell?, hb', ← hu])
    (fun i j hi hj => by
      obtain ⟨u, hu, hp, _⟩ := key i j (by omega) hj
      simpa [hu] using hp)
    (fun i j d' hi hj he => by
      obtain ⟨u, hu, _, hd⟩ := key i j (by omega) hj
      simpa [hu] using hd d' he)
  rwa [h1] at this

theorem sound_row {t : TypeId} {n : Nat} {parts : Array (Nat × Operand)} (hS : ShOk S) (ho : o.op = .buildSlice t n parts) (hTy : ∀ t ty, T t = some ty → TyOk P t ty) (h : Hp S w0 N blk g al w)
    (hs : ∀ t, (slot t).Rel S (Mset N blk g) w g (a.tmps.getD t undef)) (hfr : ∀ n, fr ≤ n → n < fr + 64 → ¬ al n) (hout : xRow T S slot fr t n parts = some out) (hK : Post S w0 N blk g al w fr out o.dst a K) : o.wp P a w K Q := by
  unfold xRow at hout
  split at hout
  · cases hout
  · rename_i ty hty
    split at hout
    · cases hout
    · rename_i e hel
      split at hout
      · cases hout
      · rename_i te hte
        have hsl := ty_elem (hTy _ _ hty) hel
        have hsz := ty_size (hTy _ _ hte) w
        obtain ⟨z, hz, hzc⟩ := ty_zero (hTy _ _ hte) w
        split at hout
        · rename_i hc
          simp only [Bool.and_eq_true] at hc
          obtain ⟨⟨h1, h2⟩, h3⟩ := hc
          have h1 := Nat.le_of_ble_eq_true h1
          have h2 : 0 < te.size := by simpa [Nat.blt_eq] using h2
          have h3 := Nat.eq_of_beq_eq_true h3
          have hzs : z.cells.size = te.size := by rw [← h3, ← hzc]; simp
          split at hout
          · rename_i cs hf
            split at hout
            · rename_i d hm
              let zs : Array Value := (Array.range (n * te.size)).map fun k => z.cells[k % z.cells.size]!
              have hzr : LfsRel S (Mset N blk g) w g ((List.range (n * te.size)).map fun k => (ofLf ((te.zero[k % te.size]?).getD (.bool false)) : Lf D)) zs.toList := by
                have : zs.toList = (List.range (n * te.size)).map fun k => (te.zero[k % te.size]?).getD (.bool false) := by
                  simp only [zs, Array.toList_map, Array.toList_range]
                  apply List.map_congr_left
                  intro k _
                  have hk : k % te.size < z.cells.size := by rw [hzs]; exact Nat.mod_lt _ h2
                  rw [hzs, ← hzc]
                  simp [hk]
                rw [this]
                have hz := ofLfs_rel (S := S) (M := Mset N blk g) (w := w) (g := g) (D := D) ((List.range (n * te.size)).map fun k => (te.zero[k % te.size]?).getD (.bool false))
                rw [List.map_map] at hz
                exact hz
              obtain ⟨vs', hv', hr'⟩ := fill_row (a := a) h.refs hs parts.toList _ cs zs hzr hf
              have hB : Below w.heap.size w (w.alloc (.cells vs' e)) := (Below.refl w.heap.size w).alloc (Nat.le_refl _) _
              obtain ⟨hp', hk'⟩ := h.grow hB
              have hrun : (execOp a.eval o).run P w = .ok (.value (.slice (some ⟨w.heap.size, 0, none⟩) n n)) (w.alloc (.cells vs' e)) := by
                have hmap : parts.toList.map (fun p => (p.1, a.eval p.2)) = (parts.map fun (i, x) => (i, a.eval x)).toList := by simp
                rw [hmap] at hv'
                simp only [execOp, ho, Instr.buildSlice, Sem.run_bind, run_underlying hsl, Result.andThen_ok, hsz]
                rw [if_neg (by omega)]
                by_cases hn : n * te.size = 0
                · simp only [hn, if_true, Sem.run_bind, Sem.run_pure, Result.andThen_ok]
                  have e0 : zs = #[] := by simp [zs, hn]
                  rw [e0] at hv'
                  simp at hv'
                  simp [hv', newRow, newObj, Sem.run, show Array.range 0 = #[] from rfl]
                · simp only [hn, if_false, Sem.run_bind, Sem.run_pure, Result.andThen_ok, hz]
                  simp only [zs] at hv'
                  simp at hv'
                  simp [hv', newRow, newObj, Sem.run]
              split at hout
              · injection hout with hout
                subst hout
                obtain ⟨q1, q2, q3⟩ := hS.make _ _ _ _ hm
                have hvl : vs'.toList.length = n * S.size d := by rw [← q2, List.length_map]; exact hr'.length.symm
                obtain ⟨g1, g2, g3⟩ := h.add (l := fr) (bk := .row e d) (v := .slice (some ⟨w.heap.size, 0, none⟩) n n) hB (hfr fr (Nat.le_refl _) (by omega)) (fun b hb => by simp [blkOf] at hb; omega)
                  (fun M' hk _ => by
                    refine ⟨⟨fun b hb => .inl ?_, by rw [q1]; have : n * 1 ≤ n * te.size := Nat.mul_le_mul_left n h2; omega⟩, vs'.toList, ⟨by rw [q1]; exact hvl, .inr ⟨w.heap.size, n, vs', by rw [q1], Nat.zero_le _, heap_alloc_new w _, by omega, ?_, by simpa using hvl, ?_⟩⟩, fun i j hi hj => ?_⟩
                    · simp only [blkOf, Option.some.injEq] at hb
                      have := h.below.size
                      omega
                    · have : n * 1 ≤ n * te.size := Nat.mul_le_mul_left n h2
                      simp only [maxLen]
                      omega
                    · rw [q1, ← hvl]; exact List.take_length
                    · rw [q1] at hi
                      obtain ⟨x, hc, hle⟩ := q3 i j hi hj
                      obtain ⟨u, hu, hru⟩ := hr'.norm.get _ hc
                      refine ⟨u, hu, hS.data d i j (by omega) hj, (hle.rel hru).keep hk (fun l v hl => ?_)⟩
                      rw [upd_other _ _ _ _ (by rintro rfl; exact hfr _ (Nat.le_refl _) (by omega) (h.al _ _ hl))]
                      exact hl)
                exact wp_val hrun (hK _ _ _ g3 g2 (g1.weaken fun n hn => hn.elim .inl fun e => .inr ⟨Nat.le_of_eq e.symm, by omega⟩) (upd_same _ _ _))
              injection hout with hout
              subst hout
              refine wp_val hrun (hK _ _ _ (More.refl _) hk' (hp'.weaken fun _ h => .inl h) ?_)
              exact datOk_row hS hm (heap_alloc_new w _) (fun hmm => by have := h.mlt hmm; omega) (hr'.norm.keep hk' (More.refl _)) (by have : n * 1 ≤ n * te.size := Nat.mul_le_mul_left n h2; omega)
            · cases hout
          · cases hout
        · cases hout

theorem sound_len {c : Call} {x : Operand} (ho : o.op = .call c) (hc : c.callee = .builtin .len) (hx' : c.args.toList = [x]) (hTy : ∀ t ty, T t = some ty → TyOk P t ty) (h : Hp S w0 N blk g al w)
    (hx : (opnd slot x).Rel S (Mset N blk g) w g (a.eval x)) (hout : xLen S T blk c.argTypes (opnd slot x) = some out) (hK : Post S w0 N blk g al w fr out o.dst a K) : o.wp P a w K Q := by
  have hargs : c.args = #[x] := by rw [← Array.toList_inj]; exact hx'
  unfold xLen at hout
  split at hout
  · cases hout
  · rename_i t ht
    split at hout
    · cases hout
    · rename_i ty hty
      obtain ⟨d', hd, hkd⟩ := ty_kind (hTy _ _ hty)
      split at hout
      · rename_i d he
        rw [he] at hx
        obtain ⟨av, cap, hv, _⟩ := DatOk.slice hx
        split at hout
        · rename_i hk
          have hk : ty.kind = 4 := by simpa using hk
          rw [hk] at hkd
          cases d' <;> simp [kindOf] at hkd
          injection hout with hout
          subst hout
          refine wp_same (v := .int .i64 (S.len d)) ?_ h hK rfl rfl
          simp [execOp, ho, resolve, hc, invoke, builtin, Builtin.len_, hargs, ht, run_underlying hd, hv, goInt]
        · cases hout
      · rename_i s he
        rw [he] at hx
        simp only [Sl.Rel, Sv.Rel, Lf.Rel] at hx
        split at hout
        · rename_i hk
          have hk : ty.kind = 3 := by simpa using hk
          rw [hk] at hkd
          cases d' <;> simp [kindOf] at hkd
          injection hout with hout
          subst hout
          refine wp_same (v := .int .i64 s.length) ?_ h hK rfl rfl
          have hbs : (ByteArray.mk s.toArray).size = s.length := by show s.toArray.size = _; simp
          simp [execOp, ho, resolve, hc, invoke, builtin, Builtin.len_, hargs, ht, run_underlying hd, hx, goInt, hbs]
        · cases hout
      · rename_i l he
        rw [he] at hx
        simp only [Sl.Rel, Sv.Rel, Lf.Rel] at hx
        split at hout
        · rename_i e d hb
          split at hout
          · rename_i hk
            have hk : ty.kind = 4 := by simpa using hk
            rw [hk] at hkd
            cases d' <;> simp [kindOf] at hkd
            injection hout with hout
            subst hout
            obtain ⟨v, hv, _, xs, ⟨_, hown⟩, _⟩ := h.bks l _ hb
            rw [hx] at hv
            injection hv with hv
            have hsl : ∃ av cap, a.eval x = .slice av (S.len d) cap := by
              rcases hown with ⟨h0, hz⟩ | ⟨b, cap, cur, hv', _⟩
              · exact ⟨none, 0, by rw [hv, h0, hz]⟩
              · exact ⟨_, cap, hv.trans hv'⟩
            obtain ⟨av, cap, hv'⟩ := hsl
            refine wp_same (v := .int .i64 (S.len d)) ?_ h hK rfl rfl
            simp [execOp, ho, resolve, hc, invoke, builtin, Builtin.len_, hargs, ht, run_underlying hd, hv', goInt]
          · cases hout
        · rename_i d hb
          split at hout
          · rename_i hk
            have hk : ty.kind = 4 := by simpa using hk
            rw [hk] at hkd
            cases d' <;> simp [kindOf] at hkd
            injection hout with hout
            subst hout
            obtain ⟨v, hv, hdat⟩ := h.bks l _ hb
            rw [hx] at hv
            injection hv with hv
            obtain ⟨av, cap, hv', _⟩ := DatOk.slice (show DatOk S (Mset N blk g) w d v from hdat)
            rw [hv'] at hv
            refine wp_same (v := .int .i64 (S.len d)) ?_ h hK rfl rfl
            simp [execOp, ho, resolve, hc, invoke, builtin, Builtin.len_, hargs, ht, run_underlying hd, hv, goInt]
          · cases hout
        · cases hout
      · rename_i he
        rw [he] at hx
        simp only [Sl.Rel, Sv.Rel, Lf.Rel] at hx
        split at hout
        · rename_i hk
          have hk : ty.kind = 4 := by simpa using hk
          rw [hk] at hkd
          cases d' <;> simp [kindOf] at hkd
          injection hout with hout
          subst hout
          refine wp_same (v := .int .i64 0) ?_ h hK rfl rfl
          simp [execOp, ho, resolve, hc, invoke, builtin, Builtin.len_, hargs, ht, run_underlying hd, hx, goInt]
        · cases hout
      · cases hout

theorem sound_min {c : Call} {x y : Operand} {b : Builtin} (hb : b = .min ∨ b = .max) (ho : o.op = .call c) (hc : c.callee = .builtin b) (hx' : c.args.toList = [x, y]) (h : Hp S w0 N blk g al w)
    (hx : (opnd slot x).Rel S (Mset N blk g) w g (a.eval x)) (hy : (opnd slot y).Rel S (Mset N blk g) w g (a.eval y)) (hout : xMin b (opnd slot x) (opnd slot y) = some out) (hK : Post S w0 N blk g al w fr out o.dst a K) : o.wp P a w K Q := by
  have hargs : c.args = #[x, y] := by rw [← Array.toList_inj]; exact hx'
  unfold xMin at hout
  split at hout
  · rename_i k n k' m hex hey
    rw [hex] at hx
    rw [hey] at hy
    simp only [Sl.Rel, Sv.Rel, Lf.Rel] at hx hy
    injection hout with hout
    subst hout
    refine wp_same (v := .int k (min n m)) ?_ h hK rfl rfl
    have : (if m < n then m else n) = min n m := by split <;> omega
    simp [execOp, ho, resolve, hc, invoke, builtin, Builtin.min_, Builtin.min2, hargs, hx, hy, this]
  · rename_i k n k' m hex hey
    rw [hex] at hx
    rw [hey] at hy
    simp only [Sl.Rel, Sv.Rel, Lf.Rel] at hx hy
    injection hout with hout
    subst hout
    refine wp_same (v := .int k (max n m)) ?_ h hK rfl rfl
    have : (if n < m then m else n) = max n m := by split <;> omega
    simp [execOp, ho, resolve, hc, invoke, builtin, Builtin.max_, Builtin.max2, hargs, hx, hy, this]
  · cases hout
end
end Go.Vc
