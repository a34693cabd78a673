/-
  Own engine, part 5: the operations one by one.
-/
import Derived.Test.YtemjcccdcnhmhaaGreatDoorVd4
namespace Go.Vc
open Go.RowKit
set_option linter.unusedVariables false

section
variable {D : Type} {P : Program} {S : Sh D} {T : TypeId → Option Ty} {M N : Nat → Prop} {w w' : World} {w0 : Bs} {g : Nat → Option Value} {blk : Nat → Option (Bk D)} {al : Nat → Prop}
  {a : Act} {o : Oper} {K : Act → World → Prop} {Q : Exit → Act → World → Prop} {slot : Nat → Sl D} {out : Out D} {fr : Nat}

theorem storable_one {x : Lf D} {v : Value} (href : ∀ l u, g l = some u → isRef u = true) (hs : x.storable = true) (h : x.Rel S M w g v) : one' v = true := by
  cases x with
  | any => simp [Lf.storable] at hs
  | val u => simp only [Lf.Rel] at h; subst h; cases v <;> first | rfl | simp [Lf.storable] at hs
  | bool b => simp only [Lf.Rel] at h; subst h; rfl
  | int k n => simp only [Lf.Rel] at h; subst h; rfl
  | str s => obtain ⟨rfl, _⟩ := h; rfl
  | ptr l o => obtain ⟨b, _, rfl⟩ := h; rfl
  | dat d => obtain ⟨a, cap, rfl, _⟩ := DatOk.slice h; rfl
  | elt d i j => obtain ⟨a, n, cap, _, _, rfl⟩ := h; rfl
  | fn f caps => obtain ⟨vs, rfl, _⟩ := h; rfl
  | own l => have := href l v h; cases v <;> first | rfl | simp [isRef] at this
  | opt l i j sz => obtain ⟨b, n, cap, _, rfl⟩ := h; rfl
  | unk p => obtain ⟨b, rfl, _⟩ := h; rfl
  | part l i j sz f => obtain ⟨a, n, cap, _, rfl, _⟩ := h; rfl
  | glb i => simp only [Lf.Rel] at h; subst h; rfl
  | ifc x => obtain ⟨rfl, _⟩ := h; cases x <;> rfl

theorem whole_cells {u : Sv D} {v : Value} (href : ∀ l u, g l = some u → isRef u = true) (hw : u.whole = true) (h : u.Rel S M w g v) : LfsRel S M w g u.cells v.cells.toList := by
  cases u with
  | lf x =>
    have h1 := storable_one href hw h
    have : v.cells = #[v] := by cases v <;> first | rfl | simp [one'] at h1
    rw [this]
    exact ⟨h, trivial⟩
  | agg xs => obtain ⟨vs, rfl, hr⟩ := h; simpa [Sv.cells, Value.cells] using hr

theorem all_one (href : ∀ l u, g l = some u → isRef u = true) : ∀ {xs : List (Lf D)} {vs : List Value}, xs.all Lf.storable = true → LfsRel S M w g xs vs → vs.all one' = true
  | [], [], _, _ => rfl
  | x :: xs, v :: vs, hs, h => by
    simp only [List.all_cons, Bool.and_eq_true] at hs ⊢
    exact ⟨storable_one href hs.1 h.1, all_one href hs.2 h.2⟩

theorem whole_of_all {u : Sv D} (h : u.cells.all Lf.storable = true) : u.whole = true := by
  cases u with
  | lf x => simpa [Sv.cells, Sv.whole] using h
  | agg xs => rfl

theorem LfsRel.append : ∀ {xs ys : List (Lf D)} {vs us : List Value}, LfsRel S M w g xs vs → LfsRel S M w g ys us → LfsRel S M w g (xs ++ ys) (vs ++ us)
  | [], _, [], _, _, h => h
  | _ :: _, _, _ :: _, _, h, h' => ⟨h.1, LfsRel.append h.2 h'⟩
theorem LfsRel.take : ∀ (n : Nat) {xs : List (Lf D)} {vs : List Value}, LfsRel S M w g xs vs → LfsRel S M w g (xs.take n) (vs.take n)
  | 0, _, _, _ => by simp [LfsRel]
  | _ + 1, [], [], _ => by simp [LfsRel]
  | n + 1, _ :: _, _ :: _, h => ⟨h.1, LfsRel.take n h.2⟩
theorem LfsRel.drop : ∀ (n : Nat) {xs : List (Lf D)} {vs : List Value}, LfsRel S M w g xs vs → LfsRel S M w g (xs.drop n) (vs.drop n)
  | 0, _, _, h => by simpa using h
  | _ + 1, [], [], _ => by simp [LfsRel]
  | n + 1, _ :: _, _ :: _, h => by simpa using LfsRel.drop n h.2
theorem LfsRel.putAt {xs us : List (Lf D)} {vs ws : List Value} (h : LfsRel S M w g xs vs) (h' : LfsRel S M w g us ws) (o : Nat) : LfsRel S M w g (putAt xs o us) (vs.take o ++ (ws ++ vs.drop (o + ws.length))) := by
  unfold Vc.putAt
  rw [h'.length]
  exact (h.take o).append (h'.append (h.drop _))

theorem blk_cells (h : Hp S w0 N blk g al w) {l : Nat} {cs : List (Lf D)} (hl : blk l = some (.cells cs)) {b : Nat} (hg : g l = some (.pointer (some ⟨b, 0, none⟩))) :
    ∃ vs t, w.heap[b]? = some (.cells (List.toArray vs) t (0, 0)) ∧ LfsRel S (Mset N blk g) w g cs vs := by
  obtain ⟨v, hv, b', vs, t, rfl, _, hh, hr⟩ := h.bks l _ hl
  rw [hg] at hv
  injection hv with hv
  injection hv with hv
  injection hv with hv
  injection hv with hv
  subst hv
  exact ⟨vs, t, hh, hr⟩

theorem sound_new {e : TypeId} {cs : List (Lf D)} {vs : Array Value} (h : Hp S w0 N blk g al w) (hfr : ∀ n, fr ≤ n → n < fr + 64 → ¬ al n) (hr : (execOp a.eval o).run P w = .ok (.value (.pointer (some ⟨w.heap.size, 0, none⟩))) (w.alloc (.cells vs e)))
    (hc : LfsRel S (Mset N blk g) w g cs vs.toList) (hK : Post S w0 N blk g al w fr ⟨none, .one (.lf (.ptr fr 0)), [(fr, some (.cells cs))]⟩ o.dst a K) : o.wp P a w K Q := by
  obtain ⟨h1, h2, h3⟩ := h.add (l := fr) (bk := .cells cs) (v := .pointer (some ⟨w.heap.size, 0, none⟩)) ((Below.refl w.heap.size w).alloc (Nat.le_refl _) (.cells vs e)) (hfr fr (Nat.le_refl _) (by omega)) (fun b hb => by simp [blkOf] at hb; omega)
    (fun M' hk _ => ⟨w.heap.size, vs.toList, e, rfl, .inl h.below.size, heap_alloc_new w _, hc.keep hk (fun l v hl => by rw [upd_other _ _ _ _ (by rintro rfl; exact hfr _ (Nat.le_refl _) (by omega) (h.al _ _ hl))]; exact hl)⟩)
  exact wp_val hr (hK _ _ _ h3 h2 (h1.weaken fun n hn => hn.elim .inl fun e => .inr ⟨Nat.le_of_eq e.symm, by omega⟩) ⟨w.heap.size, upd_same _ _ _, rfl⟩)

theorem sound_alloc {t : TypeId} {ty : Ty} (ho : o.op = .alloc t) (hT : TyOk P t ty) (h : Hp S w0 N blk g al w) (hfr : ∀ n, fr ≤ n → n < fr + 64 → ¬ al n)
    (hK : Post S w0 N blk g al w fr ⟨none, .one (.lf (.ptr fr 0)), [(fr, some (.cells (ty.zero.map ofLf)))]⟩ o.dst a K) : o.wp P a w K Q := by
  obtain ⟨z, hz, hzc⟩ := ty_zero hT w
  refine sound_new (vs := z.cells) (e := t) h hfr ?_ (by rw [hzc]; exact ofLfs_rel _) hK
  simp [execOp, ho, Instr.alloc, hz, newVar, newRow, newObj, Sem.run]

theorem sound_box {t : TypeId} {x : Operand} {u : Sv D} (ho : o.op = .box t x) (h : Hp S w0 N blk g al w) (hfr : ∀ n, fr ≤ n → n < fr + 64 → ¬ al n) (hu : u.Rel S (Mset N blk g) w g (a.eval x)) (hw : u.whole = true)
    (hK : Post S w0 N blk g al w fr ⟨none, .one (.lf (.ptr fr 0)), [(fr, some (.cells u.cells))]⟩ o.dst a K) : o.wp P a w K Q := by
  refine sound_new (vs := (a.eval x).cells) (e := t) h hfr ?_ (whole_cells h.refs hw hu) hK
  simp [execOp, ho, Instr.box, newVar, newRow, newObj, Sem.run]

theorem cellRun_rel {d : D} {ad : Addr} {n cap i : Nat} (h : DatOk S M w d (.slice (some ad) n cap)) (hi : i < S.len d) : ∀ (m j : Nat), j + m ≤ S.size d →
    ∃ vs : List Value, vs.length = m ∧ LfsRel S M w g (cellRun S d i j m) vs ∧ ∀ k u, vs[k]? = some u → w.cell? (ad.add (i * S.size d + (j + k))) = some u
  | 0, j, _ => ⟨[], rfl, trivial, fun k u hk => by simp at hk⟩
  | m + 1, j, hj => by
    obtain ⟨u, hu, hr⟩ := h.cell (g := g) hi (show j < S.size d by omega)
    obtain ⟨vs, hl, hrs, hc⟩ := cellRun_rel h hi m (j + 1) (by omega)
    refine ⟨u :: vs, by simp [hl], ⟨hr, hrs⟩, fun k x hk => ?_⟩
    cases k with
    | zero => simp at hk; subst hk; exact hu
    | succ k =>
      have := hc k x (by simpa using hk)
      rwa [show j + 1 + k = j + (k + 1) by omega] at this

theorem row_lt {i j n m : Nat} (hi : i < n) (hj : j < m) : i * m + j < n * m := by
  have : (i + 1) * m ≤ n * m := Nat.mul_le_mul_right m hi
  rw [Nat.succ_mul] at this
  omega

/-- A cell of a row of the call's own. -/
theorem row_cell (h : Hp S w0 N blk g al w) {l i j b n cap : Nat} {e : TypeId} {d : D} (hl : blk l = some (.row e d)) (hg : g l = some (.slice (some ⟨b, 0, none⟩) n cap)) (hi : i < S.len d) (hj : j < S.size d) :
    ∃ u, w.cell? ⟨b, i * S.size d + j, none⟩ = some u ∧ (S.cell d i j).Rel S (Mset N blk g) w g u := by
  obtain ⟨v, hv, _, xs, ⟨hxl, hown⟩, hc⟩ := h.bks l _ hl
  rw [hg] at hv
  injection hv with hv
  subst hv
  obtain ⟨u, hu, _, hr⟩ := hc i j hi hj
  refine ⟨u, ?_, hr⟩
  rcases hown with ⟨h0, _⟩ | ⟨b', cap', cur, hv', _, hh, _, _, _, htake⟩
  · cases h0
  · injection hv' with h1 h2 h3
    injection h1 with h1
    injection h1 with h1
    subst h1
    have : w.cell? ⟨b, i * S.size d + j, none⟩ = cur[i * S.size d + j]? := by simp [World.cell?, hh]
    rw [this, ← hu, ← htake, List.getElem?_take, if_pos (row_lt hi hj)]
    simp

theorem rowRun_rel (h : Hp S w0 N blk g al w) {l i b n cap : Nat} {e : TypeId} {d : D} (hl : blk l = some (.row e d)) (hg : g l = some (.slice (some ⟨b, 0, none⟩) n cap)) (hi : i < S.len d) : ∀ (m j : Nat), j + m ≤ S.size d →
    ∃ vs : List Value, vs.length = m ∧ LfsRel S (Mset N blk g) w g (cellRun S d i j m) vs ∧ ∀ k u, vs[k]? = some u → w.cell? ⟨b, i * S.size d + (j + k), none⟩ = some u
  | 0, j, _ => ⟨[], rfl, trivial, fun k u hk => by simp at hk⟩
  | m + 1, j, hj => by
    obtain ⟨u, hu, hr⟩ := row_cell h hl hg hi (show j < S.size d by omega)
    obtain ⟨vs, hl', hrs, hc⟩ := rowRun_rel h hl hg hi m (j + 1) (by omega)
    refine ⟨u :: vs, by simp [hl'], ⟨hr, hrs⟩, fun k x hk => ?_⟩
    cases k with
    | zero => simp at hk; subst hk; exact hu
    | succ k =>
      have := hc k x (by simpa using hk)
      rwa [show j + 1 + k = j + (k + 1) by omega] at this

theorem sound_load {t : TypeId} {x : Operand} {ty : Ty} (ho : o.op = .load t x) (hT : TyOk P t ty) (hTT : T t = some ty) (h : Hp S w0 N blk g al w) (hx : (opnd slot x).Rel S (Mset N blk g) w g (a.eval x))
    (hout : xLoad T S blk t (opnd slot x) = some out) (hp : preP out.pre) (hK : Post S w0 N blk g al w fr out o.dst a K) : o.wp P a w K Q := by
  have hagg := ty_isAgg hT w
  have hsz := ty_size hT w
  simp only [xLoad, hTT] at hout
  split at hout
  · -- a block of the call's own
    rename_i l off he
    rw [he] at hx
    obtain ⟨b, hg, hv⟩ := hx
    split at hout
    · rename_i cs hb
      obtain ⟨vs, t', hh, hr⟩ := blk_cells h hb hg
      split at hout
      · rename_i hag
        split at hout
        · rename_i hle
          injection hout with hout
          subst hout
          have hle' : off + ty.size ≤ vs.length := by rw [← hr.length]; exact Nat.le_of_ble_eq_true hle
          have hrun := run_loadCells (P := P) (w := w) ⟨b, off, none⟩ ((vs.drop off).take ty.size) 0 #[] (fun k u hk => by
            rw [add_none, cell_of hh]
            simp only [List.getElem?_take, List.getElem?_drop] at hk
            split at hk
            · rw [show off + (0 + k) = off + k by omega]; exact hk
            · cases hk)
          rw [show ((vs.drop off).take ty.size).length = ty.size by simp; omega] at hrun
          refine wp_same (v := .agg ((vs.drop off).take ty.size).toArray) ?_ h hK rfl ⟨_, rfl, (hr.drop off).take _⟩
          simp [execOp, ho, Instr.loadAt, Instr.sureAddr, hv, loadVar, hagg, hag, hsz, loadCells, hrun]
        · cases hout
      · rename_i hag
        split at hout
        · rename_i y hy
          injection hout with hout
          subst hout
          obtain ⟨v, hv', hrel⟩ := hr.get off hy
          refine wp_same (v := v) ?_ h hK rfl hrel
          simp [execOp, ho, Instr.loadAt, Instr.sureAddr, hv, loadVar, hagg, hag, load, Sem.run, cell_of hh, hv']
        · cases hout
    · cases hout
  · -- an element of a datum
    rename_i d i j he
    rw [he] at hx
    obtain ⟨ad, n, cap, hd, hi, hv⟩ := hx
    split at hout
    · rename_i hag
      split at hout
      · rename_i hle
        injection hout with hout
        subst hout
        obtain ⟨vs, hl, hr, hc⟩ := cellRun_rel (g := g) hd hi ty.size j (Nat.le_of_ble_eq_true hle)
        have hrun := run_loadCells (P := P) (w := w) (ad.add (i * S.size d + j)) vs 0 #[] (fun k u hk => by
          rw [add_add', show i * S.size d + j + (0 + k) = i * S.size d + (j + k) by omega]; exact hc k u hk)
        rw [hl] at hrun
        refine wp_same (v := .agg vs.toArray) ?_ h hK rfl ⟨_, rfl, hr⟩
        simp [execOp, ho, Instr.loadAt, Instr.sureAddr, hv, loadVar, hagg, hag, hsz, loadCells, hrun]
      · cases hout
    · rename_i hag
      split at hout
      · rename_i hlt
        injection hout with hout
        subst hout
        obtain ⟨u, hu, hr⟩ := hd.cell (g := g) hi (by simpa [Nat.blt_eq] using hlt)
        refine wp_same (v := u) ?_ h hK rfl hr
        simp [execOp, ho, Instr.loadAt, Instr.sureAddr, hv, loadVar, hagg, hag, load, Sem.run, hu]
      · cases hout
  · -- an element of a row of the call's own
    rename_i l i j sz he
    rw [he] at hx
    obtain ⟨b, n, cap, hg, hv⟩ := hx
    split at hout
    · rename_i e d hb
      split at hout
      · rename_i hag
        split at hout
        · rename_i hle
          injection hout with hout
          subst hout
          simp only [Bool.and_eq_true] at hle
          have hsz' : sz = S.size d := Nat.eq_of_beq_eq_true hle.2
          subst hsz'
          obtain ⟨vs, hl, hr, hc⟩ := rowRun_rel h hb hg hp ty.size j (Nat.le_of_ble_eq_true hle.1)
          have hrun := run_loadCells (P := P) (w := w) ⟨b, i * S.size d + j, none⟩ vs 0 #[] (fun k u hk => by
            rw [add_none, show i * S.size d + j + (0 + k) = i * S.size d + (j + k) by omega]; exact hc k u hk)
          rw [hl] at hrun
          refine wp_same (v := .agg vs.toArray) ?_ h hK rfl ⟨_, rfl, hr⟩
          simp [execOp, ho, Instr.loadAt, Instr.sureAddr, hv, loadVar, hagg, hag, hsz, loadCells, hrun]
        · cases hout
      · rename_i hag
        split at hout
        · rename_i hlt
          injection hout with hout
          subst hout
          simp only [Bool.and_eq_true] at hlt
          have hsz' : sz = S.size d := Nat.eq_of_beq_eq_true hlt.2
          subst hsz'
          obtain ⟨u, hu, hr⟩ := row_cell h hb hg hp (by simpa [Nat.blt_eq] using hlt.1)
          refine wp_same (v := u) ?_ h hK rfl hr
          simp [execOp, ho, Instr.loadAt, Instr.sureAddr, hv, loadVar, hagg, hag, load, Sem.run, hu]
        · cases hout
    · cases hout
  · cases hout

theorem xLoad_run {t : TypeId} {x : Sl D} {v : Value} {ty : Ty} (hT : TyOk P t ty) (hTT : T t = some ty) (h : Hp S w0 N blk g al w) (hx : x.Rel S (Mset N blk g) w g v)
    (hout : xLoad T S blk t x = some out) (hp : preP out.pre) : ∃ ad u, v = .pointer (some ad) ∧ (loadVar t ad).run P w = .ok u w ∧ out.val.Rel S (Mset N blk g) w g u := by
  have hagg := ty_isAgg hT w
  have hsz := ty_size hT w
  simp only [xLoad, hTT] at hout
  split at hout
  · -- a block of the call's own
    rename_i l off
    obtain ⟨b, hg, hv⟩ := hx
    split at hout
    · rename_i cs hb
      obtain ⟨vs, t', hh, hr⟩ := blk_cells h hb hg
      split at hout
      · rename_i hag
        split at hout
        · rename_i hle
          injection hout with hout
          subst hout
          have hle' : off + ty.size ≤ vs.length := by rw [← hr.length]; exact Nat.le_of_ble_eq_true hle
          have hrun := run_loadCells (P := P) (w := w) ⟨b, off, none⟩ ((vs.drop off).take ty.size) 0 #[] (fun k u hk => by
            rw [add_none, cell_of hh]
            simp only [List.getElem?_take, List.getElem?_drop] at hk
            split at hk
            · rw [show off + (0 + k) = off + k by omega]; exact hk
            · cases hk)
          rw [show ((vs.drop off).take ty.size).length = ty.size by simp; omega] at hrun
          exact ⟨_, .agg ((vs.drop off).take ty.size).toArray, hv, by simp [loadVar, hagg, hag, hsz, loadCells, hrun], ⟨_, rfl, (hr.drop off).take _⟩⟩
        · cases hout
      · rename_i hag
        split at hout
        · rename_i y hy
          injection hout with hout
          subst hout
          obtain ⟨v, hv', hrel⟩ := hr.get off hy
          exact ⟨_, v, hv, by simp [loadVar, hagg, hag, load, Sem.run, cell_of hh, hv'], hrel⟩
        · cases hout
    · cases hout
  · -- an element of a datum
    rename_i d i j
    obtain ⟨ad, n, cap, hd, hi, hv⟩ := hx
    split at hout
    · rename_i hag
      split at hout
      · rename_i hle
        injection hout with hout
        subst hout
        obtain ⟨vs, hl, hr, hc⟩ := cellRun_rel (g := g) hd hi ty.size j (Nat.le_of_ble_eq_true hle)
        have hrun := run_loadCells (P := P) (w := w) (ad.add (i * S.size d + j)) vs 0 #[] (fun k u hk => by
          rw [add_add', show i * S.size d + j + (0 + k) = i * S.size d + (j + k) by omega]; exact hc k u hk)
        rw [hl] at hrun
        exact ⟨_, .agg vs.toArray, hv, by simp [loadVar, hagg, hag, hsz, loadCells, hrun], ⟨_, rfl, hr⟩⟩
      · cases hout
    · rename_i hag
      split at hout
      · rename_i hlt
        injection hout with hout
        subst hout
        obtain ⟨u, hu, hr⟩ := hd.cell (g := g) hi (by simpa [Nat.blt_eq] using hlt)
        exact ⟨_, u, hv, by simp [loadVar, hagg, hag, load, Sem.run, hu], hr⟩
      · cases hout
  · -- an element of a row of the call's own
    rename_i l i j sz
    obtain ⟨b, n, cap, hg, hv⟩ := hx
    split at hout
    · rename_i e d hb
      split at hout
      · rename_i hag
        split at hout
        · rename_i hle
          injection hout with hout
          subst hout
          simp only [Bool.and_eq_true] at hle
          have hsz' : sz = S.size d := Nat.eq_of_beq_eq_true hle.2
          subst hsz'
          obtain ⟨vs, hl, hr, hc⟩ := rowRun_rel h hb hg hp ty.size j (Nat.le_of_ble_eq_true hle.1)
          have hrun := run_loadCells (P := P) (w := w) ⟨b, i * S.size d + j, none⟩ vs 0 #[] (fun k u hk => by
            rw [add_none, show i * S.size d + j + (0 + k) = i * S.size d + (j + k) by omega]; exact hc k u hk)
          rw [hl] at hrun
          exact ⟨_, .agg vs.toArray, hv, by simp [loadVar, hagg, hag, hsz, loadCells, hrun], ⟨_, rfl, hr⟩⟩
        · cases hout
      · rename_i hag
        split at hout
        · rename_i hlt
          injection hout with hout
          subst hout
          simp only [Bool.and_eq_true] at hlt
          have hsz' : sz = S.size d := Nat.eq_of_beq_eq_true hlt.2
          subst hsz'
          obtain ⟨u, hu, hr⟩ := row_cell h hb hg hp (by simpa [Nat.blt_eq] using hlt.1)
          exact ⟨_, u, hv, by simp [loadVar, hagg, hag, load, Sem.run, hu], hr⟩
        · cases hout
    · cases hout
  · cases hout
end
end Go.Vc
