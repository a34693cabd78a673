/-
  Own engine, part 4: each operation, as the model runs it, does what part 3 says.
-/
import Derived.Test.YtemjcccdcnhmhaaGreatDoorVd3
namespace Go.Vc
open Go.RowKit
set_option linter.unusedVariables false

def updL {α : Type} : (Nat → α) → List (Nat × α) → (Nat → α)
  | f, [] => f
  | f, (k, v) :: r => updL (upd f k v) r

/-- x is told as y. -/
def Lf.Le {D : Type} (S : Sh D) (x y : Lf D) : Prop := x = y ∨ (x = .val (.slice none 0 0) ∧ ∃ d, y = .dat d ∧ S.len d = 0) ∨ ∃ b, x = .val (.bool b) ∧ y = .bool b

structure ShOk {D : Type} (S : Sh D) : Prop where
  make : ∀ e n cs d, S.make e n cs = some d → S.len d = n ∧ cs.length = n * S.size d ∧
    ∀ i j, i < n → j < S.size d → ∃ x, cs[i * S.size d + j]? = some x ∧ x.Le S (S.cell d i j)
  data : ∀ d i j, i < S.len d → j < S.size d → (S.cell d i j).isData = true
  zero : ∀ e n zs d, S.zero e n zs = some d → S.len d = n ∧ zs.length = S.size d ∧ ∀ i j, i < n → j < S.size d → ∃ x, zs[j]? = some x ∧ x.Le S (S.cell d i j)
  set : ∀ d i j xs d', S.set d i j xs = some d' → i < S.len d → S.size d' = S.size d ∧ S.len d' = S.len d ∧
    ∀ i' j', i' < S.len d → j' < S.size d → (i' = i ∧ j ≤ j' ∧ j' < j + xs.length → ∃ x, xs[j' - j]? = some x ∧ x.Le S (S.cell d' i' j')) ∧ (¬ (i' = i ∧ j ≤ j' ∧ j' < j + xs.length) → S.cell d' i' j' = S.cell d i' j')
  cat : ∀ d1 d2 d, S.cat d1 d2 = some d → S.size d1 = S.size d ∧ S.size d2 = S.size d ∧ S.len d = S.len d1 + S.len d2 ∧
    (∀ i j, i < S.len d1 → S.cell d i j = S.cell d1 i j) ∧ ∀ i j, i < S.len d2 → S.cell d (S.len d1 + i) j = S.cell d2 i j
  sub : ∀ d i j d', S.sub d i j = some d' → i ≤ j → j ≤ S.len d → S.size d' = S.size d ∧ S.len d' = j - i ∧ ∀ k c, k < j - i → S.cell d' k c = S.cell d (i + k) c

def SlsRel {D : Type} (S : Sh D) (M : Nat → Prop) (w : World) (g : Nat → Option Value) : List (Sl D) → List Value → Prop
  | [], [] => True
  | x :: xs, v :: vs => x.Rel S M w g v ∧ SlsRel S M w g xs vs
  | _, _ => False

def noG : Nat → Option Value := fun _ => none

def tabOf {D : Type} (bks : List (Bk D)) : Nat → Option (Bk D) := fun i => bks[i]?

structure CtOk {D : Type} (P : Program) (S : Sh D) (f : FuncId) (ct : Ct D) : Prop where
  enters : ∀ (args : Array Value) (w : World), (callFunc f args).run P w = .ok (.enter f args) w
  calls : ∀ (X N : Nat → Prop) (g : Nat → Option Value) (w : World) (args : List Value) (sargs : List (Sl D)) (bks : List (Bk D)) (p : Option Prop) (r : Sl D) (post : List (Nat × Bk D)) (keep : List Nat),
    Hp S ⟨w, X⟩ N (tabOf bks) g (· < bks.length) w → SlsRel S (Mset N (tabOf bks) g) w g sargs args → ct sargs bks = some (p, r, post, keep) → preP p →
    Calls P f args.toArray w fun e w' => ∃ v g', e = .returned v ∧ More g g' ∧ Hp S ⟨w, X⟩ N (tabK post keep bks) g' (fun _ => True) w' ∧ r.Rel S (Mset N (tabK post keep bks) g') w' g' v

section
variable {D : Type} {P : Program} {S : Sh D} {T : TypeId → Option Ty} {M N : Nat → Prop} {w w' : World} {w0 : Bs} {g : Nat → Option Value} {blk : Nat → Option (Bk D)} {al : Nat → Prop}
  {a : Act} {o : Oper} {K : Act → World → Prop} {Q : Exit → Act → World → Prop} {slot : Nat → Sl D} {out : Out D} {fr : Nat}

/-- What may be assumed behind an operation. -/
def Post (S : Sh D) (w0 : Bs) (N : Nat → Prop) (blk : Nat → Option (Bk D)) (g : Nat → Option Value) (al : Nat → Prop) (w : World) (fr : Nat) (out : Out D) (d : Option Tmp) (a : Act) (K : Act → World → Prop) : Prop :=
  ∀ v w' g', More g g' → Keeps (Mset N blk g) w (Mset N (updL blk out.blks) g') w' → Hp S w0 N (updL blk out.blks) g' (fun n => al n ∨ (fr ≤ n ∧ n < fr + 64)) w' →
    out.val.Rel S (Mset N (updL blk out.blks) g') w' g' v → K (a.put d v) w'

theorem Hp.weaken {al' : Nat → Prop} (h : Hp S w0 N blk g al w) (ha : ∀ n, al n → al' n) : Hp S w0 N blk g al' w := ⟨h.below, h.hN, h.bks, h.sep, fun l v hl => ha l (h.al l v hl), h.refs, h.gl⟩

theorem wp_val {v : Value} (hr : (execOp a.eval o).run P w = .ok (.value v) w') (hk : K (a.put o.dst v) w') : o.wp P a w K Q := by
  simp only [Oper.wp, hr, Oper.upon_value]; exact hk
theorem wp_unit (hr : (execOp a.eval o).run P w = .ok .skip w') (hk : K (a.put o.dst undef) w') : o.wp P a w K Q := by
  simp only [Oper.wp, hr, Oper.upon_skip]; exact hk

theorem post_same {v : Value} (h : Hp S w0 N blk g al w) (hK : Post S w0 N blk g al w fr out o.dst a K) (hb : out.blks = []) (hr : out.val.Rel S (Mset N blk g) w g v) : K (a.put o.dst v) w := by
  refine hK v w g (More.refl _) ?_ ?_ ?_ <;> rw [hb]
  · exact Keeps.refl _ _
  · exact h.weaken fun _ h => .inl h
  · exact hr

theorem wp_same {v : Value} (hr : (execOp a.eval o).run P w = .ok (.value v) w) (h : Hp S w0 N blk g al w) (hK : Post S w0 N blk g al w fr out o.dst a K) (hb : out.blks = [])
    (hv : out.val.Rel S (Mset N blk g) w g v) : o.wp P a w K Q := wp_val hr (post_same h hK hb hv)

theorem ofLf_rel (v : Value) : (ofLf v : Lf D).Rel S M w g v := by
  cases v with
  | string s =>
    show (if s.data.size.ble 9223372036854775807 = true then Lf.str s.data.toList else Lf.val (Value.string s) : Lf D).Rel S M w g _
    split
    · rename_i h
      cases s
      exact ⟨by simp, by simpa using Nat.le_of_ble_eq_true h⟩
    · rfl
  | nilIface => exact ⟨rfl, trivial⟩
  | _ => rfl

theorem bOf_rel {x : Sl D} {v : Value} {b : Bool} (h : bOf x = some b) (hr : x.Rel S M w g v) : v = .bool b := by
  unfold bOf at h
  split at h
  · injection h with h; subst h; exact hr
  · injection h with h; subst h; exact hr
  · cases h

theorem Lf.Rel.norm {x : Lf D} {v : Value} (h : x.Rel S M w g v) : x.norm.Rel S M w g v := by
  unfold Lf.norm
  split
  · exact h
  · exact h
theorem LfsRel.norm : ∀ {xs : List (Lf D)} {vs : List Value}, LfsRel S M w g xs vs → LfsRel S M w g (xs.map Lf.norm) vs
  | [], [], _ => trivial
  | _ :: _, _ :: _, h => ⟨h.1.norm, LfsRel.norm h.2⟩
theorem Sv.Rel.norm {x : Sv D} {v : Value} (h : x.Rel S M w g v) : x.norm.Rel S M w g v := by
  cases x with
  | lf x => exact Lf.Rel.norm h
  | agg xs => obtain ⟨vs, h1, h2⟩ := h; exact ⟨vs, h1, h2.norm⟩
theorem SvsRel.norm : ∀ {xs : List (Sv D)} {vs : List Value}, SvsRel S M w g xs vs → SvsRel S M w g (xs.map Sv.norm) vs
  | [], [], _ => trivial
  | _ :: _, _ :: _, h => ⟨h.1.norm, SvsRel.norm h.2⟩
theorem Sl.Rel.norm {x : Sl D} {v : Value} (h : x.Rel S M w g v) : x.norm.Rel S M w g v := by
  cases x with
  | one x => exact Sv.Rel.norm h
  | tup xs => obtain ⟨vs, h1, h2⟩ := h; exact ⟨vs, h1, h2.norm⟩
theorem SlsRel.norm : ∀ {xs : List (Sl D)} {vs : List Value}, SlsRel S M w g xs vs → SlsRel S M w g (xs.map Sl.norm) vs
  | [], [], _ => trivial
  | _ :: _, _ :: _, h => ⟨h.1.norm, SlsRel.norm h.2⟩

theorem ofLfs_rel : ∀ (vs : List Value), LfsRel S M w g (vs.map (ofLf : Value → Lf D)) vs
  | [] => trivial
  | v :: vs => ⟨ofLf_rel v, ofLfs_rel vs⟩

theorem ofVal_rel (v : Value) : (ofVal v : Sl D).Rel S M w g v := by
  cases v with
  | agg cs => exact ⟨cs.toList, by simp, ofLfs_rel _⟩
  | string s => exact ofLf_rel (.string s)
  | nilIface => exact ⟨rfl, trivial⟩
  | _ => rfl

theorem opnd_rel (hs : ∀ t, (slot t).Rel S M w g (a.tmps.getD t undef)) (x : Operand) : (opnd slot x).Rel S M w g (a.eval x) := by
  cases x with
  | tmp t => exact hs t
  | const v => exact ofVal_rel v
  | global n => trivial
  | func f => exact ⟨[], rfl, rfl⟩

theorem opnds_rel (hs : ∀ t, (slot t).Rel S M w g (a.tmps.getD t undef)) : ∀ (xs : List Operand), SlsRel S M w g (xs.map (opnd slot)) (xs.map a.eval)
  | [] => trivial
  | x :: xs => ⟨opnd_rel hs x, opnds_rel hs xs⟩

/-! ### the types -/
theorem ty_parts {t : TypeId} {ty : Ty} (h : TyOk P t ty) : ∃ i d z lt, P.info? t = some i ∧ P.underlying t = some d ∧ i.zero = some z ∧
    ty = ⟨kindOf d, isAggB P t, i.size, i.bytes, z.cells.toList, offsOf P d, elemIn d, eqsOf P t d, lt, arrIn d, isAggV z⟩ := by
  unfold TyOk tyOf at h
  split at h
  · rename_i i d hi hd
    split at h
    · rename_i z hz
      injection h with h
      refine ⟨i, d, z, ty.lit, hi, hd, hz, ?_⟩
      cases ty
      simp only [Ty.mk.injEq] at h ⊢
      obtain ⟨h1, h2, h3, h4, h5, h6, h7, h8, _, h9, h10⟩ := h
      exact ⟨h1.symm, h2.symm, h3.symm, h4.symm, h5.symm, h6.symm, h7.symm, h8.symm, trivial, h9.symm, h10.symm⟩
    · cases h
  · cases h

theorem ty_isAgg {t : TypeId} {ty : Ty} (h : TyOk P t ty) (w : World) : (isAgg t).run P w = .ok ty.agg w := by
  obtain ⟨i, d, z, lt, hi, hd, hz, rfl⟩ := ty_parts h
  simp only [isAgg, Sem.run_bind, run_underlying hd, Result.andThen_ok, isAggB, hd]
  cases d <;> rfl

theorem ty_size {t : TypeId} {ty : Ty} (h : TyOk P t ty) (w : World) : (sizeOf t).run P w = .ok ty.size w := by
  obtain ⟨i, d, z, lt, hi, hd, hz, rfl⟩ := ty_parts h
  simp [sizeOf, typeInfo, hi]

theorem ty_zero {t : TypeId} {ty : Ty} (h : TyOk P t ty) (w : World) : ∃ z, (zeroValue t).run P w = .ok z w ∧ z.cells.toList = ty.zero := by
  obtain ⟨i, d, z, lt, hi, hd, hz, rfl⟩ := ty_parts h
  exact ⟨z, by simp [zeroValue, typeInfo, hi, hz], rfl⟩

theorem ty_elem {t e : TypeId} {ty : Ty} (h : TyOk P t ty) (he : ty.elem = some e) : P.underlying t = some (.slice e) := by
  obtain ⟨i, d, z, lt, hi, hd, hz, rfl⟩ := ty_parts h
  cases d <;> simp [elemIn] at he
  subst he
  exact hd

theorem ty_arr {t e : TypeId} {n : Nat} {ty : Ty} (h : TyOk P t ty) (he : ty.arr = some (e, n)) : P.underlying t = some (.array n e) := by
  obtain ⟨i, d, z, lt, hi, hd, hz, rfl⟩ := ty_parts h
  cases d <;> simp [arrIn] at he
  obtain ⟨rfl, rfl⟩ := he
  exact hd
theorem ty_zag {t : TypeId} {ty : Ty} (h : TyOk P t ty) (w : World) : ∃ z, (zeroValue t).run P w = .ok z w ∧ z.cells.toList = ty.zero ∧ isAggV z = ty.zag := by
  obtain ⟨i, d, z, lt, hi, hd, hz, rfl⟩ := ty_parts h
  exact ⟨z, by simp [zeroValue, typeInfo, hi, hz], rfl, rfl⟩

theorem ty_kind {t : TypeId} {ty : Ty} (h : TyOk P t ty) : ∃ d, P.underlying t = some d ∧ kindOf d = ty.kind := by
  obtain ⟨i, d, z, lt, hi, hd, hz, rfl⟩ := ty_parts h
  exact ⟨d, hd, rfl⟩

theorem ty_field {t : TypeId} {ty : Ty} {f off sz : Nat} {ag : Bool} (h : TyOk P t ty) (ho : ty.offs[f]? = some (off, sz, ag)) :
    ∃ fs fd, P.underlying t = some (.struct fs) ∧ fs[f]? = some fd ∧ fd.offset = off ∧ cellsIn P fd.type = sz ∧ isAggB P fd.type = ag := by
  obtain ⟨i, d, z, lt, hi, hd, hz, rfl⟩ := ty_parts h
  cases d with
  | struct fs =>
    simp only [offsOf, List.getElem?_map, Option.map_eq_some_iff, Prod.mk.injEq] at ho
    obtain ⟨fd, h1, h2, h3, h4⟩ := ho
    exact ⟨fs, fd, hd, by simpa using h1, h2, h3, h4⟩
  | _ => simp [offsOf] at ho

theorem size_of_cells {t : TypeId} {n : Nat} (h : cellsIn P t = n) (hn : n ≠ 0) (w : World) : (sizeOf t).run P w = .ok n w := by
  unfold cellsIn at h
  split at h
  · unfold Program.cellsOf at h
    cases hi : P.info? t with
    | none => rw [hi] at h; simp at h; exact absurd h.symm hn
    | some i => rw [hi] at h; simp at h; simp [sizeOf, typeInfo, hi, h]
  · exact absurd h.symm hn

theorem isAgg_of {t : TypeId} {n : Nat} (h : cellsIn P t = n) (hn : n ≠ 0) (w : World) : (isAgg t).run P w = .ok (isAggB P t) w := by
  unfold cellsIn at h
  split at h
  · rename_i hs
    obtain ⟨d, hd⟩ := Option.isSome_iff_exists.1 hs
    simp only [isAgg, Sem.run_bind, run_underlying hd, Result.andThen_ok, isAggB, hd]
    cases d <;> rfl
  · exact absurd h.symm hn

/-! ### cells read and written -/
theorem run_loadCells (ad : Addr) : ∀ (vs : List Value) (i : Nat) (acc : Array Value), (∀ k u, vs[k]? = some u → w.cell? (ad.add (i + k)) = some u) →
    (loadCellsFrom ad i vs.length acc).run P w = .ok (acc ++ vs.toArray) w
  | [], i, acc, _ => by simp [loadCellsFrom]
  | v :: vs, i, acc, h => by
    have h0 := h 0 v rfl
    simp only [Nat.add_zero] at h0
    have ih := run_loadCells ad vs (i + 1) (acc.push v) fun k u hk => by
      have := h (k + 1) u (by simpa using hk)
      rwa [show i + (k + 1) = i + 1 + k by omega] at this
    simp only [List.length_cons, loadCellsFrom, Sem.run_bind, load]
    simp only [Sem.run, h0, Result.andThen_ok]
    rw [ih]
    congr 1
    simp

theorem add_none (b o n : Nat) : (⟨b, o, none⟩ : Addr).add n = ⟨b, o + n, none⟩ := by
  unfold Addr.add
  split
  · subst_vars; rfl
  · rfl
theorem add_add' (ad : Addr) (i j : Nat) : (ad.add i).add j = ad.add (i + j) := by
  unfold Addr.add
  by_cases hi : i = 0 <;> by_cases hj : j = 0 <;> simp [hi, hj, Nat.add_assoc]

theorem cell_of {b : Nat} {vs : List Value} {t : TypeId} (h : w.heap[b]? = some (.cells vs.toArray t (0, 0))) (i : Nat) : w.cell? ⟨b, i, none⟩ = vs[i]? := by
  simp [World.cell?, h]

def one' : Value → Bool
  | .agg _ | .tuple _ => false
  | _ => true

theorem run_storeCells (b t : Nat) : ∀ (us : List Value) (w : World) (vs : List Value) (o i : Nat), w.heap[b]? = some (.cells vs.toArray t (0, 0)) → o + i + us.length ≤ vs.length → us.all one' = true →
    ∃ w', (storeCells ⟨b, o, none⟩ us i).run P w = .ok () w' ∧ w'.heap[b]? = some (.cells (vs.take (o + i) ++ (us ++ vs.drop (o + i + us.length))).toArray t (0, 0)) ∧
      (∀ n, n ≠ b → w'.heap[n]? = w.heap[n]?) ∧ w'.heap.size = w.heap.size ∧ w'.os = w.os ∧ w'.tape = w.tape ∧ w'.output = w.output
  | [], w, vs, o, i, h, _, _ => ⟨w, by simp [storeCells], by simpa using h, fun _ _ => rfl, rfl, rfl, rfl, rfl⟩
  | u :: us, w, vs, o, i, h, hl, h1 => by
    simp only [List.all_cons, Bool.and_eq_true] at h1
    simp only [List.length_cons] at hl
    have hi : o + i < vs.length := by omega
    have hc : w.cell? ⟨b, o + i, none⟩ = some vs[o + i] := by rw [cell_of h]; simp [hi]
    have hf : w.frozen? ⟨b, o + i, none⟩ = false := by simp [World.frozen?, h]
    have hset : (w.setCell ⟨b, o + i, none⟩ u).heap[b]? = some (.cells (vs.set (o + i) u).toArray t (0, 0)) := by
      simp [World.setCell, Array.getElem?_modify, h]
    obtain ⟨w', hr, hb, hn, hs, h2, h3, h4⟩ := run_storeCells b t us (w.setCell ⟨b, o + i, none⟩ u) (vs.set (o + i) u) o (i + 1) hset (by simp; omega) h1.2
    refine ⟨w', ?_, ?_, fun n hne => (hn n hne).trans ?_, hs.trans (by simp [World.setCell]), h2, h3, h4⟩
    · simp only [storeCells, Sem.run_bind, store, add_none]
      have hrun : (Sem.store Mode.plain ⟨b, o + i, none⟩ u (Sem.pure ())).run P w = .ok () (w.setCell ⟨b, o + i, none⟩ u) := by
        cases u <;> first | (simp [one'] at h1; done) | simp [Sem.run, hc, hf]
      rw [hrun, Result.andThen_ok]
      exact hr
    · rw [hb]
      congr 2
      have e1 : (vs.set (o + i) u).take (o + (i + 1)) = vs.take (o + i) ++ [u] := by
        rw [show o + (i + 1) = (o + i) + 1 by omega, List.take_succ_eq_append_getElem (by simpa using hi), List.take_set, List.set_eq_of_length_le (by simp; omega)]
        simp
      have e2 : (vs.set (o + i) u).drop (o + (i + 1) + us.length) = vs.drop (o + i + (u :: us).length) := by
        rw [List.drop_set_of_lt (by omega)]
        congr 1
        simp; omega
      rw [e1, e2]
      simp
    · simp only [World.setCell, Array.getElem?_modify]
      rw [if_neg fun e => hne e.symm]
end
end Go.Vc
