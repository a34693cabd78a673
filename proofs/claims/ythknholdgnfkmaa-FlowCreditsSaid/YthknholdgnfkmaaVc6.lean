/-
  Own engine, part 6: the operations one by one, continued.
-/
import Derived.Test.YthknholdgnfkmaaVc5
namespace Go.Vc
open Go.RowKit
set_option linter.unusedVariables false

section
variable {D : Type} {P : Program} {S : Sh D} {T : TypeId → Option Ty} {M N : Nat → Prop} {w w' w0 : World} {g : Nat → Option Value} {blk : Nat → Option (Bk D)} {al : Nat → Prop}
  {a : Act} {o : Oper} {K : Act → World → Prop} {Q : Exit → Act → World → Prop} {slot : Nat → Sl D} {out : Out D} {fr : Nat}

theorem sound_store {t : TypeId} {x y : Operand} {ty : Ty} (ho : o.op = .store t x y) (hT : tyOf P t = some ty) (hTT : T t = some ty) (h : Hp S w0 N blk g al w) (hx : (opnd slot x).Rel S (Mset N blk g) w g (a.eval x))
    (hy : (opnd slot y).Rel S (Mset N blk g) w g (a.eval y)) (hout : xStore T blk t (opnd slot x) (opnd slot y) = some out) (hK : Post S w0 N blk g al w fr out o.dst a K) : o.wp P a w K Q := by
  have hsz := ty_size hT w
  unfold xStore at hout
  split at hout
  · rename_i ty' l off u hty hex hey
    rw [hTT] at hty
    injection hty with hty
    subst hty
    rw [hex] at hx
    rw [hey] at hy
    obtain ⟨b, hg, hv⟩ := hx
    split at hout
    · rename_i cs hb
      split at hout
      · rename_i hc
        injection hout with hout
        subst hout
        simp only [Bool.and_eq_true] at hc
        obtain ⟨⟨h1, h2⟩, h3⟩ := hc
        have h1 := Nat.eq_of_beq_eq_true h1
        have h2 := Nat.le_of_ble_eq_true h2
        obtain ⟨vs, t', hh, hr⟩ := blk_cells h hb hg
        have hu := whole_cells h.refs (whole_of_all h3) hy
        have hlen := hu.length
        obtain ⟨w', hrun, hb', hn, hs, q1, q2, q3⟩ := run_storeCells (P := P) b t' (a.eval y).cells.toList w vs off 0 hh (by rw [← hr.length]; omega) (all_one h.refs h3 hu)
        have hrun' : (execOp a.eval o).run P w = .ok .skip w' := by
          have hsz2 : (a.eval y).cells.size = ty.size := by rw [← h1, hlen]; simp
          simp [execOp, ho, Instr.storeAt, Instr.sureAddr, hv, storeVar, hsz, hsz2, hrun]
        obtain ⟨hp', hk'⟩ := h.write (bk' := .cells (putAt cs off u.cells)) hb hg rfl q1 q2 q3 hs hn (fun hk => by
          refine ⟨b, _, t', rfl, (BkOk.lt (h.bks l _ hb).choose_spec.2 (by rw [Option.some.inj ((h.bks l _ hb).choose_spec.1.symm.trans hg)]; rfl)).2, hb', ?_⟩
          simpa using (hr.putAt hu (off + 0)).keep hk (More.refl _))
        exact wp_unit hrun' (hK _ _ _ (More.refl _) hk' (hp'.weaken fun _ h => .inl h) trivial)
      · cases hout
    · cases hout
  · cases hout

theorem sound_field {t : TypeId} {x : Operand} {f : Nat} {ty : Ty} (ho : o.op = .fieldAddr t x f) (hT : tyOf P t = some ty) (hTT : T t = some ty) (h : Hp S w0 N blk g al w) (hx : (opnd slot x).Rel S (Mset N blk g) w g (a.eval x))
    (hout : xField T t (opnd slot x) f = some out) (hK : Post S w0 N blk g al w fr out o.dst a K) : o.wp P a w K Q := by
  simp only [xField, hTT] at hout
  split at hout
  · rename_i off sz _ l ofs hof he
    rw [he] at hx
    obtain ⟨b, hg, hv⟩ := hx
    obtain ⟨fs, fd, hs, hf, hfo, hfs, _⟩ := ty_field hT hof
    split at hout
    · cases hout
    · rename_i hne
      have hne : sz ≠ 0 := fun e => hne (by simp [e])
      injection hout with hout
      subst hout
      refine wp_same (v := .pointer (some ⟨b, ofs + off, none⟩)) ?_ h hK rfl ⟨b, hg, rfl⟩
      simp [execOp, ho, Instr.fieldAt, run_underlying hs, hf, hv, Instr.sureAddr, fieldPlace, size_of_cells hfs hne, hne, hfo, add_none]
  · rename_i off sz _ d i j hof he
    rw [he] at hx
    obtain ⟨ad, n, cap, hd, hi, hv⟩ := hx
    obtain ⟨fs, fd, hs, hf, hfo, hfs, _⟩ := ty_field hT hof
    split at hout
    · cases hout
    · rename_i hne
      have hne : sz ≠ 0 := fun e => hne (by simp [e])
      injection hout with hout
      subst hout
      refine wp_same (v := .pointer (some (ad.add (i * S.size d + (j + off))))) ?_ h hK rfl ⟨ad, n, cap, hd, hi, rfl⟩
      simp [execOp, ho, Instr.fieldAt, run_underlying hs, hf, hv, Instr.sureAddr, fieldPlace, size_of_cells hfs hne, hne, hfo, add_add', Nat.add_assoc]
  · rename_i off sz _ l i j z hof he
    rw [he] at hx
    obtain ⟨b, n, cap, hg, hv⟩ := hx
    obtain ⟨fs, fd, hs, hf, hfo, hfs, _⟩ := ty_field hT hof
    split at hout
    · cases hout
    · rename_i hne
      have hne : sz ≠ 0 := fun e => hne (by simp [e])
      injection hout with hout
      subst hout
      refine wp_same (v := .pointer (some ⟨b, i * z + (j + off), none⟩)) ?_ h hK rfl ⟨b, n, cap, hg, rfl⟩
      simp [execOp, ho, Instr.fieldAt, run_underlying hs, hf, hv, Instr.sureAddr, fieldPlace, size_of_cells hfs hne, hne, hfo, add_none, Nat.add_assoc]
  · cases hout

theorem sound_part {t : TypeId} {x : Operand} {f : Nat} {ty : Ty} (ho : o.op = .field t x f) (hT : tyOf P t = some ty) (hTT : T t = some ty) (h : Hp S w0 N blk g al w) (hx : (opnd slot x).Rel S (Mset N blk g) w g (a.eval x))
    (hout : xPart T t (opnd slot x) f = some out) (hK : Post S w0 N blk g al w fr out o.dst a K) : o.wp P a w K Q := by
  simp only [xPart, hTT] at hout
  split at hout
  · rename_i off sz ag cs hof he
    rw [he] at hx
    obtain ⟨vs, hv, hr⟩ := hx
    obtain ⟨fs, fd, hs, hf, hfo, hfs, hfa⟩ := ty_field hT hof
    split at hout
    · cases hout
    · rename_i hne
      have hne : sz ≠ 0 := fun e => hne (by simp [e])
      have hia := fun w => isAgg_of hfs hne w
      rw [hfa] at hia
      split at hout
      · rename_i hag
        split at hout
        · rename_i hle
          injection hout with hout
          subst hout
          refine wp_same (v := .agg ((vs.drop off).take sz).toArray) ?_ h hK rfl ⟨_, rfl, (hr.drop off).take _⟩
          simp [execOp, ho, Instr.field, run_underlying hs, hf, hv, asAgg, part, hia, hag, size_of_cells hfs hne, hfo]
        · cases hout
      · rename_i hag
        split at hout
        · rename_i y hy
          injection hout with hout
          subst hout
          obtain ⟨v, hv', hrel⟩ := hr.get off hy
          refine wp_same (v := v) ?_ h hK rfl hrel
          simp [execOp, ho, Instr.field, run_underlying hs, hf, hv, asAgg, part, hia, hag, hfo, hv']
        · cases hout
  · cases hout

theorem sound_extract {x : Operand} {i : Nat} (ho : o.op = .extract x i) (h : Hp S w0 N blk g al w) (hx : (opnd slot x).Rel S (Mset N blk g) w g (a.eval x))
    (hout : xExtract (opnd slot x) i = some out) (hK : Post S w0 N blk g al w fr out o.dst a K) : o.wp P a w K Q := by
  unfold xExtract at hout
  split at hout
  · rename_i xs he
    rw [he] at hx
    obtain ⟨vs, hv, hr⟩ := hx
    split at hout
    · rename_i y hy
      injection hout with hout
      subst hout
      obtain ⟨v, hv', hrel⟩ := hr.get i hy
      refine wp_same (v := v) ?_ h hK rfl hrel
      simp [execOp, ho, Instr.extract, hv, hv']
    · cases hout
  · cases hout

theorem sound_index {t : TypeId} {x ix : Operand} (ho : o.op = .indexAddr t x ix) (hTy : ∀ t ty, T t = some ty → tyOf P t = some ty) (h : Hp S w0 N blk g al w) (hx : (opnd slot x).Rel S (Mset N blk g) w g (a.eval x))
    (hi : (opnd slot ix).Rel S (Mset N blk g) w g (a.eval ix)) (hout : xIndex T S blk t (opnd slot x) (opnd slot ix) = some out) (hp : preP out.pre) (hK : Post S w0 N blk g al w fr out o.dst a K) : o.wp P a w K Q := by
  unfold xIndex at hout
  split at hout
  · cases hout
  · rename_i ty hty
    split at hout
    · cases hout
    · rename_i e hel
      split at hout
      · cases hout
      · rename_i te hte
        have hsl := ty_elem (hTy _ _ hty) hel
        have hsz := ty_size (hTy _ _ hte) w
        split at hout
        · rename_i d k n hex hei
          rw [hex] at hx
          rw [hei] at hi
          split at hout
          · rename_i hc
            simp only [Bool.and_eq_true] at hc
            have h1 := Nat.eq_of_beq_eq_true hc.1
            have h2 : 0 < te.size := by simpa [Nat.blt_eq] using hc.2
            injection hout with hout
            subst hout
            obtain ⟨hp0, hp1⟩ := hp
            simp only [Sl.Rel, Sv.Rel, Lf.Rel] at hi
            obtain ⟨av, cap, hv, hcap⟩ := DatOk.slice hx
            have hlt : n.toNat < S.len d := by omega
            rw [hv] at hx
            obtain ⟨ad, rfl⟩ := DatOk.some_addr hx hlt (by omega)
            refine wp_same (v := .pointer (some (ad.add (n.toNat * S.size d + 0)))) ?_ h hK rfl ⟨ad, _, cap, hx, hlt, rfl⟩
            simp [execOp, ho, Instr.indexAt, hi, asIntOf, run_underlying hsl, hv, hp0, hp1, hsz, h1]
          · cases hout
        · rename_i l k n hex hei
          rw [hex] at hx
          rw [hei] at hi
          split at hout
          · rename_i e' d hb
            split at hout
            · rename_i hc
              simp only [Bool.and_eq_true] at hc
              have h1 := Nat.eq_of_beq_eq_true hc.1
              have h2 : 0 < te.size := by simpa [Nat.blt_eq] using hc.2
              injection hout with hout
              subst hout
              obtain ⟨hp0, hp1⟩ := hp
              simp only [Sl.Rel, Sv.Rel, Lf.Rel] at hi hx
              obtain ⟨v, hv, xs, ⟨hxl, hown⟩, _⟩ := h.bks l _ hb
              rw [hx] at hv
              injection hv with hv
              rcases hown with ⟨h0, hz⟩ | ⟨b, cap, cur, hv', _⟩
              · omega
              · rw [hv'] at hv
                refine wp_same (v := .pointer (some ⟨b, n.toNat * te.size + 0, none⟩)) ?_ h hK rfl ⟨b, _, cap, hx.trans (by rw [hv]), rfl⟩
                simp [execOp, ho, Instr.indexAt, hi, asIntOf, run_underlying hsl, hv, hp0, hp1, hsz, add_none]
            · cases hout
          · cases hout
        · cases hout

theorem eqGuard_plain {op : BinOp} {t : TypeId} {x y : Operand} {u v : Value} (hu : one' u = true) (hn : u ≠ .nilIface) : (eqGuard op t x y u v).run P w = .ok () w := by
  cases u <;> first | (simp [one'] at hu; done) | (simp at hn; done) | (cases op <;> rfl)

theorem sound_bin {op : BinOp} {t yt : TypeId} {x y : Operand} (ho : o.op = .binOp op t x y yt) (hTy : ∀ t ty, T t = some ty → tyOf P t = some ty) (h : Hp S w0 N blk g al w) (hx : (opnd slot x).Rel S (Mset N blk g) w g (a.eval x))
    (hy : (opnd slot y).Rel S (Mset N blk g) w g (a.eval y)) (hout : xBin T op t (opnd slot x) (opnd slot y) = some out) (hp : preP out.pre) (hK : Post S w0 N blk g al w fr out o.dst a K) : o.wp P a w K Q := by
  unfold xBin at hout
  split at hout
  · rename_i k n k' m hex hey
    rw [hex] at hx
    rw [hey] at hy
    simp only [Sl.Rel, Sv.Rel, Lf.Rel] at hx hy
    split at hout
    · rename_i hk
      have hk : k = k' := by simpa [kEq] using hk
      subst hk
      have hgd := fun w => eqGuard_plain (P := P) (w := w) (op := op) (t := t) (x := x) (y := y) (u := .int k n) (v := .int k m) rfl (by simp)
      unfold xInt at hout
      split at hout <;> first
        | (injection hout with hout; subst hout
           refine wp_same (v := _) ?_ h hK rfl rfl
           first
             | (simp [execOp, ho, hx, hy, hgd, binOp, Op.intArith, wrap_in hp]; done)
             | (simp [execOp, ho, hx, hy, hgd, binOp, Op.intCmp]; done))
        | cases hout
    · cases hout
  · rename_i s u hex hey
    rw [hex] at hx
    rw [hey] at hy
    simp only [Sl.Rel, Sv.Rel, Lf.Rel] at hx hy
    have hgd := fun w => eqGuard_plain (P := P) (w := w) (op := op) (t := t) (x := x) (y := y) (u := .string ⟨s.toArray⟩) (v := .string ⟨u.toArray⟩) rfl (by simp)
    unfold xStr at hout
    split at hout <;> first
      | (injection hout with hout; subst hout
         refine wp_same (v := _) ?_ h hK rfl rfl
         simp [execOp, ho, hx, hy, hgd, binOp, Op.stringOp, bne]; done)
      | cases hout
  · split at hout
    · rename_i s u hbx hby
      have hx := bOf_rel hbx hx
      have hy := bOf_rel hby hy
      have hgd := fun w => eqGuard_plain (P := P) (w := w) (op := op) (t := t) (x := x) (y := y) (u := .bool s) (v := .bool u) rfl (by simp)
      split at hout
      · rename_i ty hty
        split at hout
        · rename_i hk
          obtain ⟨d, hd, hkd⟩ := ty_kind (hTy _ _ hty)
          have hk : ty.kind = 1 := by simpa using hk
          rw [hk] at hkd
          have hd : P.underlying t = some .bool := by cases d <;> simp_all [kindOf]
          have heq : ∀ n, (Op.equalIn (n + 1) t (.bool s) (.bool u)).run P w = .ok (s == u) w := fun n => by simp [Op.equalIn, run_underlying hd]
          have heq' : (Op.equal t (.bool s) (.bool u)).run P w = .ok (s == u) w := heq 9999
          split at hout <;> first
            | (injection hout with hout; subst hout
               refine wp_same (v := _) ?_ h hK rfl rfl
               simp [execOp, ho, hx, hy, hgd, binOp, heq', bne]; done)
            | cases hout
        · cases hout
      · cases hout
    · cases hout

theorem sound_un {op : UnOp} {t : TypeId} {x : Operand} (ho : o.op = .unOp op t x) (h : Hp S w0 N blk g al w) (hx : (opnd slot x).Rel S (Mset N blk g) w g (a.eval x))
    (hout : xUn op (opnd slot x) = some out) (hp : preP out.pre) (hK : Post S w0 N blk g al w fr out o.dst a K) : o.wp P a w K Q := by
  unfold xUn at hout
  split at hout
  · rename_i b he
    rw [he] at hx
    simp only [Sl.Rel, Sv.Rel, Lf.Rel] at hx
    injection hout with hout; subst hout
    refine wp_same (v := _) ?_ h hK rfl rfl
    simp [execOp, ho, hx, Op.unary]
  · rename_i b he
    rw [he] at hx
    simp only [Sl.Rel, Sv.Rel, Lf.Rel] at hx
    injection hout with hout; subst hout
    refine wp_same (v := _) ?_ h hK rfl rfl
    simp [execOp, ho, hx, Op.unary]
  · rename_i k n he
    rw [he] at hx
    simp only [Sl.Rel, Sv.Rel, Lf.Rel] at hx
    injection hout with hout; subst hout
    refine wp_same (v := _) ?_ h hK rfl rfl
    simp [execOp, ho, hx, Op.unary, Op.intArith, wrap_in hp]
  · cases hout

theorem sound_pick {c x y : Operand} (ho : o.op = .pick c x y) (h : Hp S w0 N blk g al w) (hc : (opnd slot c).Rel S (Mset N blk g) w g (a.eval c)) (hx : (opnd slot x).Rel S (Mset N blk g) w g (a.eval x))
    (hy : (opnd slot y).Rel S (Mset N blk g) w g (a.eval y)) (hout : xPick slot c x y = some out) (hK : Post S w0 N blk g al w fr out o.dst a K) : o.wp P a w K Q := by
  unfold xPick at hout
  split at hout
  · rename_i he
    rw [he] at hc
    simp only [Sl.Rel, Sv.Rel, Lf.Rel] at hc
    injection hout with hout; subst hout
    exact wp_same (v := a.eval x) (by simp [execOp, ho, hc, asBool]) h hK rfl hx
  · rename_i he
    rw [he] at hc
    simp only [Sl.Rel, Sv.Rel, Lf.Rel] at hc
    injection hout with hout; subst hout
    exact wp_same (v := a.eval y) (by simp [execOp, ho, hc, asBool]) h hK rfl hy
  · rename_i t he
    rw [he] at hc
    simp only [Sl.Rel, Sv.Rel, Lf.Rel] at hc
    split at hout
    · rename_i p q hp hq
      have hx := bOf_rel hp hx
      have hy := bOf_rel hq hy
      injection hout with hout; subst hout
      cases t
      · exact wp_same (v := a.eval y) (by simp [execOp, ho, hc, asBool]) h hK rfl hy
      · exact wp_same (v := a.eval x) (by simp [execOp, ho, hc, asBool]) h hK rfl hx
    · cases hout
  · cases hout
end
end Go.Vc
