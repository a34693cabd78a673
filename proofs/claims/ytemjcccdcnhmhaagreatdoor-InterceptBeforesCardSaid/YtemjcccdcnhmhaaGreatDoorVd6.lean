/-
  Own engine, part 6: the operations one by one, continued.
-/
import Derived.Test.YtemjcccdcnhmhaaGreatDoorVd5
import Derived.WalkSpells
namespace Go.Vc
open Go.RowKit
set_option linter.unusedVariables false

section
variable {D : Type} {P : Program} {S : Sh D} {T : TypeId → Option Ty} {M N : Nat → Prop} {w w' : World} {w0 : Bs} {g : Nat → Option Value} {blk : Nat → Option (Bk D)} {al : Nat → Prop}
  {a : Act} {o : Oper} {K : Act → World → Prop} {Q : Exit → Act → World → Prop} {slot : Nat → Sl D} {out : Out D} {fr : Nat}

theorem Lf.Le.rel {x y : Lf D} {v : Value} (h : x.Le S y) (hr : x.Rel S M w g v) : y.Rel S M w g v := by
  rcases h with rfl | ⟨rfl, d, rfl, hd⟩ | ⟨b, rfl, rfl⟩
  · exact hr
  · simp only [Lf.Rel] at hr
    subst hr
    intro w' _
    have := DRel.mk (S := S) (w := w') d none 0 (fun _ _ => .bool false) (by omega) (by omega) (fun i j hi _ => by omega) (fun i j hi _ => by omega) (fun i j _ hi _ => by omega)
    rwa [hd] at this
  · exact hr

theorem sound_store {t : TypeId} {x y : Operand} {ty : Ty} (ho : o.op = .store t x y) (hT : TyOk P t ty) (hTT : T t = some ty) (h : Hp S w0 N blk g al w) (hx : (opnd slot x).Rel S (Mset N blk g) w g (a.eval x))
    (hy : (opnd slot y).Rel S (Mset N blk g) w g (a.eval y)) (hout : xStore T S blk t (opnd slot x) (opnd slot y) = some out) (hS : ShOk S) (hp : preP out.pre) (hK : Post S w0 N blk g al w fr out o.dst a K) : o.wp P a w K Q := by
  have hsz := ty_size hT w
  unfold xStore at hout
  split at hout
  · rename_i ty' l off u hty hex hey
    rw [hTT] at hty
    injection hty with hty
    subst hty
    rw [hex] at hx
    rw [hey] at hy
    obtain ⟨b, hg, hv⟩ := hx
    split at hout
    · rename_i cs hb
      split at hout
      · rename_i hc
        injection hout with hout
        subst hout
        simp only [Bool.and_eq_true] at hc
        obtain ⟨⟨h1, h2⟩, h3⟩ := hc
        have h1 := Nat.eq_of_beq_eq_true h1
        have h2 := Nat.le_of_ble_eq_true h2
        obtain ⟨vs, t', hh, hr⟩ := blk_cells h hb hg
        have hu := whole_cells h.refs (whole_of_all h3) hy
        have hlen := hu.length
        obtain ⟨w', hrun, hb', hn, hs, q1, q2, q3⟩ := run_storeCells (P := P) b t' (a.eval y).cells.toList w vs off 0 hh (by rw [← hr.length]; omega) (all_one h.refs h3 hu)
        have hrun' : (execOp a.eval o).run P w = .ok .skip w' := by
          have hsz2 : (a.eval y).cells.size = ty.size := by rw [← h1, hlen]; simp
          simp [execOp, ho, Instr.storeAt, Instr.sureAddr, hv, storeVar, hsz, hsz2, hrun]
        obtain ⟨hp', hk'⟩ := h.write (bk' := .cells (putAt cs off u.cells)) hb rfl rfl hg rfl q1 q2 q3 hs hn (fun hk => by
          refine ⟨b, _, t', rfl, (BkOk.lt (h.bks l _ hb).choose_spec.2 rfl (by rw [Option.some.inj ((h.bks l _ hb).choose_spec.1.symm.trans hg)]; rfl)).2, hb', ?_⟩
          simpa using (hr.putAt hu (off + 0)).keep hk (More.refl _))
        exact wp_unit hrun' (hK _ _ _ (More.refl _) hk' (hp'.weaken fun _ h => .inl h) trivial)
      · cases hout
    · cases hout
  · rename_i ty' l i j sz u hty hex hey
    rw [hTT] at hty
    injection hty with hty
    subst hty
    rw [hex] at hx
    rw [hey] at hy
    obtain ⟨b, n, cap, hg, hv⟩ := hx
    split at hout
    · rename_i e d hb
      split at hout
      · rename_i hc
        split at hout
        · rename_i d' hset
          injection hout with hout
          subst hout
          simp only [Bool.and_eq_true] at hc
          obtain ⟨⟨⟨h1, h2⟩, h4⟩, h3⟩ := hc
          have h1 := Nat.eq_of_beq_eq_true h1
          have h2 := Nat.le_of_ble_eq_true h2
          have h4 := Nat.eq_of_beq_eq_true h4
          subst h4
          have hp : i < S.len d := hp
          obtain ⟨es, el, ec⟩ := hS.set _ _ _ _ _ hset hp
          obtain ⟨v, hv', hm, xs, ⟨hxl, hown⟩, hcell⟩ := h.bks l _ hb
          rw [hg] at hv'
          injection hv' with hv'
          subst hv'
          have hu := whole_cells h.refs (whole_of_all h3) hy
          have hlen := hu.length
          rcases hown with ⟨h0, _⟩ | ⟨b', cap', cur, hvv, _, hh, hnc, hcm, hcs, htake⟩
          · cases h0
          · injection hvv with q1 q2 q3
            injection q1 with q1
            injection q1 with q1
            subst q1 q2 q3
            have hh' : w.heap[b]? = some (.cells (cur.toList).toArray e (0, 0)) := by simpa using hh
            have hrow : i * S.size d + S.size d ≤ S.len d * S.size d := by rw [← Nat.succ_mul]; exact Nat.mul_le_mul_right _ hp
            have hcap : S.len d * S.size d ≤ cur.toList.length := by rw [Array.length_toList, hcs]; exact Nat.mul_le_mul_right _ hnc
            obtain ⟨w', hrun, hb', hn, hs, q1, q2, q3⟩ := run_storeCells (P := P) b e (a.eval y).cells.toList w cur.toList (i * S.size d + j) 0 hh' (by omega) (all_one h.refs h3 hu)
            have hrun' : (execOp a.eval o).run P w = .ok .skip w' := by
              have hsz2 : (a.eval y).cells.size = ty.size := by rw [← h1, hlen]; simp
              simp [execOp, ho, Instr.storeAt, Instr.sureAddr, hv, storeVar, hsz, hsz2, hrun]
            generalize hus : (a.eval y).cells.toList = us at *
            obtain ⟨hp', hk'⟩ := h.write (bk' := .row e d') hb rfl rfl hg rfl q1 q2 q3 hs hn (fun hk => by
              refine ⟨⟨hm.1, by rw [el]; exact hm.2⟩, (cur.toList.take (i * S.size d + j + 0) ++ (us ++ cur.toList.drop (i * S.size d + j + 0 + us.length))).take (S.len d * S.size d), ⟨?_, .inr ⟨b, cap, (cur.toList.take (i * S.size d + j + 0) ++ (us ++ cur.toList.drop (i * S.size d + j + 0 + us.length))).toArray, by rw [el], Nat.zero_le _, hb', by rw [el]; exact hnc, hcm, ?_, by rw [el, es]⟩⟩, fun i' j' hi' hj' => ?_⟩
              · rw [el, es]
                simp only [List.length_take, List.length_append, List.length_drop]
                omega
              · rw [es, ← hcs]
                simp only [List.size_toArray, List.length_append, List.length_take, List.length_drop]
                have := Array.length_toList (xs := cur)
                omega
              · rw [el] at hi'
                rw [es] at hj'
                rw [es]
                have hlt := row_lt hi' hj'
                obtain ⟨uo, hxo, hdo, hro⟩ := hcell i' j' hi' hj'
                have hold : cur.toList[i' * S.size d + j']? = some uo := by rw [← hxo, ← htake, List.getElem?_take, if_pos hlt]
                rw [List.getElem?_take, if_pos hlt]
                by_cases hin : i' = i ∧ j ≤ j' ∧ j' < j + u.cells.length
                · obtain ⟨rfl, hj1, hj2⟩ := hin
                  obtain ⟨x, hx1, hx2⟩ := (ec i' j' hi' hj').1 ⟨rfl, hj1, by simpa using hj2⟩
                  obtain ⟨uv, huv, hrv⟩ := hu.norm.get (j' - j) hx1
                  refine ⟨uv, ?_, hS.data _ _ _ (by rw [el]; exact hi') (by rw [es]; exact hj'), ?_⟩
                  · rw [List.getElem?_append_right (by simp; omega), List.getElem?_append_left (by simp only [List.length_take]; omega), ← huv]
                    congr 1
                    simp only [List.length_take]
                    omega
                  · exact (hx2.rel hrv).keep hk (More.refl _)
                · rw [(ec i' j' hi' hj').2 (by simpa using hin)]
                  refine ⟨uo, ?_, hdo, hro.keep hk (More.refl _)⟩
                  rw [← hold]
                  have hpos : i' * S.size d + j' < i * S.size d + j ∨ i * S.size d + j + us.length ≤ i' * S.size d + j' := by
                    rcases Nat.lt_trichotomy i' i with hlt' | rfl | hgt
                    · left
                      have : (i' + 1) * S.size d ≤ i * S.size d := Nat.mul_le_mul_right _ hlt'
                      rw [Nat.succ_mul] at this
                      omega
                    · by_cases hjj : j ≤ j'
                      · right
                        have : ¬ j' < j + u.cells.length := fun hh => hin ⟨rfl, hjj, hh⟩
                        omega
                      · left; omega
                    · right
                      have : (i + 1) * S.size d ≤ i' * S.size d := Nat.mul_le_mul_right _ hgt
                      rw [Nat.succ_mul] at this
                      omega
                  rcases hpos with hpos | hpos
                  · rw [List.getElem?_append_left (by simp only [List.length_take]; omega), List.getElem?_take, if_pos (by omega)]
                  · rw [List.getElem?_append_right (by simp only [List.length_take]; omega), List.getElem?_append_right (by simp only [List.length_take]; omega), List.getElem?_drop]
                    congr 1
                    simp only [List.length_take]
                    omega)
            exact wp_unit hrun' (hK _ _ _ (More.refl _) hk' (hp'.weaken fun _ h => .inl h) trivial)
        · cases hout
      · cases hout
    · cases hout
  · cases hout

theorem sound_field {t : TypeId} {x : Operand} {f : Nat} {ty : Ty} (ho : o.op = .fieldAddr t x f) (hT : TyOk P t ty) (hTT : T t = some ty) (h : Hp S w0 N blk g al w) (hx : (opnd slot x).Rel S (Mset N blk g) w g (a.eval x))
    (hout : xField T t (opnd slot x) f = some out) (hK : Post S w0 N blk g al w fr out o.dst a K) : o.wp P a w K Q := by
  simp only [xField, hTT] at hout
  split at hout
  · rename_i off sz _ l ofs hof he
    rw [he] at hx
    obtain ⟨b, hg, hv⟩ := hx
    obtain ⟨fs, fd, hs, hf, hfo, hfs, _⟩ := ty_field hT hof
    split at hout
    · cases hout
    · rename_i hne
      have hne : sz ≠ 0 := fun e => hne (by simp [e])
      injection hout with hout
      subst hout
      refine wp_same (v := .pointer (some ⟨b, ofs + off, none⟩)) ?_ h hK rfl ⟨b, hg, rfl⟩
      simp [execOp, ho, Instr.fieldAt, run_underlying hs, hf, hv, Instr.sureAddr, fieldPlace, size_of_cells hfs hne, hne, hfo, add_none]
  · rename_i off sz _ d i j hof he
    rw [he] at hx
    obtain ⟨ad, n, cap, hd, hi, hv⟩ := hx
    obtain ⟨fs, fd, hs, hf, hfo, hfs, _⟩ := ty_field hT hof
    split at hout
    · cases hout
    · rename_i hne
      have hne : sz ≠ 0 := fun e => hne (by simp [e])
      injection hout with hout
      subst hout
      refine wp_same (v := .pointer (some (ad.add (i * S.size d + (j + off))))) ?_ h hK rfl ⟨ad, n, cap, hd, hi, rfl⟩
      simp [execOp, ho, Instr.fieldAt, run_underlying hs, hf, hv, Instr.sureAddr, fieldPlace, size_of_cells hfs hne, hne, hfo, add_add', Nat.add_assoc]
  · rename_i off sz _ l i j z hof he
    rw [he] at hx
    obtain ⟨b, n, cap, hg, hv⟩ := hx
    obtain ⟨fs, fd, hs, hf, hfo, hfs, _⟩ := ty_field hT hof
    split at hout
    · cases hout
    · rename_i hne
      have hne : sz ≠ 0 := fun e => hne (by simp [e])
      injection hout with hout
      subst hout
      refine wp_same (v := .pointer (some ⟨b, i * z + (j + off), none⟩)) ?_ h hK rfl ⟨b, n, cap, hg, rfl⟩
      simp [execOp, ho, Instr.fieldAt, run_underlying hs, hf, hv, Instr.sureAddr, fieldPlace, size_of_cells hfs hne, hne, hfo, add_none, Nat.add_assoc]
  · cases hout

theorem sound_part {t : TypeId} {x : Operand} {f : Nat} {ty : Ty} (ho : o.op = .field t x f) (hT : TyOk P t ty) (hTT : T t = some ty) (h : Hp S w0 N blk g al w) (hx : (opnd slot x).Rel S (Mset N blk g) w g (a.eval x))
    (hout : xPart T t (opnd slot x) f = some out) (hK : Post S w0 N blk g al w fr out o.dst a K) : o.wp P a w K Q := by
  simp only [xPart, hTT] at hout
  split at hout
  · rename_i off sz ag cs hof he
    rw [he] at hx
    obtain ⟨vs, hv, hr⟩ := hx
    obtain ⟨fs, fd, hs, hf, hfo, hfs, hfa⟩ := ty_field hT hof
    split at hout
    · cases hout
    · rename_i hne
      have hne : sz ≠ 0 := fun e => hne (by simp [e])
      have hia := fun w => isAgg_of hfs hne w
      rw [hfa] at hia
      split at hout
      · rename_i hag
        split at hout
        · rename_i hle
          injection hout with hout
          subst hout
          refine wp_same (v := .agg ((vs.drop off).take sz).toArray) ?_ h hK rfl ⟨_, rfl, (hr.drop off).take _⟩
          simp [execOp, ho, Instr.field, run_underlying hs, hf, hv, asAgg, part, hia, hag, size_of_cells hfs hne, hfo]
        · cases hout
      · rename_i hag
        split at hout
        · rename_i y hy
          injection hout with hout
          subst hout
          obtain ⟨v, hv', hrel⟩ := hr.get off hy
          refine wp_same (v := v) ?_ h hK rfl hrel
          simp [execOp, ho, Instr.field, run_underlying hs, hf, hv, asAgg, part, hia, hag, hfo, hv']
        · cases hout
  · cases hout

theorem sound_extract {x : Operand} {i : Nat} (ho : o.op = .extract x i) (h : Hp S w0 N blk g al w) (hx : (opnd slot x).Rel S (Mset N blk g) w g (a.eval x))
    (hout : xExtract (opnd slot x) i = some out) (hK : Post S w0 N blk g al w fr out o.dst a K) : o.wp P a w K Q := by
  unfold xExtract at hout
  split at hout
  · rename_i xs he
    rw [he] at hx
    obtain ⟨vs, hv, hr⟩ := hx
    split at hout
    · rename_i y hy
      injection hout with hout
      subst hout
      obtain ⟨v, hv', hrel⟩ := hr.get i hy
      refine wp_same (v := v) ?_ h hK rfl hrel
      simp [execOp, ho, Instr.extract, hv, hv']
    · cases hout
  · cases hout

theorem sound_index {t : TypeId} {x ix : Operand} (ho : o.op = .indexAddr t x ix) (hTy : ∀ t ty, T t = some ty → TyOk P t ty) (h : Hp S w0 N blk g al w) (hx : (opnd slot x).Rel S (Mset N blk g) w g (a.eval x))
    (hi : (opnd slot ix).Rel S (Mset N blk g) w g (a.eval ix)) (hout : xIndex T S blk t (opnd slot x) (opnd slot ix) = some out) (hp : preP out.pre) (hK : Post S w0 N blk g al w fr out o.dst a K) : o.wp P a w K Q := by
  unfold xIndex at hout
  split at hout
  · cases hout
  · rename_i ty hty
    split at hout
    · cases hout
    · rename_i e hel
      split at hout
      · cases hout
      · rename_i te hte
        have hsl := ty_elem (hTy _ _ hty) hel
        have hsz := ty_size (hTy _ _ hte) w
        split at hout
        · rename_i d k n hex hei
          rw [hex] at hx
          rw [hei] at hi
          split at hout
          · rename_i hc
            simp only [Bool.and_eq_true] at hc
            have h1 := Nat.eq_of_beq_eq_true hc.1
            have h2 : 0 < te.size := by simpa [Nat.blt_eq] using hc.2
            injection hout with hout
            subst hout
            obtain ⟨hp0, hp1⟩ := hp
            simp only [Sl.Rel, Sv.Rel, Lf.Rel] at hi
            obtain ⟨av, cap, hv, hcap⟩ := DatOk.slice hx
            have hlt : n.toNat < S.len d := by omega
            rw [hv] at hx
            obtain ⟨ad, rfl⟩ := DatOk.some_addr hx hlt (by omega)
            refine wp_same (v := .pointer (some (ad.add (n.toNat * S.size d + 0)))) ?_ h hK rfl ⟨ad, _, cap, hx, hlt, rfl⟩
            simp [execOp, ho, Instr.indexAt, hi, asIntOf, run_underlying hsl, hv, hp0, hp1, hsz, h1]
          · cases hout
        · rename_i l k n hex hei
          rw [hex] at hx
          rw [hei] at hi
          split at hout
          · rename_i e' d hb
            split at hout
            · rename_i hc
              simp only [Bool.and_eq_true] at hc
              have h1 := Nat.eq_of_beq_eq_true hc.1
              have h2 : 0 < te.size := by simpa [Nat.blt_eq] using hc.2
              injection hout with hout
              subst hout
              obtain ⟨hp0, hp1⟩ := hp
              simp only [Sl.Rel, Sv.Rel, Lf.Rel] at hi hx
              obtain ⟨v, hv, _, xs, ⟨hxl, hown⟩, _⟩ := h.bks l _ hb
              rw [hx] at hv
              injection hv with hv
              rcases hown with ⟨h0, hz⟩ | ⟨b, cap, cur, hv', _⟩
              · omega
              · rw [hv'] at hv
                refine wp_same (v := .pointer (some ⟨b, n.toNat * te.size + 0, none⟩)) ?_ h hK rfl ⟨b, _, cap, hx.trans (by rw [hv]), rfl⟩
                simp [execOp, ho, Instr.indexAt, hi, asIntOf, run_underlying hsl, hv, hp0, hp1, hsz, add_none]
            · cases hout
          · rename_i d hb
            split at hout
            · rename_i hc
              simp only [Bool.and_eq_true] at hc
              have h1 := Nat.eq_of_beq_eq_true hc.1
              have h2 : 0 < te.size := by simpa [Nat.blt_eq] using hc.2
              injection hout with hout
              subst hout
              obtain ⟨hp0, hp1⟩ := hp
              simp only [Sl.Rel, Sv.Rel, Lf.Rel] at hi hx
              obtain ⟨v, hv, hdat⟩ := h.bks l _ hb
              rw [hx] at hv
              injection hv with hv
              have hdat : DatOk S (Mset N blk g) w d v := hdat
              obtain ⟨av, cap, hv2, hcap⟩ := DatOk.slice hdat
              have hlt : n.toNat < S.len d := by omega
              rw [hv2] at hdat hv
              obtain ⟨ad, rfl⟩ := DatOk.some_addr hdat hlt (by omega)
              refine wp_same (v := .pointer (some (ad.add (n.toNat * S.size d + 0)))) ?_ h hK rfl ⟨ad, _, cap, hdat, hlt, rfl⟩
              simp [execOp, ho, Instr.indexAt, hi, asIntOf, run_underlying hsl, hv, hp0, hp1, hsz, h1]
            · cases hout
          · cases hout
        · cases hout

theorem eqGuard_plain {op : BinOp} {t : TypeId} {x y : Operand} {u v : Value} (hu : one' u = true) (hn : u ≠ .nilIface) : (eqGuard op t x y u v).run P w = .ok () w := by
  cases u <;> first | (simp [one'] at hu; done) | (simp at hn; done) | (cases op <;> rfl)

theorem drop_cons' {us : List Value} {i : Nat} {u : Value} {r : List Value} (h : us.drop i = u :: r) : us[i]? = some u ∧ us.drop (i + 1) = r := by
  constructor
  · have := congrArg (·[0]?) h
    simpa using this
  · have := congrArg (·.drop 1) h
    simpa [Nat.add_comm] using this

theorem eq_leaf {d : Nat} {t : TypeId} {k : Nat} {x y : Lf D} {u v : Value} {e : Bool} (hk : eqKind P t = some k) (hx : x.Rel S M w g u) (hy : y.Rel S M w g v) (he : eq1 k x y = some e) :
    (Op.equalIn (d + 1) t u v).run P w = .ok e w ∧ (isAgg t).run P w = .ok false w := by
  unfold eqKind at hk
  split at hk
  · rename_i hu
    injection hk with hk
    subst hk
    simp only [eq1] at he
    split at he
    · injection he with he
      subst he
      cases hx
      cases hy
      exact ⟨by simp [Op.equalIn, run_underlying hu], by simp [isAgg, run_underlying hu]⟩
    · cases he
  · rename_i hu
    injection hk with hk
    subst hk
    simp only [eq1] at he
    split at he
    · split at he
      · rename_i hkk
        injection he with he
        subst he
        cases hx
        cases hy
        simp only [kEq, beq_iff_eq] at hkk
        subst hkk
        exact ⟨by simp [Op.equalIn, run_underlying hu], by simp [isAgg, run_underlying hu]⟩
      · cases he
    · cases he
  · rename_i hu
    injection hk with hk
    subst hk
    simp only [eq1] at he
    split at he
    · rename_i a' b'
      injection he with he
      subst he
      obtain ⟨rfl, _⟩ := hx
      obtain ⟨rfl, _⟩ := hy
      refine ⟨?_, by simp [isAgg, run_underlying hu]⟩
      have : ((⟨a'.toArray⟩ : ByteArray) == ⟨b'.toArray⟩) = (a' == b') := by
        show (a'.toArray == b'.toArray) = _
        simp
      simp [Op.equalIn, run_underlying hu, this]
    · cases he
  · cases hk

theorem eq_loop {d : Nat} {us vs : Array Value} : ∀ (fs : List Field) (i : Nat) (ks : List Nat) (xs ys : List (Lf D)) (r : Bool), eqFields P i fs = some ks → eqLfs ks xs ys = some r →
    LfsRel S M w g xs (us.toList.drop i) → LfsRel S M w g ys (vs.toList.drop i) →
    (forIn (m := Sem) fs ((none : Option Bool), ()) fun f _ => if f.name ≠ "_" then do
        let a ← part f.type us f.offset
        let b ← part f.type vs f.offset
        let e ← Op.equalIn (d + 1) f.type a b
        if (!e) = true then pure (ForInStep.done (some false, ())) else pure (ForInStep.yield (none, ()))
      else pure (ForInStep.yield (none, ()))).run P w = .ok (if r then none else some false, ()) w
  | [], i, ks, xs, ys, r, hf, he, hx, hy => by
    simp only [eqFields, Option.some.injEq] at hf
    subst hf
    cases xs with
    | cons x xs => simp [eqLfs] at he
    | nil =>
      cases ys with
      | cons y ys => simp [eqLfs] at he
      | nil =>
        simp only [eqLfs, Option.some.injEq] at he
        subst he
        simp
  | f :: fs, i, ks, xs, ys, r, hf, he, hx, hy => by
    unfold eqFields at hf
    split at hf
    · rename_i k ks' hk hks
      split at hf
      · rename_i hc
        simp only [Bool.and_eq_true, Bool.not_eq_true'] at hc
        obtain ⟨⟨c1, c2⟩, c3⟩ := hc
        have c1 := Nat.eq_of_beq_eq_true c1
        have c2 : f.name ≠ "_" := by simpa using c2
        injection hf with hf
        subst hf
        cases xs with
        | nil => simp [eqLfs] at he
        | cons x xs =>
          cases ys with
          | nil => simp [eqLfs] at he
          | cons y ys =>
            unfold eqLfs at he
            split at he
            · rename_i e r' he1 hr'
              injection he with he
              subst he
              generalize hux : us.toList.drop i = U at hx
              generalize hvx : vs.toList.drop i = V at hy
              cases U with
              | nil => exact hx.elim
              | cons u U =>
                cases V with
                | nil => exact hy.elim
                | cons v V =>
                  obtain ⟨u1, u2⟩ := drop_cons' hux
                  obtain ⟨v1, v2⟩ := drop_cons' hvx
                  obtain ⟨e1, e3⟩ := eq_leaf (d := d) hk hx.1 hy.1 he1
                  have ih := eq_loop (d := d) (us := us) (vs := vs) fs (i + 1) ks' xs ys r' hks hr' (by rw [u2]; exact hx.2) (by rw [v2]; exact hy.2)
                  have p1 : (part f.type us f.offset).run P w = .ok u w := by
                    have : us[i]? = some u := by simpa using u1
                    simp [part, e3, c1, this]
                  have p2 : (part f.type vs f.offset).run P w = .ok v w := by
                    have : vs[i]? = some v := by simpa using v1
                    simp [part, e3, c1, this]
                  rw [List.forIn_cons]
                  simp only [c2, ne_eq, not_false_eq_true, if_true, Sem.run_bind, p1, p2, e1, Result.andThen_ok]
                  cases e with
                  | false => simp
                  | true =>
                    simp only [Bool.not_true, Bool.false_eq_true, if_false, Sem.run_pure, Result.andThen_ok, Bool.true_and]
                    simpa only [c2, ne_eq, not_false_eq_true, if_true] using ih
            · cases he
      · cases hf
    · cases hf

theorem eq_struct {t : TypeId} {ty : Ty} {us vs : List Value} {xs ys : List (Lf D)} {k : Nat} {ks : List Nat} {r : Bool} (hT : TyOk P t ty) (hk : ty.eqs = k :: ks) (he : eqLfs (k :: ks) xs ys = some r) (hx : LfsRel S M w g xs us) (hy : LfsRel S M w g ys vs) :
    (Op.equal t (.agg us.toArray) (.agg vs.toArray)).run P w = .ok r w ∧ P.eqGuardType P.depth t = false := by
  obtain ⟨i, d, z, lt, hi, hd, hz, rfl⟩ := ty_parts hT
  cases d with
  | struct fs =>
    simp only [eqsOf] at hk
    split at hk
    · cases hk
    · rename_i hg
      simp only [Bool.or_eq_true, not_or, Bool.not_eq_true] at hg
      obtain ⟨g1, g2⟩ := hg
      refine ⟨?_, g2⟩
      split at hk
      · rename_i ks' hks
        subst hk
        suffices key : ∀ d, (Op.equalIn (d + 1 + 1) t (.agg us.toArray) (.agg vs.toArray)).run P w = .ok r w from key 9998
        intro d
        have := eq_loop (P := P) (w := w) (d := d) (us := us.toArray) (vs := vs.toArray) fs.toList 0 _ xs ys r hks he (by simpa using hx) (by simpa using hy)
        rw [Array.forIn_toList] at this
        simp only [Op.equalIn, Sem.run_bind, run_underlying hd, Result.andThen_ok, program]
        simp only [Sem.run, Result.andThen_ok, g1, Bool.false_eq_true, if_false]
        rw [Sem.run_bind]
        refine (congrArg (fun x => Result.andThen x _) this).trans ?_
        rw [Result.andThen_ok]
        cases r <;> rfl
      · cases hk
  | _ => simp [eqsOf] at hk

theorem sound_nilq {op : BinOp} {t yt : TypeId} {x y : Operand} (ho : o.op = .binOp op t x y yt) (hTy : ∀ t ty, T t = some ty → TyOk P t ty) (h : Hp S w0 N blk g al w) (hx : (opnd slot x).Rel S (Mset N blk g) w g (a.eval x))
    (hy : (opnd slot y).Rel S (Mset N blk g) w g (a.eval y)) (hout : xNilq T S op t (opnd slot x) (opnd slot y) = some out) (hK : Post S w0 N blk g al w fr out o.dst a K) : o.wp P a w K Q := by
  unfold xNilq at hout
  split at hout
  · cases hout
  · rename_i ty hty
    split at hout
    · rename_i e d he hex hey
      split at hout
      rotate_left
      · cases hout
      rename_i hz
      have hz : 0 < S.size d := by simpa [Nat.blt_eq] using hz
      have hsl := ty_elem (hTy _ _ hty) he
      rw [hex] at hx
      rw [hey] at hy
      have hx : DatOk S (Mset N blk g) w d (a.eval x) := hx
      have hy : a.eval y = .slice none 0 0 := hy
      obtain ⟨av, cap, hv, hcap⟩ := DatOk.slice hx
      have hnil : av.isNone = true → S.len d = 0 := fun hn => by
        rw [hv] at hx
        rcases Nat.eq_zero_or_pos (S.len d) with h0 | h0
        · exact h0
        · obtain ⟨ad, rfl⟩ := DatOk.some_addr hx h0 hz
          cases hn
      have hgd := fun w => eqGuard_plain (P := P) (w := w) (op := op) (t := t) (x := x) (y := y) (u := .slice av (S.len d) cap) (v := .slice none 0 0) rfl (by simp)
      split at hout
      · injection hout with hout; subst hout
        refine wp_same (v := .bool av.isNone) ?_ h hK rfl ⟨_, rfl, hnil⟩
        simp [execOp, ho, hv, hy, hgd, Lib.run_eql_slice_nil w t e av (S.len d) cap 0 0 hsl]
      · injection hout with hout; subst hout
        refine wp_same (v := .bool (!av.isNone)) ?_ h hK rfl ⟨_, rfl, fun hb => hnil (by simpa using hb)⟩
        simp [execOp, ho, hv, hy, hgd, run_neq_slice_nil_any w t e av (S.len d) cap 0 0 hsl]
      · cases hout
    · rename_i e he hex hey
      have hsl := ty_elem (hTy _ _ hty) he
      rw [hex] at hx
      rw [hey] at hy
      have hx : a.eval x = .slice none 0 0 := hx
      have hy : a.eval y = .slice none 0 0 := hy
      have hgd := fun w => eqGuard_plain (P := P) (w := w) (op := op) (t := t) (x := x) (y := y) (u := .slice none 0 0) (v := .slice none 0 0) rfl (by simp)
      split at hout
      · injection hout with hout; subst hout
        refine wp_same (v := .bool true) ?_ h hK rfl rfl
        simp [execOp, ho, hx, hy, hgd, Lib.run_eql_slice_nil w t e none 0 0 0 0 hsl]
      · injection hout with hout; subst hout
        refine wp_same (v := .bool false) ?_ h hK rfl rfl
        simp [execOp, ho, hx, hy, hgd, run_neq_slice_nil_any w t e none 0 0 0 0 hsl]
      · cases hout
    · cases hout

theorem sound_bin {op : BinOp} {t yt : TypeId} {x y : Operand} (ho : o.op = .binOp op t x y yt) (hTy : ∀ t ty, T t = some ty → TyOk P t ty) (h : Hp S w0 N blk g al w) (hx : (opnd slot x).Rel S (Mset N blk g) w g (a.eval x))
    (hy : (opnd slot y).Rel S (Mset N blk g) w g (a.eval y)) (hout : xBin T op t (opnd slot x) (opnd slot y) = some out) (hp : preP out.pre) (hK : Post S w0 N blk g al w fr out o.dst a K) : o.wp P a w K Q := by
  unfold xBin at hout
  split at hout
  · rename_i k n k' m hex hey
    rw [hex] at hx
    rw [hey] at hy
    simp only [Sl.Rel, Sv.Rel, Lf.Rel] at hx hy
    split at hout
    · -- a shift
      have hgd := fun w => eqGuard_plain (P := P) (w := w) (op := .shl) (t := t) (x := x) (y := y) (u := .int k n) (v := .int k' m) rfl (by simp)
      injection hout with hout
      subst hout
      have hp : 0 ≤ m := hp
      refine wp_same (v := _) ?_ h hK rfl rfl
      simp [execOp, ho, hx, hy, hgd, binOp, Op.shift, show ¬ m < 0 by omega, shlI]
    · have hgd := fun w => eqGuard_plain (P := P) (w := w) (op := .shr) (t := t) (x := x) (y := y) (u := .int k n) (v := .int k' m) rfl (by simp)
      injection hout with hout
      subst hout
      have hp : 0 ≤ m := hp
      refine wp_same (v := _) ?_ h hK rfl rfl
      simp [execOp, ho, hx, hy, hgd, binOp, Op.shift, show ¬ m < 0 by omega, shrI]
    · split at hout
      rotate_left
      · cases hout
      rename_i hns hns2 hk
      have hk : k = k' := by simpa [kEq] using hk
      subst hk
      have hgd := fun w => eqGuard_plain (P := P) (w := w) (op := op) (t := t) (x := x) (y := y) (u := .int k n) (v := .int k m) rfl (by simp)
      unfold xInt at hout
      split at hout <;> first
        | (injection hout with hout; subst hout
           refine wp_same (v := _) ?_ h hK rfl rfl
           first
             | (simp [execOp, ho, hx, hy, hgd, binOp, Op.intArith, wrp]; done)
             | (simp [execOp, ho, hx, hy, hgd, binOp, Op.intBits, andI, orI, xorI, ansI]; done)
             | (simp [execOp, ho, hx, hy, hgd, binOp, Op.intCmp]; done)
             | (simp [execOp, ho, hx, hy, hgd, binOp, Op.intDiv, show m ≠ 0 from hp]; done)
             | (simp [execOp, ho, hx, hy, hgd, binOp, Op.intDiv, show m ≠ 0 from hp, wrp]; done))
        | cases hout
  · rename_i s u hex hey
    rw [hex] at hx
    rw [hey] at hy
    simp only [Sl.Rel, Sv.Rel, Lf.Rel] at hx hy
    obtain ⟨hx, hxl⟩ := hx
    obtain ⟨hy, hyl⟩ := hy
    have hgd := fun w => eqGuard_plain (P := P) (w := w) (op := op) (t := t) (x := x) (y := y) (u := .string ⟨s.toArray⟩) (v := .string ⟨u.toArray⟩) rfl (by simp)
    unfold xStr at hout
    split at hout <;> first
      | (injection hout with hout; subst hout
         refine wp_same (v := _) ?_ h hK rfl rfl
         simp [execOp, ho, hx, hy, hgd, binOp, Op.stringOp, bne]; done)
      | (cases hout; done)
      | skip
    injection hout with hout
    subst hout
    have hsum := run_string_add_sum (P := P) w ⟨s.toArray⟩ ⟨u.toArray⟩ (by simpa [ByteArray.size, preP] using hp)
    rw [ByteArray.mk_append_mk] at hsum
    refine wp_same (v := .string ⟨(s ++ u).toArray⟩) ?_ h hK rfl ⟨rfl, by simpa [preP] using hp⟩
    simp [execOp, ho, hx, hy, hgd, binOp, hsum]
  · rename_i xs ys hex hey
    rw [hex] at hx
    rw [hey] at hy
    obtain ⟨us, hux, hrx⟩ := hx
    obtain ⟨vs, hvy, hry⟩ := hy
    split at hout
    · rename_i ty hty
      split at hout
      · cases hout
      · rename_i ks hne
        cases hks : ty.eqs with
        | nil => exact absurd hks hne
        | cons k ks' =>
          rw [hks] at hout
          split at hout
          · rename_i r he
            injection hout with hout; subst hout
            obtain ⟨h1, h2⟩ := eq_struct (hTy _ _ hty) hks he hrx.norm hry.norm
            refine wp_same (v := .bool r) ?_ h hK rfl rfl
            have hgd : (eqGuard .eql t x y (.agg us.toArray) (.agg vs.toArray)).run P w = .ok () w := by
              simp only [eqGuard, program]
              simp [Sem.run, h2]
            simp [execOp, ho, hux, hvy, hgd, binOp, h1]
          · rename_i r he
            injection hout with hout; subst hout
            obtain ⟨h1, h2⟩ := eq_struct (hTy _ _ hty) hks he hrx.norm hry.norm
            refine wp_same (v := .bool (!r)) ?_ h hK rfl rfl
            have hgd : (eqGuard .neq t x y (.agg us.toArray) (.agg vs.toArray)).run P w = .ok () w := by
              simp only [eqGuard, program]
              simp [Sem.run, h2]
            simp [execOp, ho, hux, hvy, hgd, binOp, h1]
          · cases hout
    · cases hout
  · split at hout
    · rename_i s u hbx hby
      have hx := bOf_rel hbx hx
      have hy := bOf_rel hby hy
      have hgd := fun w => eqGuard_plain (P := P) (w := w) (op := op) (t := t) (x := x) (y := y) (u := .bool s) (v := .bool u) rfl (by simp)
      split at hout
      · rename_i ty hty
        split at hout
        · rename_i hk
          obtain ⟨d, hd, hkd⟩ := ty_kind (hTy _ _ hty)
          have hk : ty.kind = 1 := by simpa using hk
          rw [hk] at hkd
          have hd : P.underlying t = some .bool := by cases d <;> simp_all [kindOf]
          have heq : ∀ n, (Op.equalIn (n + 1) t (.bool s) (.bool u)).run P w = .ok (s == u) w := fun n => by simp [Op.equalIn, run_underlying hd]
          have heq' : (Op.equal t (.bool s) (.bool u)).run P w = .ok (s == u) w := heq 9999
          split at hout <;> first
            | (injection hout with hout; subst hout
               refine wp_same (v := _) ?_ h hK rfl rfl
               simp [execOp, ho, hx, hy, hgd, binOp, heq', bne]; done)
            | cases hout
        · cases hout
      · cases hout
    · cases hout

theorem sound_un {op : UnOp} {t : TypeId} {x : Operand} (ho : o.op = .unOp op t x) (h : Hp S w0 N blk g al w) (hx : (opnd slot x).Rel S (Mset N blk g) w g (a.eval x))
    (hout : xUn op (opnd slot x) = some out) (hp : preP out.pre) (hK : Post S w0 N blk g al w fr out o.dst a K) : o.wp P a w K Q := by
  unfold xUn at hout
  split at hout
  · rename_i b he
    rw [he] at hx
    simp only [Sl.Rel, Sv.Rel, Lf.Rel] at hx
    injection hout with hout; subst hout
    refine wp_same (v := _) ?_ h hK rfl rfl
    simp [execOp, ho, hx, Op.unary]
  · rename_i b he
    rw [he] at hx
    simp only [Sl.Rel, Sv.Rel, Lf.Rel] at hx
    injection hout with hout; subst hout
    refine wp_same (v := _) ?_ h hK rfl rfl
    simp [execOp, ho, hx, Op.unary]
  · rename_i p he
    rw [he] at hx
    obtain ⟨b, hb, hpb⟩ := hx
    injection hout with hout; subst hout
    refine wp_same (v := .bool (!b)) ?_ h hK rfl ⟨!b, rfl, by simpa using hpb⟩
    simp [execOp, ho, hb, Op.unary]
  · rename_i k n he
    rw [he] at hx
    simp only [Sl.Rel, Sv.Rel, Lf.Rel] at hx
    injection hout with hout; subst hout
    refine wp_same (v := _) ?_ h hK rfl rfl
    simp [execOp, ho, hx, Op.unary, Op.intArith, wrp]
  · cases hout

theorem sound_pick {c x y : Operand} (ho : o.op = .pick c x y) (h : Hp S w0 N blk g al w) (hc : (opnd slot c).Rel S (Mset N blk g) w g (a.eval c)) (hx : (opnd slot x).Rel S (Mset N blk g) w g (a.eval x))
    (hy : (opnd slot y).Rel S (Mset N blk g) w g (a.eval y)) (hout : xPick slot c x y = some out) (hK : Post S w0 N blk g al w fr out o.dst a K) : o.wp P a w K Q := by
  unfold xPick at hout
  split at hout
  · rename_i he
    rw [he] at hc
    simp only [Sl.Rel, Sv.Rel, Lf.Rel] at hc
    injection hout with hout; subst hout
    exact wp_same (v := a.eval x) (by simp [execOp, ho, hc, asBool]) h hK rfl hx
  · rename_i he
    rw [he] at hc
    simp only [Sl.Rel, Sv.Rel, Lf.Rel] at hc
    injection hout with hout; subst hout
    exact wp_same (v := a.eval y) (by simp [execOp, ho, hc, asBool]) h hK rfl hy
  · rename_i t he
    rw [he] at hc
    simp only [Sl.Rel, Sv.Rel, Lf.Rel] at hc
    split at hout
    · rename_i p q hp hq
      have hx := bOf_rel hp hx
      have hy := bOf_rel hq hy
      injection hout with hout; subst hout
      cases t
      · exact wp_same (v := a.eval y) (by simp [execOp, ho, hc, asBool]) h hK rfl hy
      · exact wp_same (v := a.eval x) (by simp [execOp, ho, hc, asBool]) h hK rfl hx
    · cases hout
  · cases hout
end
end Go.Vc
