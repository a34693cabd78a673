/-
  Own engine, part 8: append, make, the bytes of a text, integers turned into another kind, closures.
-/
import Derived.Test.YtemjcccdcnhmhaaGreatDoorVd7
import Derived.Maps.AppendAt
import Derived.Laws.MakeOwn
namespace Go.Vc
open Go.RowKit
set_option linter.unusedVariables false

section
variable {D : Type} {P : Program} {S : Sh D} {T : TypeId → Option Ty} {M N : Nat → Prop} {w w' : World} {w0 : Bs} {g : Nat → Option Value} {blk : Nat → Option (Bk D)} {al : Nat → Prop}
  {a : Act} {o : Oper} {K : Act → World → Prop} {Q : Exit → Act → World → Prop} {slot : Nat → Sl D} {out : Out D} {fr : Nat}

theorem list_of {p : Nat → Value → Prop} : ∀ (n : Nat), (∀ k, k < n → ∃ u, p k u) → ∃ l : List Value, l.length = n ∧ ∀ k u, l[k]? = some u → p k u
  | 0, _ => ⟨[], rfl, fun k u h => by simp at h⟩
  | n + 1, h => by
    obtain ⟨l, hl, hp⟩ := list_of n fun k hk => h k (by omega)
    obtain ⟨u, hu⟩ := h n (by omega)
    refine ⟨l ++ [u], by simp [hl], fun k x hx => ?_⟩
    by_cases hk : k < l.length
    · rw [List.getElem?_append_left hk] at hx
      exact hp k x hx
    · rw [List.getElem?_append_right (by omega)] at hx
      have hkl : k - l.length = 0 := by
        rcases Nat.eq_zero_or_pos (k - l.length) with h0 | h0
        · exact h0
        · rw [List.getElem?_eq_none (by simp; omega)] at hx; cases hx
      rw [hkl] at hx
      simp at hx
      subst hx
      have : k = n := by omega
      subst this
      exact hu

theorem data_one {x : Lf D} {v : Value} (hd : x.isData = true) (h : x.Rel S M w g v) : v.oneCell' = true := by
  cases x with
  | bool b => simp only [Lf.Rel] at h; subst h; rfl
  | int k n => simp only [Lf.Rel] at h; subst h; rfl
  | str s => obtain ⟨rfl, _⟩ := h; rfl
  | dat d => obtain ⟨a, cap, rfl, _⟩ := DatOk.slice h; rfl
  | ifc x => obtain ⟨rfl, _⟩ := h; cases x <;> rfl
  | _ => simp [Lf.isData] at hd

theorem own_blk (v : Value) (h : ∃ a n c, v = .slice a n c) : v.ownBlock = blkOf v := by
  obtain ⟨a, n, c, rfl⟩ := h
  cases a <;> rfl

/-- A slice that stands for a datum, by its cells. -/
theorem dat_news (hS : ShOk S) {d : D} {v : Value} (h : DatOk S M w d v) (hz : 0 < S.size d) : ∃ (av : Option Addr) (cap : Nat) (news : List Value), v = .slice av (S.len d) cap ∧ news.length = S.len d * S.size d ∧
    (∀ ad, av = some ad → ∀ j u, news[j]? = some u → w.cell? (ad.add j) = some u) ∧ (av = none → S.len d = 0) ∧ (∀ u ∈ news, u.oneCell' = true) ∧
    ∀ i j, i < S.len d → j < S.size d → ∃ u, news[i * S.size d + j]? = some u ∧ (S.cell d i j).Rel S M w g u := by
  obtain ⟨av, cap, rfl, hcap⟩ := h.slice
  rcases Nat.eq_zero_or_pos (S.len d) with h0 | h0
  · exact ⟨av, cap, [], rfl, by simp [h0], fun _ _ j u hj => by simp at hj, fun _ => h0, fun u hu => by simp at hu, fun i j hi => by omega⟩
  · obtain ⟨ad, rfl⟩ := h.some_addr h0 hz
    obtain ⟨l, hl, hp⟩ := list_of (p := fun k u => w.cell? (ad.add k) = some u ∧ (S.cell d (k / S.size d) (k % S.size d)).Rel S M w g u ∧ k / S.size d < S.len d) (S.len d * S.size d) fun k hk => by
      have hi : k / S.size d < S.len d := by rw [Nat.div_lt_iff_lt_mul hz]; exact hk
      obtain ⟨u, hu, hr⟩ := h.cell (g := g) hi (Nat.mod_lt k hz)
      have : k / S.size d * S.size d + k % S.size d = k := by rw [Nat.mul_comm]; exact Nat.div_add_mod k (S.size d)
      rw [this] at hu
      exact ⟨u, hu, hr, hi⟩
    refine ⟨some ad, cap, l, rfl, hl, fun ad' e j u hj => by injection e with e; subst e; exact (hp j u hj).1, (fun e => by cases e), fun u hu => ?_, fun i j hi hj => ?_⟩
    · obtain ⟨k, hk⟩ := List.getElem?_of_mem hu
      obtain ⟨_, hr, hi⟩ := hp k u hk
      exact data_one (hS.data _ _ _ hi (Nat.mod_lt k hz)) hr
    · have hlt := row_lt hi hj
      obtain ⟨u, hu⟩ : ∃ u, l[i * S.size d + j]? = some u := ⟨_, List.getElem?_eq_getElem (by omega)⟩
      obtain ⟨_, hr, _⟩ := hp _ u hu
      have h1 : (i * S.size d + j) / S.size d = i := by rw [Nat.mul_comm, Nat.mul_add_div hz, Nat.div_eq_of_lt hj, Nat.add_zero]
      have h2 : (i * S.size d + j) % S.size d = j := by rw [Nat.mul_comm, Nat.mul_add_mod, Nat.mod_eq_of_lt hj]
      rw [h1, h2] at hr
      exact ⟨u, hu, hr⟩

theorem row_news (hS : ShOk S) (h : Hp S w0 N blk g al w) {l : Nat} {e : TypeId} {d : D} {v : Value} (hb : blk l = some (.row e d)) (hg : g l = some v) : ∃ (av : Option Addr) (cap : Nat) (news : List Value), v = .slice av (S.len d) cap ∧ news.length = S.len d * S.size d ∧
    (∀ ad, av = some ad → ∀ j u, news[j]? = some u → w.cell? (ad.add j) = some u) ∧ (av = none → S.len d = 0) ∧ (∀ u ∈ news, u.oneCell' = true) ∧
    ∀ i j, i < S.len d → j < S.size d → ∃ u, news[i * S.size d + j]? = some u ∧ (S.cell d i j).Rel S (Mset N blk g) w g u := by
  obtain ⟨v', hv', hm, xs, hown, hcell⟩ := h.bks l _ hb
  rw [hg] at hv'
  injection hv' with hv'
  subst hv'
  have hone : ∀ u ∈ xs, u.oneCell' = true := by
    intro u hu
    obtain ⟨k, hk⟩ := List.getElem?_of_mem hu
    have hkl : k < xs.length := (List.getElem?_eq_some_iff.1 hk).1
    rw [hown.1] at hkl
    have hz : 0 < S.size d := by
      rcases Nat.eq_zero_or_pos (S.size d) with h0 | h0
      · rw [h0] at hkl; simp at hkl
      · exact h0
    have hi : k / S.size d < S.len d := by rw [Nat.div_lt_iff_lt_mul hz]; exact hkl
    obtain ⟨u', hu', hda, hr⟩ := hcell _ _ hi (Nat.mod_lt k hz)
    have : k / S.size d * S.size d + k % S.size d = k := by rw [Nat.mul_comm]; exact Nat.div_add_mod k (S.size d)
    rw [this, hk] at hu'
    injection hu' with hu'
    subst hu'
    exact data_one hda hr
  rcases hown.2 with ⟨h0, hn⟩ | ⟨b, cap, cur, hv, hrest⟩
  · exact ⟨none, 0, xs, by rw [h0, hn], hown.1, fun _ e => by (cases e), fun _ => hn, hone, fun i j hi hj => by omega⟩
  · refine ⟨_, cap, xs, hv, hown.1, fun ad e j u hj => ?_, (fun e => by cases e), hone, fun i j hi hj => ?_⟩
    · injection e with e
      subst e
      subst hv
      exact hown.cells (g := b) rfl j u hj
    · obtain ⟨u, hu, _, hr⟩ := hcell i j hi hj
      exact ⟨u, hu, hr⟩

theorem datOf_news (hS : ShOk S) (h : Hp S w0 N blk g al w) {y : Sl D} {v : Value} {d : D} (hy : y.Rel S (Mset N blk g) w g v) (hd : datOf blk y = some d) (hz : 0 < S.size d) : ∃ (av : Option Addr) (cap : Nat) (news : List Value), v = .slice av (S.len d) cap ∧ news.length = S.len d * S.size d ∧
    (∀ ad, av = some ad → ∀ j u, news[j]? = some u → w.cell? (ad.add j) = some u) ∧ (av = none → S.len d = 0) ∧ (∀ u ∈ news, u.oneCell' = true) ∧
    ∀ i j, i < S.len d → j < S.size d → ∃ u, news[i * S.size d + j]? = some u ∧ (S.cell d i j).Rel S (Mset N blk g) w g u := by
  unfold datOf at hd
  split at hd
  · injection hd with hd
    subst hd
    exact dat_news hS hy hz
  · split at hd
    · rename_i e d' hb
      injection hd with hd
      subst hd
      exact row_news hS h hb hy
    · rename_i d' hb
      injection hd with hd
      subst hd
      obtain ⟨v', hv', hok⟩ := h.bks _ _ hb
      have hy : g _ = some v := hy
      rw [hy] at hv'
      injection hv' with hv'
      subst hv'
      exact dat_news hS hok hz
    · cases hd
  · cases hd

/-- append, whatever is appended. -/
theorem run_append_any (t ty e : TypeId) (i : TypeInfo) (z : Value) (size bytes : Nat) (ht : P.underlying t = some (.slice e)) (hi : P.info? e = some i) (hz : i.zero = some z)
    (hsize : i.size = size) (hby : i.bytes = bytes) (hzs : z.cells.size = size) (hsz : 0 < size)
    (v : Value) (n : Nat) (xs : List Value) (hown : w.ownsRow 0 e size v n xs)
    (av : Option Addr) (m c : Nat) (news : List Value) (hl : news.length = m * size) (hnews : ∀ ad, av = some ad → ∀ j u, news[j]? = some u → w.cell? (ad.add j) = some u) (hnone : av = none → m = 0) (h1 : ∀ u ∈ news, u.oneCell' = true)
    (h63 : n + m ≤ maxLen) (hbytes : (n + m) * bytes ≤ 140737488355328) :
    ∃ v' w', (Builtin.append_ #[t, t] ty #[v, .slice av m c]).run P w = .ok v' w' ∧ w'.ownsRow 0 e size v' (n + m) (xs ++ news) ∧ w.grownBy w' v.ownBlock ∧ (v'.ownBlock = v.ownBlock ∨ v'.ownBlock = some w.heap.size) := by
  cases av with
  | some ad =>
    obtain ⟨v', w', h2, h3, h4, _, h5⟩ := run_append_own_at (P := P) w 0 t ty e i z size bytes ht hi hz hsize hby hzs hsz v n xs hown ad m c news hl (hnews ad rfl) h1 h63 hbytes (Nat.zero_le _)
    exact ⟨v', w', h2, h3, h4, h5⟩
  | none =>
    obtain rfl := hnone rfl
    obtain rfl : news = [] := List.eq_nil_of_length_eq_zero (by simpa using hl)
    refine ⟨v, w, ?_, by simpa using hown, ⟨rfl, rfl, rfl, Nat.le_refl _, fun _ _ _ => rfl⟩, .inl rfl⟩
    rcases hown.2 with ⟨rfl, rfl⟩ | ⟨b, cap, cur, rfl, _, hh, hnc, _⟩
    · simp [Builtin.append_, run_underlying ht, sizeOf, typeInfo, hi, Builtin.lenOf, Builtin.firstCells]
    · simp [Builtin.append_, run_underlying ht, sizeOf, typeInfo, hi, Builtin.lenOf, Builtin.firstCells, hnc, storeCells]

theorem ty_info {t : TypeId} {ty : Ty} (h : TyOk P t ty) : ∃ i z, P.info? t = some i ∧ i.zero = some z ∧ i.size = ty.size ∧ i.bytes = ty.bytes ∧ z.cells.toList = ty.zero := by
  obtain ⟨i, d, z, lt, hi, hd, hz, rfl⟩ := ty_parts h
  exact ⟨i, z, hi, hz, rfl, rfl, rfl⟩

theorem al64 {al : Nat → Prop} {fr : Nat} : ∀ n, (al n ∨ n = fr) → al n ∨ (fr ≤ n ∧ n < fr + 64) := fun n hn => hn.elim .inl fun e => .inr ⟨Nat.le_of_eq e.symm, by omega⟩

theorem sound_append {c : Call} {x y : Operand} (hS : ShOk S) (ho : o.op = .call c) (hc : c.callee = .builtin .append) (hx' : c.args.toList = [x, y]) (hTy : ∀ t ty, T t = some ty → TyOk P t ty) (h : Hp S w0 N blk g al w) (hfr : ∀ n, fr ≤ n → n < fr + 64 → ¬ al n)
    (hx : (opnd slot x).Rel S (Mset N blk g) w g (a.eval x)) (hy : (opnd slot y).Rel S (Mset N blk g) w g (a.eval y)) (hout : xAppend T S blk fr c.argTypes (opnd slot x) (opnd slot y) = some out) (hp : preP out.pre)
    (hK : Post S w0 N blk g al w fr out o.dst a K) : o.wp P a w K Q := by
  have hargs : c.args = #[x, y] := by rw [← Array.toList_inj]; exact hx'
  have hmg : ∀ v', More g (upd g fr (some v')) := fun v' l v hl => by
    rw [upd_other _ _ _ _ (by rintro rfl; exact hfr _ (Nat.le_refl _) (by omega) (h.al _ _ hl))]
    exact hl
  unfold xAppend at hout
  split at hout
  · rename_i t t' htt
    split at hout
    · rename_i htt'
      have htt' := Nat.eq_of_beq_eq_true htt'
      subst htt'
      have hat : c.argTypes = #[t, t] := by rw [← Array.toList_inj]; exact htt
      split at hout
      · cases hout
      · rename_i ty hty
        split at hout
        · cases hout
        · rename_i e hel
          split at hout
          · cases hout
          · rename_i te hte
            split at hout
            · cases hout
            · rename_i d2 hd2
              have hsl := ty_elem (hTy _ _ hty) hel
              obtain ⟨i, z, hi, hz, q1, q2, q3⟩ := ty_info (hTy _ _ hte)
              split at hout
              · rename_i hcc
                simp only [Bool.and_eq_true] at hcc
                have e1 := Nat.eq_of_beq_eq_true hcc.1.1
                have e2 : 0 < te.size := by simpa [Nat.blt_eq] using hcc.1.2
                have e3 := Nat.eq_of_beq_eq_true hcc.2
                have hzs : z.cells.size = te.size := by rw [← e3, ← q3]; simp
                obtain ⟨av, cap, news, hv2, hl2, hc2, hn2, h12, hcell2⟩ := datOf_news hS h hy hd2 (by omega)
                have run : ∀ (v1 : Value) (n : Nat) (xs : List Value), a.eval x = v1 → w.ownsRow 0 e te.size v1 n xs → roomP (n + S.len d2) te.bytes →
                    ∃ v' w', (execOp a.eval o).run P w = .ok (.value v') w' ∧ w'.ownsRow 0 e te.size v' (n + S.len d2) (xs ++ news) ∧ w.grownBy w' v1.ownBlock ∧ (v'.ownBlock = v1.ownBlock ∨ v'.ownBlock = some w.heap.size) := by
                  intro v1 n xs hv1 hown hroom
                  obtain ⟨v', w', r1, r2, r3, r4⟩ := run_append_any (P := P) (w := w) t o.type e i z te.size te.bytes hsl hi hz q1 q2 hzs e2 v1 n xs hown av (S.len d2) cap news (by rw [e1]; exact hl2) hc2 hn2 h12 (by have := hroom.1; simp only [maxLen]; omega) hroom.2
                  refine ⟨v', w', ?_, r2, r3, r4⟩
                  simp only [execOp, ho, resolve, hc, invoke, builtin, hargs, hat, Sem.run_bind, Sem.run_pure, Result.andThen_ok, List.map_toArray, List.map_cons, List.map_nil, hv1, hv2, r1]
                split at hout
                · rename_i hex
                  injection hout with hout
                  subst hout
                  rw [hex] at hx
                  obtain ⟨v', w', r1, r2, r3, r4⟩ := run (.slice none 0 0) 0 [] hx (World.ownsRow_nil w 0 e te.size) (by rw [Nat.zero_add]; exact hp)
                  have hB : Below w.heap.size w w' := ⟨r3.os, r3.tape, r3.output, r3.size, fun k hk => r3.block k hk (by simp [Value.ownBlock])⟩
                  have hsl' : ∃ a n c, v' = .slice a n c := by rcases r2.2 with ⟨rfl, _⟩ | ⟨b, cp, cur, rfl, _⟩ <;> exact ⟨_, _, _, rfl⟩
                  have hpos : ∀ b, blkOf v' = some b → w.heap.size ≤ b := by
                    intro b hb
                    rw [own_blk v' hsl'] at r4
                    rcases r4 with r4 | r4
                    · rw [hb] at r4; simp [Value.ownBlock] at r4
                    · rw [hb] at r4; injection r4 with r4; omega
                  obtain ⟨g1, g2, g3⟩ := h.add (l := fr) (bk := .row e d2) (v := v') hB (hfr fr (Nat.le_refl _) (by omega)) hpos (fun M' hk _ => by
                    refine ⟨⟨fun b hb => .inl (Nat.le_trans h.below.size (hpos b hb)), by have : roomP (S.len d2) te.bytes := hp; have := this.1; omega⟩, news, ?_, fun i' j hi' hj => ?_⟩
                    · have := r2
                      rw [Nat.zero_add, List.nil_append, e1] at this
                      exact this
                    · obtain ⟨u, hu, hr⟩ := hcell2 i' j hi' hj
                      exact ⟨u, hu, hS.data _ _ _ hi' hj, hr.keep hk (hmg _)⟩)
                  exact wp_val r1 (hK _ _ _ g3 g2 (g1.weaken al64) (upd_same _ _ _))
                · rename_i l hex
                  rw [hex] at hx
                  have hx : g l = some (a.eval x) := hx
                  split at hout
                  · rename_i e' d1 hb
                    split at hout
                    · rename_i hee
                      have hee := Nat.eq_of_beq_eq_true hee
                      subst hee
                      split at hout
                      · rename_i d hcat
                        injection hout with hout
                        subst hout
                        obtain ⟨c1, c2, c3, c4, c5⟩ := hS.cat _ _ _ hcat
                        obtain ⟨v1, hv1, hm, xs, hown, hcell⟩ := h.bks l _ hb
                        rw [hx] at hv1
                        injection hv1 with hv1
                        have es : te.size = S.size d1 := by omega
                        rw [← es] at hown
                        obtain ⟨v', w', r1, r2, r3, r4⟩ := run v1 (S.len d1) xs hv1 hown hp
                        have hsl1 : ∃ a n c, v1 = .slice a n c := by rcases hown.2 with ⟨rfl, _⟩ | ⟨b, cp, cur, rfl, _⟩ <;> exact ⟨_, _, _, rfl⟩
                        have hsl' : ∃ a n c, v' = .slice a n c := by rcases r2.2 with ⟨rfl, _⟩ | ⟨b, cp, cur, rfl, _⟩ <;> exact ⟨_, _, _, rfl⟩
                        rw [own_blk v' hsl', own_blk v1 hsl1] at r4
                        rw [own_blk v1 hsl1] at r3
                        obtain ⟨g1, g2, g3⟩ := h.move (l := l) (fr := fr) (bk' := .row e d) (v := v1) (v' := v') (by rw [hb]; rfl) (hv1 ▸ hx) (hfr fr (Nat.le_refl _) (by omega)) r3.os r3.tape r3.output r3.size (fun n hn hne => r3.block n hn fun e => hne e.symm)
                          (fun b hb' => by
                            rcases r4 with r4 | r4
                            · exact .inl (r4 ▸ hb')
                            · rw [hb'] at r4; injection r4 with r4; exact .inr (by omega))
                          (fun M' hk _ => by
                            refine ⟨⟨fun b hb' => ?_, by have : roomP (S.len d1 + S.len d2) te.bytes := hp; have := this.1; omega⟩, xs ++ news, ?_, fun i' j hi' hj => ?_⟩
                            · rcases r4 with r4 | r4
                              · exact hm.1 b (r4 ▸ hb')
                              · rw [hb'] at r4; injection r4 with r4; exact .inl (r4 ▸ h.below.size)
                            · have := r2
                              rw [show te.size = S.size d by omega, ← c3] at this
                              exact this
                            · rw [c3] at hi'
                              have hxl : xs.length = S.len d1 * S.size d := by rw [hown.1]; congr 1; omega
                              by_cases hlt : i' < S.len d1
                              · obtain ⟨u, hu, hda, hr⟩ := hcell i' j hlt (by omega)
                                rw [c4 i' j hlt]
                                refine ⟨u, ?_, hda, hr.keep hk (hmg _)⟩
                                rw [List.getElem?_append_left (by rw [hxl]; exact row_lt hlt hj), ← hu, c1]
                              · obtain ⟨k, rfl⟩ : ∃ k, i' = S.len d1 + k := ⟨i' - S.len d1, by omega⟩
                                obtain ⟨u, hu, hr⟩ := hcell2 k j (by omega) (by omega)
                                rw [c5 k j (by omega)]
                                refine ⟨u, ?_, hS.data _ _ _ (by omega) (by omega), hr.keep hk (hmg _)⟩
                                rw [List.getElem?_append_right (by rw [hxl, Nat.add_mul]; omega), ← hu, hxl, Nat.add_mul, c2]
                                congr 1
                                omega)
                        exact wp_val r1 (hK _ _ _ g3 g2 (g1.weaken al64) (upd_same _ _ _))
                      · cases hout
                    · cases hout
                  · cases hout
                · cases hout
              · cases hout
    · cases hout
  · cases hout

theorem sound_strAt {t : TypeId} {x ix : Operand} (ho : o.op = .index t x ix) (hTy : ∀ t ty, T t = some ty → TyOk P t ty) (h : Hp S w0 N blk g al w) (hx : (opnd slot x).Rel S (Mset N blk g) w g (a.eval x))
    (hi : (opnd slot ix).Rel S (Mset N blk g) w g (a.eval ix)) (hout : xStrAt T t (opnd slot x) (opnd slot ix) = some out) (hp : preP out.pre) (hK : Post S w0 N blk g al w fr out o.dst a K) : o.wp P a w K Q := by
  unfold xStrAt at hout
  split at hout
  · cases hout
  · rename_i ty hty
    split at hout
    · rename_i s k n hex hei
      rw [hex] at hx
      rw [hei] at hi
      simp only [Sl.Rel, Sv.Rel, Lf.Rel] at hx hi
      obtain ⟨hx, hxl⟩ := hx
      split at hout
      · rename_i hk
        obtain ⟨d, hd, hkd⟩ := ty_kind (hTy _ _ hty)
        have hk : ty.kind = 3 := by simpa using hk
        rw [hk] at hkd
        have hd : P.underlying t = some .string := by cases d <;> simp_all [kindOf]
        injection hout with hout
        subst hout
        obtain ⟨p1, p2⟩ := hp
        have hlt : n.toNat < s.length := by omega
        refine wp_same (v := .int .u8 ((s.getD n.toNat 0).toNat : Nat)) ?_ h hK rfl rfl
        have hget : (ByteArray.mk s.toArray)[n.toNat]? = some (s.getD n.toNat 0) := by
          have hsz : n.toNat < (ByteArray.mk s.toArray).size := by show n.toNat < s.toArray.size; simpa using hlt
          rw [getElem?_pos (ByteArray.mk s.toArray) n.toNat hsz]
          congr 1
          show s.toArray[n.toNat] = _
          simp [List.getD, hlt]
        simp [execOp, ho, Instr.index, hi, asIntOf, run_underlying hd, hx, p1, hget]
      · cases hout
    · cases hout

theorem ikNo_noIk {k k' : IntKind} (h : noIk (ikNo k) = some k') : k = k' := by cases k <;> simp [ikNo, noIk] at h <;> exact h

theorem sound_conv {t dst : TypeId} {x : Operand} (ho : o.op = .convert t dst x) (hTy : ∀ t ty, T t = some ty → TyOk P t ty) (h : Hp S w0 N blk g al w) (hx : (opnd slot x).Rel S (Mset N blk g) w g (a.eval x))
    (hout : xConv T t dst (opnd slot x) = some out) (hp : preP out.pre) (hK : Post S w0 N blk g al w fr out o.dst a K) : o.wp P a w K Q := by
  unfold xConv at hout
  split at hout
  · rename_i tys ty k0 n htys hty hex
    rw [hex] at hx
    simp only [Sl.Rel, Sv.Rel, Lf.Rel] at hx
    split at hout
    · rename_i k hk
      injection hout with hout
      subst hout
      obtain ⟨d, hd, hkd⟩ := ty_kind (hTy _ _ hty)
      obtain ⟨d0, hd0, _⟩ := ty_kind (hTy _ _ htys)
      have hd : P.underlying dst = some (.int k) := by
        rw [← hkd] at hk
        cases d <;> simp [kindOf, noIk] at hk
        rw [hd, ikNo_noIk hk]
      refine wp_same (v := .int k (wrp k n)) ?_ h hK rfl rfl
      simp [execOp, ho, convert, run_underlying hd0, run_underlying hd, hx, Conv.intToInt, wrp]
    · cases hout
  · cases hout

theorem caps_of (hs : ∀ t, (slot t).Rel S (Mset N blk g) w g (a.tmps.getD t undef)) : ∀ (xs : List Operand) (ls : List Nat), capsOf slot xs = some ls → ls.map g = (xs.map a.eval).map some
  | [], ls, h => by simp [capsOf] at h; subst h; rfl
  | x :: r, ls, h => by
    unfold capsOf at h
    split at h
    · rename_i l ls' hx hr
      injection h with h
      subst h
      have := opnd_rel hs x
      rw [hx] at this
      obtain ⟨b, hg, hv⟩ := this
      simp only [List.map_cons, caps_of hs r ls' hr, hv, hg]
    · cases h

theorem sound_make {t : TypeId} {x y : Operand} (hS : ShOk S) (ho : o.op = .makeSlice t x y) (hTy : ∀ t ty, T t = some ty → TyOk P t ty) (h : Hp S w0 N blk g al w) (hfr : ∀ n, fr ≤ n → n < fr + 64 → ¬ al n) (hx : (opnd slot x).Rel S (Mset N blk g) w g (a.eval x))
    (hy : (opnd slot y).Rel S (Mset N blk g) w g (a.eval y)) (hout : xMake T S fr t (opnd slot x) (opnd slot y) = some out) (hp : preP out.pre) (hK : Post S w0 N blk g al w fr out o.dst a K) : o.wp P a w K Q := by
  unfold xMake at hout
  split at hout
  · cases hout
  · rename_i ty hty
    split at hout
    · cases hout
    · rename_i e hel
      split at hout
      · cases hout
      · rename_i te hte
        have hsl := ty_elem (hTy _ _ hty) hel
        obtain ⟨i, z, hi, hz, q1, q2, q3⟩ := ty_info (hTy _ _ hte)
        split at hout
        · rename_i k n k' m hex hey
          rw [hex] at hx
          rw [hey] at hy
          simp only [Sl.Rel, Sv.Rel, Lf.Rel] at hx hy
          split at hout
          · rename_i hc
            simp only [Bool.and_eq_true] at hc
            have e2 : 0 < te.size := by simpa [Nat.blt_eq] using hc.1
            have e3 := Nat.eq_of_beq_eq_true hc.2
            have hzs : z.cells.size = te.size := by rw [← e3, ← q3]; simp
            split at hout
            · rename_i d hd
              injection hout with hout
              subst hout
              obtain ⟨rfl, p1, p2, p3⟩ := hp
              obtain ⟨z1, z2, z3⟩ := hS.zero _ _ _ _ hd
              have hsd : S.size d = te.size := by rw [← z2, List.length_map, e3]
              have hrun := run_make (P := P) w t e i z hsl hi hz k k' n n p1 (Int.le_refl _) (by rw [q2, Int.mul_comm]; exact p2) (by omega)
              have hrun' : (execOp a.eval o).run P w = .ok (.value (.slice (some ⟨w.heap.size, 0, none⟩) n.toNat n.toNat)) (w.alloc (.cells (madeCells z.cells (n.toNat * i.size)) e)) := by
                simp only [execOp, ho, hx, hy, Sem.run_bind, hrun, Result.andThen_ok, Sem.run_pure]
              have hB : Below w.heap.size w (w.alloc (.cells (madeCells z.cells (n.toNat * i.size)) e)) := (Below.refl w.heap.size w).alloc (Nat.le_refl _) _
              obtain ⟨g1, g2, g3⟩ := h.add (l := fr) (bk := .row e d) (v := .slice (some ⟨w.heap.size, 0, none⟩) n.toNat n.toNat) hB (hfr fr (Nat.le_refl _) (by omega)) (fun b hb => by simp [blkOf] at hb; omega)
                (fun M' hk _ => by
                  refine ⟨⟨fun b hb => .inl ?_, by rw [z1]; omega⟩, (madeCells z.cells (n.toNat * i.size)).toList, ⟨?_, .inr ⟨w.heap.size, n.toNat, _, by rw [z1], Nat.zero_le _, heap_alloc_new w _, by omega, by simp only [maxLen]; omega, ?_, ?_⟩⟩, fun i' j hi' hj => ?_⟩
                  · simp only [blkOf, Option.some.injEq] at hb
                    have := h.below.size
                    omega
                  · rw [Array.length_toList, size_madeCells, z1, hsd, q1]
                  · rw [size_madeCells, hsd, q1]
                  · rw [List.take_of_length_le]
                    rw [Array.length_toList, size_madeCells, z1, hsd, q1]
                    exact Nat.le_refl _
                  · rw [z1] at hi'
                    obtain ⟨x0, hx0, hle⟩ := z3 i' j hi' hj
                    have hlt := row_lt hi' hj
                    have hjz : j < z.cells.size := by omega
                    have hmod : (i' * S.size d + j) % z.cells.size = j := by rw [hzs, ← hsd, Nat.mul_comm, Nat.mul_add_mod, Nat.mod_eq_of_lt hj]
                    refine ⟨z.cells[j], ?_, hS.data _ _ _ (by omega) hj, hle.rel ?_⟩
                    · have hlt' : i' * S.size d + j < n.toNat * i.size := by rw [q1, ← hsd]; exact hlt
                      simp [madeCells, hlt', hmod, hjz]
                    · have hzj : te.zero[j]? = some z.cells[j] := by rw [← q3]; simp [hjz]
                      simp only [List.getElem?_map, hzj, Option.map_some, Option.some.injEq] at hx0
                      rw [← hx0]
                      exact (ofLf_rel _).norm)
              exact wp_val hrun' (hK _ _ _ g3 g2 (g1.weaken al64) (upd_same _ _ _))
            · cases hout
          · cases hout
        · cases hout
end
end Go.Vc
