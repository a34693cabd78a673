/-
  Own engine, part 19: from a law's contract to what its row asks: the arguments as they were read before and behind.
-/
import Derived.Test.YtemjcccdcnhmhaaGreatDoorVdq
import Derived.ProofKit
import Derived.OpenShut
import Derived.Lib.SmallJoins
namespace Go.Vc
open Go.RowKit Go.ChangeShapes Go.WideShapes Go.ChangeAt Go.Joins
set_option linter.unusedVariables false
set_option linter.unusedSimpArgs false

section
variable {H : Type} {enc : TypeId × Value → H} {P : Program} {W W' : World}

theorem trodAll_below (hl : laidOutB P = true) (hb : Below W.heap.size W W') : ∀ {ts : List TypeId} {vs : List Value} {ds : List (DataW H)} {ps : List MemPlace}, (ts.all fun t => P.readableRec t && decide (t < P.types.size)) = true →
    DataW.TrodAll enc P W 0 (fun _ => true) true ts vs ds ps → DataW.TrodAll enc P W' 0 (fun b => decide (b < W.heap.size)) true ts vs ds ps
  | [], vs, ds, ps, _, h => by
    obtain ⟨rfl, rfl, rfl⟩ := trodAll_nil h
    exact trodAll_mk0
  | t :: ts, vs, ds, ps, ht, h => by
    simp only [List.all_cons, Bool.and_eq_true, decide_eq_true_eq] at ht
    obtain ⟨v, vs', d, ds', p, q, rfl, rfl, rfl, h1, h2⟩ := trodAll_cons h
    have lt : ∀ x ∈ p, x.block < W.heap.size := by obtain ⟨m, hm⟩ := h1; exact DataW.trod_lt m _ _ _ hm
    exact trodAll_cons_mk (Below.trod hl ht.1.1 ht.1.2 h1 hb lt) (trodAll_below hl hb ht.2 h2)

theorem wf_in {k : IntKind} {n : Int} (h : (Lit.int k n).wf = true) : InR k n := by
  cases k <;> simp [Lit.wf, IntKind.min, IntKind.max, IntKind.signed, IntKind.bits] at h <;> simp only [InR] <;> omega
end

def NoN : Nat → Prop := fun _ => False

section
variable {D α β : Type} {S : Sh D} {P : Program}

/-- A slice whose cells are known, as a datum. -/
theorem datOk_cells {w : World} {d : D} {a : Option Addr} {n cap : Nat} (hn : n = S.len d) (hcap : n ≤ cap) (hlen : n ≤ 9223372036854775807) (U : Nat → Nat → Value)
    (hcell : ∀ i j, i < S.len d → j < S.size d → ∃ ad, a = some ad ∧ w.cell? (ad.add (i * S.size d + j)) = some (U i j))
    (hpl : ∀ i j, i < S.len d → j < S.size d → Lf.plain (S.cell d i j) (U i j))
    (hdat : ∀ i j d', i < S.len d → j < S.size d → S.cell d i j = .dat d' → DatOk S NoN w d' (U i j)) : DatOk S NoN w d (.slice a n cap) := by
  intro w' hs
  subst hn
  refine DRel.mk d a cap U hcap hlen (fun i j hi hj => ?_) hpl (fun i j d' hi hj he => hdat i j d' hi hj he w' hs)
  obtain ⟨ad, ha, hc⟩ := hcell i j hi hj
  refine ⟨ad, ha, ?_⟩
  have hb : (ad.add (i * S.size d + j)).block < w.heap.size := by
    rcases Nat.lt_or_ge (ad.add (i * S.size d + j)).block w.heap.size with h | h
    · exact h
    · simp [World.cell?, Array.getElem?_eq_none h] at hc
  rw [← hc]
  exact World.cell?_of_block (hs _ hb (fun h => h))

/-- What is read of a type is typed data. -/
def Opens (P : Program) (S : Sh D) (t : TypeId) (c : Cod D α) (good : α → Prop) : Prop :=
  ∀ {H : Type} {enc : TypeId × Value → H} {w : World} {base : Nat} {spare : Nat → Bool} {held : Bool} {fuel : Nat} {cs : List Value} {x : DataW H × List MemPlace},
    DataW.trod enc P w base spare held fuel t cs = some x → ∃ a, LfsRel S NoN w noG (c.enc a) cs ∧ good a

theorem opens_int {t : TypeId} {k : IntKind} (ht : P.underlying t = some (.int k)) : Opens P S t (cInt k) (InR k) := by
  intro H enc w base spare held fuel cs x h
  obtain ⟨n, rfl, _, hw⟩ := DataW.trod_int ht h
  exact ⟨n, ⟨rfl, trivial⟩, wf_in hw⟩
theorem opens_bool {t : TypeId} (ht : P.underlying t = some .bool) : Opens P S t cBool fun _ => True := by
  intro H enc w base spare held fuel cs x h
  obtain ⟨b, rfl, _⟩ := DataW.trod_bool ht h
  exact ⟨b, ⟨rfl, trivial⟩, trivial⟩
theorem opens_str {t : TypeId} (ht : P.underlying t = some .string) : Opens P S t cStr fun s => s.length ≤ 9223372036854775807 := by
  intro H enc w base spare held fuel cs x h
  obtain ⟨s, rfl, _, hs⟩ := DataW.trod_string ht h
  have hl : s.data.toList.length ≤ 9223372036854775807 := by
    unfold maxLen at hs
    have h2 : s.data.toList.length = s.size := Array.length_toList
    rw [h2]
    exact hs
  refine ⟨s.data.toList, ⟨⟨?_, hl⟩, trivial⟩, hl⟩
  cases s
  simp

theorem LfsRel.app {M : Nat → Prop} {w : World} {g : Nat → Option Value} : ∀ {xs ys : List (Lf D)} {us vs : List Value}, LfsRel S M w g xs us → LfsRel S M w g ys vs → LfsRel S M w g (xs ++ ys) (us ++ vs)
  | [], _, [], _, _, k => k
  | _ :: _, _, _ :: _, _, h, k => ⟨h.1, LfsRel.app h.2 k⟩

/-- The fields of a struct, from a cell on. -/
def OpensF (P : Program) (S : Sh D) (fs : List Field) (off : Nat) (c : Cod D α) (good : α → Prop) : Prop :=
  ∀ {H : Type} {enc : TypeId × Value → H} {w : World} {base : Nat} {spare : Nat → Bool} {held : Bool} {m : Nat} {cs : List Value},
    (∀ f ∈ fs, ∃ x : DataW H × List MemPlace, DataW.trod enc P w base spare held m f.type ((cs.drop f.offset).take (P.cellsOf f.type)) = some x) → cs.length = off + c.n → ∃ a, LfsRel S NoN w noG (c.enc a) (cs.drop off) ∧ good a
theorem opensF_one {f : Field} {off : Nat} {c : Cod D α} {good : α → Prop} (ho : f.offset = off) (hn : P.cellsOf f.type = c.n) (h : Opens P S f.type c good) : OpensF P S [f] off c good := by
  intro H enc w base spare held m cs hf hl
  obtain ⟨x, hx⟩ := hf f (by simp)
  rw [ho, hn, List.take_of_length_le (by simp; omega)] at hx
  exact h hx
theorem opensF_cons {f : Field} {fs : List Field} {off : Nat} {c : Cod D α} {d : Cod D β} {good : α → Prop} {good' : β → Prop} (ho : f.offset = off) (hn : P.cellsOf f.type = c.n) (h : Opens P S f.type c good) (hr : OpensF P S fs (off + c.n) d good') :
    OpensF P S (f :: fs) off (cPair c d) fun p => good p.1 ∧ good' p.2 := by
  intro H enc w base spare held m cs hf hl
  obtain ⟨x, hx⟩ := hf f (by simp)
  rw [ho, hn] at hx
  obtain ⟨a, ha, hga⟩ := h hx
  obtain ⟨b, hb, hgb⟩ := hr (fun f' hf' => hf f' (by simp [hf'])) (by simp only [cPair] at hl; omega)
  refine ⟨(a, b), ?_, hga, hgb⟩
  have := LfsRel.app ha hb
  rw [← List.drop_drop, List.take_append_drop] at this
  exact this
theorem opens_struct {t : TypeId} {fs : Array Field} {c : Cod D α} {good : α → Prop} {f : α → β} {g : β → α} (ht : P.underlying t = some (.struct fs)) (hn : P.cellsOf t = c.n) (hg : ∀ a, g (f a) = a) (h : OpensF P S fs.toList 0 c good) :
    Opens P S t (cIso c f g) fun b => good (g b) := by
  intro H enc w base spare held fuel cs x hx
  obtain ⟨xs, m, _, _, hl, hlen, hf⟩ := DataW.trod_struct ht hx
  obtain ⟨a, ha, hga⟩ := h (m := m) (cs := cs) (fun f' hf' => by
    obtain ⟨i, hi⟩ := List.getElem?_of_mem hf'
    have hi' : fs[i]? = some f' := by simpa using hi
    have hlt : i < xs.length := by rw [hlen]; exact (Array.getElem?_eq_some_iff.1 hi').1
    exact ⟨xs[i], by rw [hf i f' hi']; simp [hlt]⟩) (by rw [hl, hn]; omega)
  exact ⟨f a, by simp only [cIso, hg]; simpa using ha, by show good (g (f a)); rw [hg]; exact hga⟩

theorem list_of' {Q : Nat → α → Prop} : ∀ n, (∀ i, i < n → ∃ a, Q i a) → ∃ l : List α, l.length = n ∧ ∀ (i : Nat) (h : i < l.length), Q i l[i]
  | 0, _ => ⟨[], rfl, fun i h => by simp at h⟩
  | n + 1, h => by
    obtain ⟨l, hl, hq⟩ := list_of' n fun i hi => h i (by omega)
    obtain ⟨a, ha⟩ := h n (by omega)
    refine ⟨l ++ [a], by simp [hl], fun i hi => ?_⟩
    by_cases hlt : i < l.length
    · rw [List.getElem_append_left hlt]; exact hq i hlt
    · have : i = l.length := by simp at hi; omega
      subst this
      simp only [List.getElem_append_right (Nat.le_refl _), Nat.sub_self, List.getElem_cons_zero]
      rw [hl]; exact ha

theorem LfsRel.getD' {M : Nat → Prop} {w : World} {g : Nat → Option Value} {xs : List (Lf D)} {vs : List Value} {j : Nat} (h : LfsRel S M w g xs vs) (hj : j < xs.length) : ∃ v, vs[j]? = some v ∧ (xs.getD j .any).Rel S M w g v := by
  have : xs[j]? = some (xs.getD j .any) := by simp [List.getD, hj]
  exact LfsRel.get j h this

theorem opens_slice {t e : TypeId} {ce : Cod D α} {good : α → Prop} {inj : List α → D} {prj : D → Option (List α)} {dflt : α} (ht : P.underlying t = some (.slice e)) (hn : P.cellsOf e = ce.n) (hce : CodOk S ce) (h : Opens P S e ce good)
    (h1 : ∀ l, S.size (inj l) = ce.n) (h2 : ∀ l, S.len (inj l) = l.length) (h3 : ∀ l i j, S.cell (inj l) i j = (ce.enc (l.getD i dflt)).getD j .any) :
    Opens P S t (cDat inj prj []) fun l => l.length ≤ 9223372036854775807 ∧ ∀ a ∈ l, good a := by
  intro H enc w base spare held fuel cs x hx
  rcases DataW.trod_slice ht hx with ⟨rfl, _⟩ | ⟨ad, len, cap, elems, rest, m, _, rfl, _, hb, hl, hm, hlen, hel, _, _⟩
  · refine ⟨[], ⟨?_, trivial⟩, by simp, fun a ha => by simp at ha⟩
    have hz : S.len (inj []) = 0 := h2 []
    intro w' _
    have := DRel.mk (S := S) (w := w') (inj []) none 0 (fun _ _ => .bool false) (by omega) (by omega) (fun i j hi _ => by omega) (fun i j hi _ => by omega) (fun i j _ hi _ => by omega)
    rwa [hz] at this
  · have each : ∀ i, i < len → ∃ a, (∃ vs, w.cells? base (ad.add (i * ce.n)) ce.n = some vs ∧ LfsRel S NoN w noG (ce.enc a) vs) ∧ good a := by
      intro i hi
      have := hel i hi
      have hlt : i < elems.length := by omega
      rw [List.getElem?_eq_getElem hlt, hn, Option.bind_eq_some_iff] at this
      obtain ⟨vs, hv, hy⟩ := this
      obtain ⟨a, ha, hga⟩ := h hy
      exact ⟨a, ⟨vs, hv, ha⟩, hga⟩
    obtain ⟨l, hll, hq⟩ := list_of' len each
    refine ⟨l, ⟨?_, trivial⟩, by unfold maxLen at hm; omega, fun a ha => ?_⟩
    · have key : ∀ i j, i < l.length → j < ce.n → ∃ u, w.cell? (ad.add (i * ce.n + j)) = some u ∧ ((ce.enc (l.getD i dflt)).getD j .any).Rel S NoN w noG u ∧ ((ce.enc (l.getD i dflt)).getD j .any).isData = true := by
        intro i j hi hj
        obtain ⟨⟨vs, hv, hr⟩, _⟩ := hq i hi
        obtain ⟨_, hvl, hcell⟩ := World.cells?_some hv
        rw [getD_some hi]
        obtain ⟨u, hu, hur⟩ := hr.getD' (j := j) (by rw [hce.len]; exact hj)
        have := hcell j hj
        rw [add_add', hu] at this
        refine ⟨u, this, hur, ?_⟩
        have hlt : j < (ce.enc l[i]).length := by rw [hce.len]; exact hj
        rw [getD_some hlt]
        exact hce.data _ _ (List.getElem_mem hlt)
      have U : ∀ i j, ∃ u, i < l.length → j < ce.n → w.cell? (ad.add (i * ce.n + j)) = some u ∧ ((ce.enc (l.getD i dflt)).getD j .any).Rel S NoN w noG u ∧ ((ce.enc (l.getD i dflt)).getD j .any).isData = true := by
        intro i j
        by_cases hi : i < l.length
        · by_cases hj : j < ce.n
          · obtain ⟨u, hu⟩ := key i j hi hj
            exact ⟨u, fun _ _ => hu⟩
          · exact ⟨undef, fun _ h => absurd h hj⟩
        · exact ⟨undef, fun h => absurd h hi⟩
      have := datOk_cells (S := S) (w := w) (d := inj l) (a := some ad) (n := len) (cap := cap) (by rw [h2, hll]) hl (by unfold maxLen at hm; omega) (fun i j => Classical.choose (U i j)) (fun i j hi hj => ?_) (fun i j hi hj => ?_) (fun i j d' hi hj he => ?_)
      · exact this
      · rw [h2] at hi
        rw [h1] at hj ⊢
        exact ⟨ad, rfl, (Classical.choose_spec (U i j) hi hj).1⟩
      · rw [h2] at hi
        rw [h1] at hj
        rw [h3 l i j]
        obtain ⟨_, hr, hd⟩ := Classical.choose_spec (U i j) hi hj
        exact (data_plain (w' := w) hd hr (fun _ _ _ => rfl)).1
      · rw [h2] at hi
        rw [h1] at hj
        rw [h3 l i j] at he
        have hr := (Classical.choose_spec (U i j) hi hj).2.1
        generalize Classical.choose (U i j) = u at hr ⊢
        rw [he] at hr
        exact hr
    · obtain ⟨i, hi, rfl⟩ := List.getElem_of_mem ha
      exact (hq i hi).2

/-! ### the parameters of a law -/
def OpenV (P : Program) (S : Sh D) (t : TypeId) (c : Arg D α) (good : α → Prop) : Prop :=
  ∀ {H : Type} {enc : TypeId × Value → H} {w : World} {r : Reach} {base : Nat} {v : Value} {d : DataW H} {ps : List MemPlace}, Value.okWide P w r base t v → DataW.Trod enc P w 0 (fun _ => true) true t v d ps → ∃ a, (c.enc a).Rel S NoN w noG v ∧ good a
def scal : TypeDesc → Bool
  | .int _ | .bool | .string | .slice _ => true
  | _ => false
theorem openV_lf {t : TypeId} {td : TypeDesc} {c : Cod D α} {good : α → Prop} (ht : P.underlying t = some td) (hs : scal td = true) (hc : CodOk S c) (hn : c.n = 1) (h : Opens P S t c good) : OpenV P S t (aLf c) good := by
  intro H enc w r base v d ps hval hd
  obtain ⟨fuel, hf⟩ := hd
  have hv : v.cells.toList = [v] := by
    simp only [Value.okWide, ht] at hval
    cases td <;> simp [scal] at hs
    all_goals (simp only [Cell.okWide, ht] at hval; cases v <;> simp_all [Cell.ok, Value.cells])
  rw [hv] at hf
  obtain ⟨a, ha, hg⟩ := h hf
  refine ⟨a, ?_, hg⟩
  have hl := hc.len a
  simp only [aLf]
  generalize c.enc a = xs at ha hl
  cases xs with
  | nil => exact ha.elim
  | cons x xs =>
    cases xs with
    | cons _ _ => simp [hn] at hl
    | nil => exact ha.1
theorem openV_agg {t : TypeId} {fs : Array Field} {c : Cod D α} {good : α → Prop} (ht : P.underlying t = some (.struct fs)) (h : Opens P S t c good) : OpenV P S t (aAgg c) good := by
  intro H enc w r base v d ps hval hd
  obtain ⟨fuel, hf⟩ := hd
  simp only [Value.okWide, ht] at hval
  obtain ⟨cs, rfl, _⟩ := hval
  obtain ⟨a, ha, hg⟩ := h hf
  exact ⟨a, ⟨cs.toList, by simp, by simpa [Value.cells] using ha⟩, hg⟩

def OpenA (P : Program) (S : Sh D) (ts : List TypeId) (c : ACod D α) (good : α → Prop) : Prop :=
  ∀ {H : Type} {enc : TypeId × Value → H} {w : World} {r : Reach} {base : Nat} {vs : List Value} {ds : List (DataW H)} {ps : List MemPlace}, (∀ (j : Nat) t v, ts[j]? = some t → vs[j]? = some v → Value.okWide P w r base t v) →
    DataW.TrodAll enc P w 0 (fun _ => true) true ts vs ds ps → ∃ a, SlsRel S NoN w noG (c.enc a) vs ∧ good a
theorem openA_1 {t : TypeId} {c : Arg D α} {good : α → Prop} (h : OpenV P S t c good) : OpenA P S [t] (a1 c) good := by
  intro H enc w r base vs ds ps hval hA
  obtain ⟨v, vs', d, ds', p, q, rfl, rfl, rfl, h1, h2⟩ := trodAll_cons hA
  obtain ⟨rfl, rfl, rfl⟩ := trodAll_nil h2
  obtain ⟨a, ha, hg⟩ := h (hval 0 t v rfl rfl) h1
  exact ⟨a, ⟨ha, trivial⟩, hg⟩
theorem openA_cons {t : TypeId} {ts : List TypeId} {c : Arg D α} {r : ACod D β} {good : α → Prop} {good' : β → Prop} (h : OpenV P S t c good) (hr : OpenA P S ts r good') : OpenA P S (t :: ts) (aCons c r) fun p => good p.1 ∧ good' p.2 := by
  intro H enc w r base vs ds ps hval hA
  obtain ⟨v, vs', d, ds', p, q, rfl, rfl, rfl, h1, h2⟩ := trodAll_cons hA
  obtain ⟨a, ha, hg⟩ := h (hval 0 t v rfl rfl) h1
  obtain ⟨b, hb, hgb⟩ := hr (fun j t' v' h1 h2 => hval (j + 1) t' v' (by simpa using h1) (by simpa using h2)) h2
  exact ⟨(a, b), ⟨ha, hb⟩, hg, hgb⟩

def rsLaw : Shp D := shr [.slot 0 false [none]] (l1 cBool)

/-- A law's call. -/
theorem law_callsG {f : FuncId} {c : ACod D α} {pre : α → Option Prop} {good : α → Prop} {ts : List TypeId} (hok : CtOk P S f (ctN (args c) rsLaw 1 [] pre (fun _ => true))) (hdec : ∀ a, c.dec (c.enc a) = some a) (hopen : OpenA P S ts c good)
    (hpre : ∀ a, good a → preP (pre a)) {H : Type} {enc : TypeId × Value → H} {w : World} {r : Reach} {base : Nat} {vs : List Value} {ds : List (DataW H)} {ps : List MemPlace}
    (hgl : GlOk S NoN w) (hval : ∀ (j : Nat) t v, ts[j]? = some t → vs[j]? = some v → Value.okWide P w r base t v) (hA : DataW.TrodAll enc P w 0 (fun _ => true) true ts vs ds ps) :
    Calls P f vs.toArray w fun e w' => e = .returned (.bool true) ∧ Below w.heap.size w w' := by
  obtain ⟨a, hr, hg⟩ := hopen hval hA
  have hM : Mset NoN (tabOf ([] : List (Bk D))) noG = NoN := by
    funext b
    simp [Mset, tabOf, hot]
  have hp : Hp S ⟨w, fun _ => False⟩ NoN (tabOf ([] : List (Bk D))) noG (· < ([] : List (Bk D)).length) w :=
    ⟨BelowX.refl ⟨w, fun _ => False⟩, fun b hb => hb.elim, fun l bk h => by simp [tabOf] at h, fun l l' v v' b h => by simp [tabOf, hot] at h, fun l v h => by simp [noG] at h, fun l v h => by simp [noG] at h, by rw [hM]; exact hgl⟩
  refine (hok.calls (fun _ => False) NoN noG w vs (c.enc a) [] (pre a) (.one (.lf (.bool true))) [] [] hp (by rw [hM]; exact hr) ?_ (hpre a hg)).mono ?_
  · show ctN (args c) rsLaw 1 [] pre (fun _ => true) (c.enc a) [] = _
    unfold ctN
    have : (args c).dec (c.enc a) [] = some a := hdec a
    rw [this]
    rfl
  · rintro e w' ⟨v, g', rfl, _, hp', hv⟩
    have hv : v = .bool true := hv
    exact ⟨by rw [hv], ⟨hp'.below.os, hp'.below.tape, hp'.below.output, hp'.below.size, fun k hk => hp'.below.block k hk (fun h => h)⟩⟩
theorem law_calls {f : FuncId} {c : ACod D α} {pre : α → Option Prop} {good : α → Prop} {ts : List TypeId} (hok : CtOk P S f (ctN (args c) rsLaw 1 [] pre (fun _ => true))) (hdec : ∀ a, c.dec (c.enc a) = some a) (hopen : OpenA P S ts c good)
    (hpre : ∀ a, good a → preP (pre a)) (hno : S.glob = fun _ => none) {H : Type} {enc : TypeId × Value → H} {w : World} {r : Reach} {base : Nat} {vs : List Value} {ds : List (DataW H)} {ps : List MemPlace}
    (hval : ∀ (j : Nat) t v, ts[j]? = some t → vs[j]? = some v → Value.okWide P w r base t v) (hA : DataW.TrodAll enc P w 0 (fun _ => true) true ts vs ds ps) :
    Calls P f vs.toArray w fun e w' => e = .returned (.bool true) ∧ Below w.heap.size w w' :=
  law_callsG hok hdec hopen hpre (fun i d h => by rw [hno] at h; cases h) hval hA
end
end Go.Vc
