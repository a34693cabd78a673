/-
  Own engine, part 14: from a law's contract to what its row asks: the arguments as they were read before and behind.
-/
import Derived.Test.YthknholdgnfkmaaVcd
import Derived.ProofKit
import Derived.OpenShut
import Derived.Lib.SmallJoins
namespace Go.Vc
open Go.RowKit Go.ChangeShapes Go.WideShapes Go.ChangeAt Go.Joins
set_option linter.unusedVariables false

section
variable {H : Type} {enc : TypeId × Value → H} {P : Program} {W W' : World}

theorem trodAll_below (hl : laidOutB P = true) (hb : Below W.heap.size W W') : ∀ {ts : List TypeId} {vs : List Value} {ds : List (DataW H)} {ps : List MemPlace}, (ts.all fun t => P.readableRec t && decide (t < P.types.size)) = true →
    DataW.TrodAll enc P W 0 (fun _ => true) true ts vs ds ps → DataW.TrodAll enc P W' 0 (fun b => decide (b < W.heap.size)) true ts vs ds ps
  | [], vs, ds, ps, _, h => by
    obtain ⟨rfl, rfl, rfl⟩ := trodAll_nil h
    exact trodAll_mk0
  | t :: ts, vs, ds, ps, ht, h => by
    simp only [List.all_cons, Bool.and_eq_true, decide_eq_true_eq] at ht
    obtain ⟨v, vs', d, ds', p, q, rfl, rfl, rfl, h1, h2⟩ := trodAll_cons h
    have lt : ∀ x ∈ p, x.block < W.heap.size := by obtain ⟨m, hm⟩ := h1; exact DataW.trod_lt m _ _ _ hm
    exact trodAll_cons_mk (Below.trod hl ht.1.1 ht.1.2 h1 hb lt) (trodAll_below hl hb ht.2 h2)

theorem wf_in {k : IntKind} {n : Int} (h : (Lit.int k n).wf = true) : InR k n := by
  cases k <;> simp [Lit.wf, IntKind.min, IntKind.max, IntKind.signed, IntKind.bits] at h <;> simp only [InR] <;> omega

end

def NoN : Nat → Prop := fun _ => False
theorem noN_lt {W : World} : ∀ b, NoN b → b < W.heap.size := fun _ h => h.elim

section
variable {D : Type} {S : Sh D} {w : World}
/-- A slice whose cells are known, as a datum. -/
theorem datOk_cells {d : D} {a : Option Addr} {n cap : Nat} (hn : n = S.len d) (hcap : n ≤ cap) (U : Nat → Nat → Value)
    (hcell : ∀ i j, i < S.len d → j < S.size d → ∃ ad, a = some ad ∧ w.cell? (ad.add (i * S.size d + j)) = some (U i j))
    (hpl : ∀ i j, i < S.len d → j < S.size d → Lf.plain (S.cell d i j) (U i j))
    (hdat : ∀ i j d', i < S.len d → j < S.size d → S.cell d i j = .dat d' → DatOk S NoN w d' (U i j)) : DatOk S NoN w d (.slice a n cap) := by
  intro w' hs
  subst hn
  refine DRel.mk d a cap U hcap (fun i j hi hj => ?_) hpl (fun i j d' hi hj he => hdat i j d' hi hj he w' hs)
  obtain ⟨ad, ha, hc⟩ := hcell i j hi hj
  refine ⟨ad, ha, ?_⟩
  have hb : (ad.add (i * S.size d + j)).block < w.heap.size := by
    rcases Nat.lt_or_ge (ad.add (i * S.size d + j)).block w.heap.size with h | h
    · exact h
    · simp [World.cell?, Array.getElem?_eq_none h] at hc
  rw [← hc]
  exact World.cell?_of_block (hs _ hb (fun h => h))
end
end Go.Vc
