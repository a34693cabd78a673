/-
  Intercept: the table of codes.
-/
import Derived.Test.YtemjcccdcnhmhaaGreatDoorA
import Derived.Test.YtemjcccdcnhmhaaGreatDoorTie
import Derived.Test.YtemjcccdcnhmhaaGreatDoorEng9
import Derived.ProofKit
import Derived.OpenShut
import Derived.LaidMore
import Derived.Lay
import Derived.SevenTiedAt
import Derived.Stop.Joined
import Derived.ChangeOld
import Derived.ChangeSlices
import Derived.Lib.SmallJoins
namespace Go.Proofs.YtemjcccdcnhmhaaGreatDoor
open Go.ChangeShapes Go.WideShapes Go.ChangeAt Go.RowKit Go.Joins Go.Vc
set_option linter.unusedVariables false
set_option linter.unusedSimpArgs false
set_option maxRecDepth 100000



def laidL : List (String × DataW Unit) := [("unicode/utf8.acceptRanges", Rows.laid_unicode_utf8_acceptRanges), ("wireschema/status.codes", Rows.laid_wireschema_status_codes), ("unicode/utf8.first", Rows.laid_unicode_utf8_first)]
def codesZ : List (Int × Int) := [(0, 0), (23, 3), (21, 6), (22, 7), (3, 7), (17, 7), (10, 4), (9, 5), (20, 8), (24, 9), (25, 13), (11, 11), (19, 11)]
theorem codes_cell {W : World} (h : laidMetH Tryz.prog laidL W) (i : Nat) (hi : i < 13) :
    W.cell? ⟨0, i * 2, none⟩ = some (.int .i64 (codesZ.getD i (0, 0)).1) ∧ W.cell? ⟨0, i * 2 + 1, none⟩ = some (.int .i64 (codesZ.getD i (0, 0)).2) := by
  rw [MakeChecks.laidMetH_plain _ _ _ (by kernel_rfl)] at h
  obtain ⟨ps, ⟨_, _, _, _, _, _, _, _, _, _, ⟨g, t, cs, fuel, p, q, hg, ht, hv, hd, _, _⟩, _⟩, _, _⟩ := h
  obtain rfl := Option.some.inj ((show Tryz.prog.globalNamed "wireschema/status.codes" = some 0 by kernel_rfl).symm.trans hg)
  obtain rfl := Option.some.inj ((show (Tryz.prog.globals[0]?).map (·.type) = some 125 by kernel_rfl).symm.trans ht)
  obtain ⟨xs, m, _, ex, _, hl, hel⟩ := DataW.trod_array Tryz.underlying125 hd
  have c124 : Tryz.prog.cellsOf 124 = 2 := by kernel_rfl
  have c54 : Tryz.prog.cellsOf 54 = 1 := by kernel_rfl
  have c3 : Tryz.prog.cellsOf 3 = 1 := by kernel_rfl
  have hE := hel i hi
  rw [c124, List.getElem?_eq_getElem (by omega)] at hE
  obtain ⟨ys, m2, _, ey, _, hyl, hf⟩ := DataW.trod_struct Tryz.underlying124 hE
  have f0 : DataW.trod (fun _ => ()) Tryz.prog W 0 (fun _ => true) false m2 54 ((((cs.toList.drop (i * 2)).take 2).drop 0).take (Tryz.prog.cellsOf 54)) = ys[0]? := hf 0 _ rfl
  have f1 : DataW.trod (fun _ => ()) Tryz.prog W 0 (fun _ => true) false m2 3 ((((cs.toList.drop (i * 2)).take 2).drop 1).take (Tryz.prog.cellsOf 3)) = ys[1]? := hf 1 _ rfl
  have hyl2 : ys.length = 2 := hyl
  rw [c54] at f0
  rw [c3] at f1
  rw [List.getElem?_eq_getElem (by omega)] at f0 f1
  obtain ⟨z0, e0, g0, _⟩ := DataW.trod_int Tryz.underlying54 f0
  obtain ⟨z1, e1, g1, _⟩ := DataW.trod_int Tryz.underlying3 f1
  have e3 : (xs.map (·.1)) = codesZ.map fun n => (DataW.agg [.lit (.int .i64 n.1), .lit (.int .i64 n.2)] : DataW Unit) := (DataW.agg.inj (Prod.mk.inj ex).1).symm
  have hzl : codesZ.length = 13 := rfl
  have e4 : (xs.map (·.1))[i]? = (codesZ.map fun n => (DataW.agg [.lit (.int .i64 n.1), .lit (.int .i64 n.2)] : DataW Unit))[i]? := by rw [e3]
  rw [List.getElem?_map, List.getElem?_map, List.getElem?_eq_getElem (by omega : i < xs.length), List.getElem?_eq_getElem (by omega : i < codesZ.length), ey] at e4
  have hys : ys = [ys[0], ys[1]] := by
    match ys, hyl2 with
    | [a, b], _ => rfl
  rw [hys, g0, g1] at e4
  have hz : z0 = (codesZ.getD i (0, 0)).1 ∧ z1 = (codesZ.getD i (0, 0)).2 := by
    simp only [Option.map_some, Option.some.injEq, List.map_cons, List.map_nil, DataW.agg.injEq, List.cons.injEq, DataW.lit.injEq, Lit.int.injEq, true_and, and_true] at e4
    rw [List.getD, List.getElem?_eq_getElem (by omega : i < codesZ.length)]
    exact e4
  have k0 : cs.toList[i * 2]? = some (.int .i64 z0) := by
    have h0 : ((((cs.toList.drop (i * 2)).take 2).drop 0).take 1)[0]? = some (.int .i64 z0) := by rw [e0]; rfl
    simpa using h0
  have k1 : cs.toList[i * 2 + 1]? = some (.int .i64 z1) := by
    have h0 : ((((cs.toList.drop (i * 2)).take 2).drop 1).take 1)[0]? = some (.int .i64 z1) := by rw [e1]; rfl
    simpa [List.getElem?_take, List.getElem?_drop] using h0
  rw [World.var?_cell hg hv, World.var?_cell hg hv, ← hz.1, ← hz.2]
  exact ⟨by simpa using k0, by simpa using k1⟩
theorem laid_heap {w w' : World} (hh : w.heap = w'.heap) (h : laidMetH Tryz.prog laidL w) : laidMetH Tryz.prog laidL w' := h.of_heap hh
theorem gl_ok {W : World} (h : laidMetH Tryz.prog laidL W) : GlOk S NoN W := by
  intro i d hd w' hw
  have hm : (i, d) ∈ globs := lk_mem hd
  have h1 : (i, d) = (0, D.anon124 [⟨0, 0⟩, ⟨23, 3⟩, ⟨21, 6⟩, ⟨22, 7⟩, ⟨3, 7⟩, ⟨17, 7⟩, ⟨10, 4⟩, ⟨9, 5⟩, ⟨20, 8⟩, ⟨24, 9⟩, ⟨25, 13⟩, ⟨11, 11⟩, ⟨19, 11⟩]) := List.mem_singleton.mp hm
  obtain ⟨rfl, rfl⟩ := Prod.mk.inj h1
  have hb : w'.heap[0]? = W.heap[0]? := by
    refine hw 0 ?_ (fun k => k)
    have := (codes_cell h 0 (by decide)).1
    unfold World.cell? at this
    by_cases c : 0 < W.heap.size
    · exact c
    · have e : W.heap[0]? = none := Array.getElem?_eq_none (by omega)
      simp [e] at this
  have hc : ∀ k, w'.cell? ⟨0, k, none⟩ = W.cell? ⟨0, k, none⟩ := fun k => by
    unfold World.cell?
    simp only [hb]
  refine DRel.mk _ (some ⟨0, 0, none⟩) 13 (fun i j => .int .i64 (if j = 0 then (codesZ.getD i (0, 0)).1 else (codesZ.getD i (0, 0)).2)) (by decide +kernel) (by decide +kernel) ?_ ?_ ?_
  · intro i j hi hj
    have hi' : i < 13 := hi
    have hj' : j < 2 := hj
    refine ⟨_, rfl, ?_⟩
    have ea : (⟨0, 0, none⟩ : Addr).add (i * 2 + j) = ⟨0, i * 2 + j, none⟩ := by
      unfold Addr.add
      by_cases c : i * 2 + j = 0
      · rw [if_pos c, c]
      · rw [if_neg c]; simp
    show w'.cell? ((⟨0, 0, none⟩ : Addr).add (i * 2 + j)) = _
    rw [ea, hc]
    obtain ⟨a, b⟩ := codes_cell h i hi'
    obtain rfl | rfl : j = 0 ∨ j = 1 := by omega
    · exact a
    · exact b
  · intro i j hi hj
    have hi' : i < 13 := hi
    have hj' : j < 2 := hj
    obtain rfl | rfl : j = 0 ∨ j = 1 := by omega
    all_goals (obtain rfl | rfl | rfl | rfl | rfl | rfl | rfl | rfl | rfl | rfl | rfl | rfl | rfl : i = 0 ∨ i = 1 ∨ i = 2 ∨ i = 3 ∨ i = 4 ∨ i = 5 ∨ i = 6 ∨ i = 7 ∨ i = 8 ∨ i = 9 ∨ i = 10 ∨ i = 11 ∨ i = 12 := by omega) <;> rfl
  · intro i j d' hi hj hd'
    have hi' : i < 13 := hi
    have hj' : j < 2 := hj
    obtain rfl | rfl : j = 0 ∨ j = 1 := by omega
    all_goals (obtain rfl | rfl | rfl | rfl | rfl | rfl | rfl | rfl | rfl | rfl | rfl | rfl | rfl : i = 0 ∨ i = 1 ∨ i = 2 ∨ i = 3 ∨ i = 4 ∨ i = 5 ∨ i = 6 ∨ i = 7 ∨ i = 8 ∨ i = 9 ∨ i = 10 ∨ i = 11 ∨ i = 12 := by omega) <;> cases hd'
theorem laid_world (os : Os) (args : Array Value) : laidMetH Tryz.prog laidL (((World.laidAll Tryz.prog os laidL).forCall (fun _ _ => 0) ⟨#[], args, []⟩).memory) := by
  rw [MakeChecks.laidMetH_plain _ _ _ (by kernel_rfl)]; exact laidMet_laidAll _ (by kernel_rfl) (by kernel_rfl)
end Go.Proofs.YtemjcccdcnhmhaaGreatDoor
