/-
  The contracts of flow's Fit and of the reference's Fit, at most 1000 numbers.
-/
import Derived.Test.YthknholdgnfkmaaE
import Derived.Deep.RegionWith
import Derived.Deep.RegionHeld3
namespace Go.Proofs.Ythknholdgnfkmaa
open Go.RowKit
attribute [local go_sem high] cell_set_same
def fitGo (s h : Int) : Int → Nat → List Int → Int
  | l, k, [] => if validB s l h = true then k else 0
  | l, k, n :: r => if (takeR s l h n).2 = 0 then fitGo s h (takeR s l h n).1 (k + 1) r else k
def Box (w : World) (b : Nat) (x y z : Int) : Prop :=
  w.cell? ⟨b, 0, none⟩ = some (.int .i64 x) ∧ w.cell? ⟨b, 1, none⟩ = some (.int .i64 y) ∧ w.cell? ⟨b, 2, none⟩ = some (.int .i64 z) ∧
  w.frozen? ⟨b, 0, none⟩ = false ∧ w.frozen? ⟨b, 1, none⟩ = false ∧ w.frozen? ⟨b, 2, none⟩ = false ∧ b < w.heap.size
def FitInv (w wr : World) (s l h : Int) (xs : List Int) (k : Nat) : Prop :=
  ∃ lk, Box wr w.heap.size s lk h ∧ Below w.heap.size w wr ∧ fitGo s h l 0 xs = fitGo s h lk k (xs.drop k)
def Ints (w : World) (a : Option Addr) (xs : List Int) : Prop :=
  ∀ i, i < xs.length → ∃ b off, a = some ⟨b, off, none⟩ ∧ b < w.heap.size ∧ w.cell? ⟨b, off + i, none⟩ = some (.int .i64 (xs.getD i 0))
theorem box_next {w1 : World} {B : Nat} {s l h a b c : Int} {O : Obj} (c0 : w1.cell? ⟨B, 0, none⟩ = some (.int .i64 s)) (c1 : w1.cell? ⟨B, 1, none⟩ = some (.int .i64 l)) (c2 : w1.cell? ⟨B, 2, none⟩ = some (.int .i64 h))
    (f0 : w1.frozen? ⟨B, 0, none⟩ = false) (f1 : w1.frozen? ⟨B, 1, none⟩ = false) (f2 : w1.frozen? ⟨B, 2, none⟩ = false) (hz : B < w1.heap.size) :
    Box ((((w1.setCell ⟨B, 0, none⟩ (.int .i64 a)).setCell ⟨B, 1, none⟩ (.int .i64 b)).setCell ⟨B, 2, none⟩ (.int .i64 c)).alloc O) B a b c := by
  simp [Box, go_sem, c0, c1, c2, f0, f1, f2, hz]
theorem below_next {w wr w1 : World} {a b c : Value} {O : Obj} (hb : Below w.heap.size w wr) (hb1 : Below wr.heap.size wr w1) :
    Below w.heap.size w ((((w1.setCell ⟨w.heap.size, 0, none⟩ a).setCell ⟨w.heap.size, 1, none⟩ b).setCell ⟨w.heap.size, 2, none⟩ c).alloc O) :=
  (((((hb.trans (hb1.mono hb.size)).setCell (Nat.le_refl _) _).setCell (Nat.le_refl _) _).setCell (Nat.le_refl _) _).alloc (by simpa using Nat.le_trans hb.size hb1.size) _)
theorem drop_getD (xs : List Int) (k : Nat) (h : k < xs.length) : xs.drop k = xs.getD k 0 :: xs.drop (k + 1) := by
  rw [List.drop_eq_getElem_cons h]
  simp [List.getD, List.getElem?_eq_getElem h]
theorem ret_int {k : IntKind} {a b : Int} (h : a = b) : Ending.returned (.int k a) = .returned (.int k b) := by rw [h]
set_option maxHeartbeats 1000000 in
theorem fit_any (s l h : Int) (a : Option Addr) (xs : List Int) (cap : Nat) (w : World) (hx : Ints w a xs) (hn : xs.length ≤ 1000) :
    Calls Try.prog 22 #[.agg #[.int .i64 s, .int .i64 l, .int .i64 h], .slice a xs.length cap] w fun e w' => e = .returned (.int .i64 (fitGo s h l 0 xs)) ∧ Below w.heap.size w w' := by
  generalize hlen : xs.length = len at hn ⊢
  have HL := Lib.hid hlen
  have HX := Lib.hid hx
  clear hlen hx
  go_enter Try.func22, Try.ntmps22
  go_wp2
  go_loopw [11] (fun i wr => ∃ k : Nat, k ≤ len ∧ i = .int .i64 k ∧ FitInv w wr s l h xs k) (fun i _ => len - (intOf i).toNat)
  case atStart => exact ⟨0, Nat.zero_le _, rfl, l, by simp [Box, go_sem], by simpa using (Below.refl _ _).alloc (Nat.le_refl _) _, by simp⟩
  case round =>
    obtain ⟨k, hk, rfl, lk, ⟨c0, c1, c2, f0, f1, f2, hz⟩, hb, heq⟩ := hrel
    have HE := Lib.hid heq
    clear heq
    by_cases hlt : k < len
    · obtain ⟨b, off, rfl, hbl, hcell⟩ := HX.out k (by rw [HL.out]; exact hlt)
      have hcr := (hb.cell (p := ⟨b, off + k, none⟩) hbl).trans hcell
      have HB := Lib.hid hb
      clear hb hcell
      have HD := Lib.hid (drop_getD xs k (by rw [HL.out]; exact hlt))
      generalize xs.getD k 0 = n at hcr HD
      by_cases hok : (takeR s lk h n).2 = 0
      · have hok' : ((takeR s lk h n).2 != 0) = false := by simpa using hok
        have HO := Lib.hid hok
        clear hok
        go_wp2_with (go_at_call 16; refine (take_any _ _ _ _ _).mono ?_; rintro e w1 ⟨rfl, hb1⟩; obtain ⟨hc, hf⟩ := bcell hb1; have c0' := (hc _ 0 hz).trans c0; have c1' := (hc _ 1 hz).trans c1; have c2' := (hc _ 2 hz).trans c2; have f0' := (hf _ 0 hz).trans f0; have f1' := (hf _ 1 hz).trans f1; have f2' := (hf _ 2 hz).trans f2; have hz1 := Nat.lt_of_lt_of_le hz hb1.size; have HB1 := Lib.hid hb1; clear hb1 hc hf)
        go_roundw
        case rel => exact ⟨k + 1, by omega, by go_num, (takeR s lk h n).1, box_next c0' c1' c2' f0' f1' f2' hz1, below_next HB.out HB1.out, by rw [HE.out, HD.out, fitGo, if_pos HO.out]⟩
        case measure => simp [intOf]; omega
      · have hok' : ((takeR s lk h n).2 != 0) = true := by simpa using hok
        have HO := Lib.hid hok
        clear hok
        go_wp2_with (go_at_call 16; refine (take_any _ _ _ _ _).mono ?_; rintro e w1 ⟨rfl, hb1⟩; obtain ⟨hc, hf⟩ := bcell hb1; have c0' := (hc _ 0 hz).trans c0; have c1' := (hc _ 1 hz).trans c1; have c2' := (hc _ 2 hz).trans c2; have f0' := (hf _ 0 hz).trans f0; have f1' := (hf _ 1 hz).trans f1; have f2' := (hf _ 2 hz).trans f2; have hz1 := Nat.lt_of_lt_of_le hz hb1.size; have HB1 := Lib.hid hb1; clear hb1 hc hf)
        go_ret
        exact ⟨ret_int (by rw [HE.out, HD.out, fitGo, if_neg HO.out]), by
          have hb := HB.out
          have hb1 := HB1.out
          exact ((hb.trans (hb1.mono hb.size)).alloc (by have := hb.size; have := hb1.size; omega) _)⟩
    · have hkl : k = len := by omega
      subst hkl
      have HD : Hid (xs.drop k = []) := Lib.hid (by rw [List.drop_eq_nil_iff, HL.out]; omega)
      have HB := Lib.hid hb
      clear hb
      by_cases v : validB s lk h = true
      · go_wp2_with (go_at_call 13; refine (valid_yes _ _ _ _ v).mono ?_; rintro e w' ⟨rfl, rfl⟩)
        go_ret
        exact ⟨ret_int (by rw [HE.out, HD.out, fitGo, if_pos v]), HB.out.alloc HB.out.size _⟩
      · have v : validB s lk h = false := by simpa using v
        go_wp2_with (go_at_call 13; refine (valid_no _ _ _ _ v).mono ?_; rintro e w' ⟨rfl, rfl⟩)
        go_ret
        exact ⟨ret_int (by rw [HE.out, HD.out, fitGo, if_neg (by rw [v]; simp)]), HB.out.alloc HB.out.size _⟩
end Go.Proofs.Ythknholdgnfkmaa
