/-
  Flow: the shapes, the types, and the first contracts by the engine.
-/
import Derived.Test.YthknholdgnfkmaaF
import Derived.Test.YthknholdgnfkmaaVcd
namespace Go.Proofs.Ythknholdgnfkmaa
open Go.RowKit Go.Vc

abbrev DI := List Int
def toInts : List (Lf DI) → Option (List Int)
  | [] => some []
  | .int .i64 n :: r => (match toInts r with
    | some l => some (n :: l)
    | none => none)
  | _ => none
def SI : Sh DI := ⟨fun _ => 1, fun d => d.length, fun d i _ => .int .i64 (d.getD i 0), fun _ n cs => match toInts cs with
  | some l => if Nat.beq l.length n then some l else none
  | none => none⟩

theorem toInts_spec : ∀ (cs : List (Lf DI)) (l : List Int), toInts cs = some l → cs.length = l.length ∧ ∀ i, i < l.length → cs[i]? = some (.int .i64 (l.getD i 0))
  | [], l, h => by simp [toInts] at h; subst h; simp
  | c :: r, l, h => by
    unfold toInts at h
    split at h
    · rename_i heq; cases heq
    · rename_i n r' heq
      injection heq with h1 h2
      subst h2
      split at h
      · rename_i l' hl
        injection h with h
        subst h
        obtain ⟨e1, e2⟩ := toInts_spec r l' hl
        refine ⟨by simp [e1], fun i hi => ?_⟩
        cases i with
        | zero => simp [h1]
        | succ i => simpa using e2 i (by simpa using hi)
      · cases h
    · cases h

theorem SI_ok : ShOk SI := by
  refine ⟨fun e n cs d h => ?_, fun d i j _ _ => rfl⟩
  simp only [SI] at h
  split at h
  · rename_i l hl
    split at h
    · rename_i hn
      injection h with h
      subst h
      obtain ⟨e1, e2⟩ := toInts_spec cs l hl
      have hn := Nat.eq_of_beq_eq_true hn
      refine ⟨hn, by simp [SI, e1, hn], fun i j hi hj => ⟨rfl, ?_⟩⟩
      have : j = 0 := by simpa [SI] using hj
      subst this
      simpa [SI] using e2 i (by omega)
    · cases h
  · cases h

def tysI : List (Nat × Ty) :=
  [(3, ⟨2, false, 1, 8, [.int .i64 0], [], none⟩), (4, ⟨1, false, 1, 1, [.bool false], [], none⟩), (24, ⟨2, false, 1, 8, [.int .i64 0], [], none⟩),
   (23, ⟨5, true, 3, 24, [.int .i64 0, .int .i64 0, .int .i64 0], [(0, 1, false), (1, 1, false), (2, 1, false)], none⟩), (35, ⟨4, false, 1, 24, [.slice none 0 0], [], some 3⟩)]
def TI : TypeId → Option Ty := look? tysI
theorem TI_ok : ∀ t ty, TI t = some ty → tyOf Try.prog t = some ty := by
  intro t ty h
  have := look?_mem h
  simp only [tysI, List.mem_cons, Prod.mk.injEq, List.not_mem_nil, or_false] at this
  rcases this with ⟨rfl, rfl⟩ | ⟨rfl, rfl⟩ | ⟨rfl, rfl⟩ | ⟨rfl, rfl⟩ | ⟨rfl, rfl⟩ <;> (clear h; show _ = _; kernel_rfl)
theorem mixedI : Try.prog.follows .mixedOrders = true := by kernel_rfl

def Γ0 : FuncId → Option (Ct DI) := fun _ => none
theorem Γ0_ok : ∀ f ct, Γ0 f = some ct → CtOk Try.prog SI f ct := fun f ct h => by cases h

end Go.Proofs.Ythknholdgnfkmaa
