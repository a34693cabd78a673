/-
  Own engine: Veb.
-/
import Derived.Test.YtcdhbdjlamikgaaGreatDoorEng15
namespace Go.Vc
open Go.RowKit
set_option linter.unusedVariables false
set_option linter.unusedSimpArgs false

/-- The types, off the program; literals of slices are the call's own, arrays are cells. -/
def tyU (P : Program) (t : TypeId) : Option Ty :=
  match tyOf P t with
  | some ty => if ty.lit then none else some { ty with lit := true }
  | none => none
theorem tyU_ok {P : Program} : ∀ t ty, tyU P t = some ty → TyOk P t ty := fun t ty h => by
  unfold tyU at h
  split at h
  · rename_i ty0 h0
    split at h
    · cases h
    · rename_i hl
      injection h with h
      subst h
      unfold TyOk
      rw [h0]
      cases ty0
      simp at hl
      simp [hl]
  · cases h
/-- What lies in a value of a type, cell by cell: the size of its elements where it is a slice. -/
def leafSz (P : Program) : Nat → TypeId → List Nat
  | 0, _ => []
  | k + 1, t => match P.underlying t with
    | some (.struct fs) => fs.toList.flatMap fun f => leafSz P k f.type
    | some (.array n e) => (List.range n).flatMap fun _ => leafSz P k e
    | some (.slice e) => (match P.info? e with
      | some i => [i.size]
      | none => [0])
    | _ => [0]
def ksU (P : Program) (e : TypeId) : Option (List Nat) := some (leafSz P 30 e)
end Go.Vc
