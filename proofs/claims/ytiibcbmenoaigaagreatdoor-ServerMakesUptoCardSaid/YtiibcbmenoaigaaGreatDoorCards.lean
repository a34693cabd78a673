/-
  DERIVED. GIVEN WITH THE SEED: THE CARDS: each row of YtiibcbmenoaigaaGreatDoorRows.lean that lists a variable, with what it lists TIED to the program's text (the seventh form; the later family's looks); each row that meets fmt, with fmt's text TOLD by the authors' own Lean function (tested against real Go, not proved from fmt's source: count such statements apart). THE CARD IS WHAT COUNTS. Prove the row's statement (the work); the ties are given (YtiibcbmenoaigaaGreatDoorTie.lean); close each card by the builder's one call (the guide's Derived/Test/ToyasCard.lean, 'card_holds'). Laid BY PROGRAM, IN A SANDBOX (cutbox-door.mjs). By AI agents, Wed Nov 11 2026. No macro, syntax, notation, axiom, sorry.
-/
import Derived.Test.YtiibcbmenoaigaaGreatDoorRows
import GoSem.ClaimSeven
namespace Go.Proofs.YtiibcbmenoaigaaGreatDoor
namespace Rows

/-- THE TIED CARD OF 'wireschemalaw52.ServerMakes'. -/
def serverMakesCard : Claim7 := { stood := { row := serverMakesRow, standIns := [], harness := (true, "bc89371774754e2e3b58d55893cfcaf623251f022cf6921f63eff2d98f9a5fd3"), looks := true }, kinds := [], alts := [], laidByText := true, laidKinds := [.data, .pinned], laidTests := true, laidLooks := .later }
def ServerMakesCardSaid : Prop := Claim7.holds Tryz.pinned (.plain (OpenSpec.ofChange serverMakesSpec)) serverMakesCard

/-- THE SECOND FORM's CARD OF 'wireschemalaw52.ServerMakes'. -/
def serverMakesUptoCard : Claim7 := { stood := { row := serverMakesUptoRow, standIns := [], harness := (true, "bc89371774754e2e3b58d55893cfcaf623251f022cf6921f63eff2d98f9a5fd3"), looks := true }, kinds := [], alts := [], laidByText := true, laidKinds := [.data, .pinned], laidTests := true, laidLooks := .later }
def ServerMakesUptoCardSaid : Prop := Claim7.holds Tryz.pinned (.plain (OpenSpec.upto serverMakesSpec)) serverMakesUptoCard
end Rows
end Go.Proofs.YtiibcbmenoaigaaGreatDoor
