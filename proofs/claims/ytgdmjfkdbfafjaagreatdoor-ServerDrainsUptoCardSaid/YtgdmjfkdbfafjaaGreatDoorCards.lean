/-
  DERIVED. GIVEN WITH THE SEED: THE CARDS: each row of YtgdmjfkdbfafjaaGreatDoorRows.lean that lists a variable, with what it lists TIED to the program's text (the seventh form; the later family's looks); each row that meets fmt, with fmt's text TOLD by the authors' own Lean function (tested against real Go, not proved from fmt's source: count such statements apart). THE CARD IS WHAT COUNTS. Prove the row's statement (the work); the ties are given (YtgdmjfkdbfafjaaGreatDoorTie.lean); close each card by the builder's one call (the guide's Derived/Test/ToyasCard.lean, 'card_holds'). Laid BY PROGRAM, IN A SANDBOX (cutbox-door.mjs). By AI agents, Wed Nov 11 2026. No macro, syntax, notation, axiom, sorry.
-/
import Derived.Test.YtgdmjfkdbfafjaaGreatDoorRows
import GoSem.ClaimSeven
namespace Go.Proofs.YtgdmjfkdbfafjaaGreatDoor
namespace Rows

/-- THE TIED CARD OF 'wireschemalaw52.ServerDrains'. -/
def serverDrainsCard : Claim7 := { stood := { row := serverDrainsRow, standIns := [], harness := (true, "3b0066913b71a2f3db3ec0b7280843ce87239a908d42c6bc0a2d2fe564e27bd5"), looks := true }, kinds := [], alts := [], laidByText := true, laidKinds := [.data, .data, .pinned], laidTests := true, laidLooks := .later }
def ServerDrainsCardSaid : Prop := Claim7.holds Tryz.pinned (.plain (OpenSpec.ofChange serverDrainsSpec)) serverDrainsCard

/-- THE SECOND FORM's CARD OF 'wireschemalaw52.ServerDrains'. -/
def serverDrainsUptoCard : Claim7 := { stood := { row := serverDrainsUptoRow, standIns := [], harness := (true, "3b0066913b71a2f3db3ec0b7280843ce87239a908d42c6bc0a2d2fe564e27bd5"), looks := true }, kinds := [], alts := [], laidByText := true, laidKinds := [.data, .data, .pinned], laidTests := true, laidLooks := .later }
def ServerDrainsUptoCardSaid : Prop := Claim7.holds Tryz.pinned (.plain (OpenSpec.upto serverDrainsSpec)) serverDrainsUptoCard
end Rows
end Go.Proofs.YtgdmjfkdbfafjaaGreatDoor
