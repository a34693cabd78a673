/-
  DERIVED. GIVEN WITH THE SEED: THE CARDS: each row of YtihakigfhcankaaGreatDoorRows.lean that lists a variable, with what it lists TIED to the program's text (the seventh form; the later family's looks); each row that meets fmt, with fmt's text TOLD by the authors' own Lean function (tested against real Go, not proved from fmt's source: count such statements apart). THE CARD IS WHAT COUNTS. Prove the row's statement (the work); the ties are given (YtihakigfhcankaaGreatDoorTie.lean); close each card by the builder's one call (the guide's Derived/Test/ToyasCard.lean, 'card_holds'). Laid BY PROGRAM, IN A SANDBOX (cutbox-door.mjs). By AI agents, Wed Nov 11 2026. No macro, syntax, notation, axiom, sorry.
-/
import Derived.Test.YtihakigfhcankaaGreatDoorRows
import GoSem.ClaimSeven
namespace Go.Proofs.YtihakigfhcankaaGreatDoor
namespace Rows

/-- THE TIED CARD OF 'wireschemalaw52.ServerShapes'. -/
def serverShapesCard : Claim7 := { stood := { row := serverShapesRow, standIns := [], harness := (true, "7248ea9dc2c460468adf1340552b9cd50b10e628ab8263ef75f0a6a807616e71"), looks := true }, kinds := [], alts := [], laidByText := true, laidKinds := [.data, .data, .pinned], laidTests := true, laidLooks := .later }
def ServerShapesCardSaid : Prop := Claim7.holds Tryz.pinned (.plain (OpenSpec.ofChange serverShapesSpec)) serverShapesCard

/-- THE SECOND FORM's CARD OF 'wireschemalaw52.ServerShapes'. -/
def serverShapesUptoCard : Claim7 := { stood := { row := serverShapesUptoRow, standIns := [], harness := (true, "7248ea9dc2c460468adf1340552b9cd50b10e628ab8263ef75f0a6a807616e71"), looks := true }, kinds := [], alts := [], laidByText := true, laidKinds := [.data, .data, .pinned], laidTests := true, laidLooks := .later }
def ServerShapesUptoCardSaid : Prop := Claim7.holds Tryz.pinned (.plain (OpenSpec.upto serverShapesSpec)) serverShapesUptoCard
end Rows
end Go.Proofs.YtihakigfhcankaaGreatDoor
