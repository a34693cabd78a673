/-
  DERIVED. GIVEN WITH THE SEED: THE CARDS: each row of YtebmficbjhcohaaGreatDoorRows.lean that lists a variable, with what it lists TIED to the program's text (the seventh form; the later family's looks); each row that meets fmt, with fmt's text TOLD by the authors' own Lean function (tested against real Go, not proved from fmt's source: count such statements apart). THE CARD IS WHAT COUNTS. Prove the row's statement (the work); the ties are given (YtebmficbjhcohaaGreatDoorTie.lean); close each card by the builder's one call (the guide's Derived/Test/ToyasCard.lean, 'card_holds'). Laid BY PROGRAM, IN A SANDBOX (cutbox-door.mjs). By AI agents, Wed Nov 11 2026. No macro, syntax, notation, axiom, sorry.
-/
import Derived.Test.YtebmficbjhcohaaGreatDoorRows
import GoSem.ClaimSeven
namespace Go.Proofs.YtebmficbjhcohaaGreatDoor
namespace Rows

/-- THE TIED CARD OF 'wireschemalaw56.ReplayParts'. -/
def replayPartsCard : Claim7 := { stood := { row := replayPartsRow, standIns := [], harness := (true, "9450db96465790e20d3a45335ff365643c4d8d8e74a7a4b2d64ed89cbc024df4"), looks := true }, kinds := [], alts := [], laidByText := true, laidKinds := [.data, .pinned], laidTests := true, laidLooks := .later }
def ReplayPartsCardSaid : Prop := Claim7.holds Tryz.pinned (.plain (OpenSpec.ofChange replayPartsSpec)) replayPartsCard

/-- THE SECOND FORM's CARD OF 'wireschemalaw56.ReplayParts'. -/
def replayPartsUptoCard : Claim7 := { stood := { row := replayPartsUptoRow, standIns := [], harness := (true, "9450db96465790e20d3a45335ff365643c4d8d8e74a7a4b2d64ed89cbc024df4"), looks := true }, kinds := [], alts := [], laidByText := true, laidKinds := [.data, .pinned], laidTests := true, laidLooks := .later }
def ReplayPartsUptoCardSaid : Prop := Claim7.holds Tryz.pinned (.plain (OpenSpec.upto replayPartsSpec)) replayPartsUptoCard
end Rows
end Go.Proofs.YtebmficbjhcohaaGreatDoor
