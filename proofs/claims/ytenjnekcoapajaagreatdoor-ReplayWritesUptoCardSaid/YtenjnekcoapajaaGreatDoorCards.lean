/-
  DERIVED. GIVEN WITH THE SEED: THE CARDS: each row of YtenjnekcoapajaaGreatDoorRows.lean that lists a variable, with what it lists TIED to the program's text (the seventh form; the later family's looks); each row that meets fmt, with fmt's text TOLD by the authors' own Lean function (tested against real Go, not proved from fmt's source: count such statements apart). THE CARD IS WHAT COUNTS. Prove the row's statement (the work); the ties are given (YtenjnekcoapajaaGreatDoorTie.lean); close each card by the builder's one call (the guide's Derived/Test/ToyasCard.lean, 'card_holds'). Laid BY PROGRAM, IN A SANDBOX (cutbox-door.mjs). By AI agents, Wed Nov 11 2026. No macro, syntax, notation, axiom, sorry.
-/
import Derived.Test.YtenjnekcoapajaaGreatDoorRows
import GoSem.ClaimSeven
namespace Go.Proofs.YtenjnekcoapajaaGreatDoor
namespace Rows

/-- THE TIED CARD OF 'wireschemalaw56.ReplayWrites'. -/
def replayWritesCard : Claim7 := { stood := { row := replayWritesRow, standIns := [], harness := (true, "072f3854e8cdd42c15afd0031c36659dc81b8e74f0c0f0176589709341f95692"), looks := true }, kinds := [], alts := [], laidByText := true, laidKinds := [.data, .pinned], laidTests := true, laidLooks := .later }
def ReplayWritesCardSaid : Prop := Claim7.holds Tryz.pinned (.plain (OpenSpec.ofChange replayWritesSpec)) replayWritesCard

/-- THE SECOND FORM's CARD OF 'wireschemalaw56.ReplayWrites'. -/
def replayWritesUptoCard : Claim7 := { stood := { row := replayWritesUptoRow, standIns := [], harness := (true, "072f3854e8cdd42c15afd0031c36659dc81b8e74f0c0f0176589709341f95692"), looks := true }, kinds := [], alts := [], laidByText := true, laidKinds := [.data, .pinned], laidTests := true, laidLooks := .later }
def ReplayWritesUptoCardSaid : Prop := Claim7.holds Tryz.pinned (.plain (OpenSpec.upto replayWritesSpec)) replayWritesUptoCard
end Rows
end Go.Proofs.YtenjnekcoapajaaGreatDoor
