/-
  DERIVED. GIVEN WITH THE SEED: THE CARDS: each row of YtcdhbdjlamikgaaGreatDoorRows.lean that lists a variable, with what it lists TIED to the program's text (the seventh form; the later family's looks); each row that meets fmt, with fmt's text TOLD by the authors' own Lean function (tested against real Go, not proved from fmt's source: count such statements apart). THE CARD IS WHAT COUNTS. Prove the row's statement (the work); the ties are given (YtcdhbdjlamikgaaGreatDoorTie.lean); close each card by the builder's one call (the guide's Derived/Test/ToyasCard.lean, 'card_holds'). Laid BY PROGRAM, IN A SANDBOX (cutbox-door.mjs). By AI agents, Wed Nov 11 2026. No macro, syntax, notation, axiom, sorry.
-/
import Derived.Test.YtcdhbdjlamikgaaGreatDoorRows
import GoSem.ClaimSeven
namespace Go.Proofs.YtcdhbdjlamikgaaGreatDoor
namespace Rows

/-- THE TIED CARD OF 'wireschemalaw56.ReplaySums'. -/
def replaySumsCard : Claim7 := { stood := { row := replaySumsRow, standIns := [], harness := (true, "296c967622512ef5ed5aa09167e2c46bad6f2afd72d5cc7cbe635d0bccf083dd"), looks := true }, kinds := [], alts := [], laidByText := true, laidKinds := [.data, .pinned], laidTests := true, laidLooks := .later }
def ReplaySumsCardSaid : Prop := Claim7.holds Tryz.pinned (.plain (OpenSpec.ofChange replaySumsSpec)) replaySumsCard

/-- THE TIED CARD OF 'wireschemalaw56.ReplayReads'. -/
def replayReadsCard : Claim7 := { stood := { row := replayReadsRow, standIns := [], harness := (true, "296c967622512ef5ed5aa09167e2c46bad6f2afd72d5cc7cbe635d0bccf083dd"), looks := true }, kinds := [], alts := [], laidByText := true, laidKinds := [.data, .pinned], laidTests := true, laidLooks := .later }
def ReplayReadsCardSaid : Prop := Claim7.holds Tryz.pinned (.plain (OpenSpec.ofChange replayReadsSpec)) replayReadsCard

/-- THE SECOND FORM's CARD OF 'wireschemalaw56.ReplaySums'. -/
def replaySumsUptoCard : Claim7 := { stood := { row := replaySumsUptoRow, standIns := [], harness := (true, "296c967622512ef5ed5aa09167e2c46bad6f2afd72d5cc7cbe635d0bccf083dd"), looks := true }, kinds := [], alts := [], laidByText := true, laidKinds := [.data, .pinned], laidTests := true, laidLooks := .later }
def ReplaySumsUptoCardSaid : Prop := Claim7.holds Tryz.pinned (.plain (OpenSpec.upto replaySumsSpec)) replaySumsUptoCard

/-- THE SECOND FORM's CARD OF 'wireschemalaw56.ReplayReads'. -/
def replayReadsUptoCard : Claim7 := { stood := { row := replayReadsUptoRow, standIns := [], harness := (true, "296c967622512ef5ed5aa09167e2c46bad6f2afd72d5cc7cbe635d0bccf083dd"), looks := true }, kinds := [], alts := [], laidByText := true, laidKinds := [.data, .pinned], laidTests := true, laidLooks := .later }
def ReplayReadsUptoCardSaid : Prop := Claim7.holds Tryz.pinned (.plain (OpenSpec.upto replayReadsSpec)) replayReadsUptoCard
end Rows
end Go.Proofs.YtcdhbdjlamikgaaGreatDoor
