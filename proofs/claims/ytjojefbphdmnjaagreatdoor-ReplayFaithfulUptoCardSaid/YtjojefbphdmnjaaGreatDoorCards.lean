/-
  DERIVED. GIVEN WITH THE SEED: THE CARDS: each row of YtjojefbphdmnjaaGreatDoorRows.lean that lists a variable, with what it lists TIED to the program's text (the seventh form; the later family's looks); each row that meets fmt, with fmt's text TOLD by the authors' own Lean function (tested against real Go, not proved from fmt's source: count such statements apart). THE CARD IS WHAT COUNTS. Prove the row's statement (the work); the ties are given (YtjojefbphdmnjaaGreatDoorTie.lean); close each card by the builder's one call (the guide's Derived/Test/ToyasCard.lean, 'card_holds'). Laid BY PROGRAM, IN A SANDBOX (cutbox-door.mjs). By AI agents, Wed Nov 11 2026. No macro, syntax, notation, axiom, sorry.
-/
import Derived.Test.YtjojefbphdmnjaaGreatDoorRows
import GoSem.ClaimSeven
namespace Go.Proofs.YtjojefbphdmnjaaGreatDoor
namespace Rows

/-- THE TIED CARD OF 'wireschemalaw56.ReplayFaithful'. -/
def replayFaithfulCard : Claim7 := { stood := { row := replayFaithfulRow, standIns := [], harness := (true, "2c67bd053bf3d48f70f91c5fd20d341155d288d9d1cb724bcb0ade8d1594dfe1"), looks := true }, kinds := [], alts := [], laidByText := true, laidKinds := [.data, .pinned], laidTests := true, laidLooks := .later }
def ReplayFaithfulCardSaid : Prop := Claim7.holds Tryz.pinned (.plain (OpenSpec.ofChange replayFaithfulSpec)) replayFaithfulCard

/-- THE SECOND FORM's CARD OF 'wireschemalaw56.ReplayFaithful'. -/
def replayFaithfulUptoCard : Claim7 := { stood := { row := replayFaithfulUptoRow, standIns := [], harness := (true, "2c67bd053bf3d48f70f91c5fd20d341155d288d9d1cb724bcb0ade8d1594dfe1"), looks := true }, kinds := [], alts := [], laidByText := true, laidKinds := [.data, .pinned], laidTests := true, laidLooks := .later }
def ReplayFaithfulUptoCardSaid : Prop := Claim7.holds Tryz.pinned (.plain (OpenSpec.upto replayFaithfulSpec)) replayFaithfulUptoCard
end Rows
end Go.Proofs.YtjojefbphdmnjaaGreatDoor
