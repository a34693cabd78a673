/-
  DERIVED. GIVEN WITH THE SEED: THE CARDS: each row of YtenjjcfebflefaaGreatDoorRows.lean that lists a variable, with what it lists TIED to the program's text (the seventh form; the later family's looks); each row that meets fmt, with fmt's text TOLD by the authors' own Lean function (tested against real Go, not proved from fmt's source: count such statements apart). THE CARD IS WHAT COUNTS. Prove the row's statement (the work); the ties are given (YtenjjcfebflefaaGreatDoorTie.lean); close each card by the builder's one call (the guide's Derived/Test/ToyasCard.lean, 'card_holds'). Laid BY PROGRAM, IN A SANDBOX (cutbox-door.mjs). By AI agents, Wed Nov 11 2026. No macro, syntax, notation, axiom, sorry.
-/
import Derived.Test.YtenjjcfebflefaaGreatDoorRows
import GoSem.ClaimSeven
namespace Go.Proofs.YtenjjcfebflefaaGreatDoor
namespace Rows

/-- THE TIED CARD OF 'wireschemalaw56.ReplayChecks'. -/
def replayChecksCard : Claim7 := { stood := { row := replayChecksRow, standIns := [], harness := (true, "526de359aae65b1d521f1c8356b079c95a2a99eb913c41721a087dc2f0e60231"), looks := true }, kinds := [], alts := [], laidByText := true, laidKinds := [.data, .pinned], laidTests := true, laidLooks := .later }
def ReplayChecksCardSaid : Prop := Claim7.holds Tryz.pinned (.plain (OpenSpec.ofChange replayChecksSpec)) replayChecksCard

/-- THE SECOND FORM's CARD OF 'wireschemalaw56.ReplayChecks'. -/
def replayChecksUptoCard : Claim7 := { stood := { row := replayChecksUptoRow, standIns := [], harness := (true, "526de359aae65b1d521f1c8356b079c95a2a99eb913c41721a087dc2f0e60231"), looks := true }, kinds := [], alts := [], laidByText := true, laidKinds := [.data, .pinned], laidTests := true, laidLooks := .later }
def ReplayChecksUptoCardSaid : Prop := Claim7.holds Tryz.pinned (.plain (OpenSpec.upto replayChecksSpec)) replayChecksUptoCard
end Rows
end Go.Proofs.YtenjjcfebflefaaGreatDoor
