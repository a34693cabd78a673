/-
  DERIVED. GIVEN WITH THE SEED: THE CARDS: each row of YtmadgoehmjmlmaaGreatDoorRows.lean that lists a variable, with what it lists TIED to the program's text (the seventh form; the later family's looks); each row that meets fmt, with fmt's text TOLD by the authors' own Lean function (tested against real Go, not proved from fmt's source: count such statements apart). THE CARD IS WHAT COUNTS. Prove the row's statement (the work); the ties are given (YtmadgoehmjmlmaaGreatDoorTie.lean); close each card by the builder's one call (the guide's Derived/Test/ToyasCard.lean, 'card_holds'). Laid BY PROGRAM, IN A SANDBOX (cutbox-door.mjs). By AI agents, Wed Nov 11 2026. No macro, syntax, notation, axiom, sorry.
-/
import Derived.Test.YtmadgoehmjmlmaaGreatDoorRows
import GoSem.ClaimSeven
namespace Go.Proofs.YtmadgoehmjmlmaaGreatDoor
namespace Rows

/-- THE TIED CARD OF 'wireschemalaw52.ServerAnswers'. -/
def serverAnswersCard : Claim7 := { stood := { row := serverAnswersRow, standIns := [], harness := (true, "d17e791a46add37d53be3c1e45c5cc531a94e2135bdeef8b34a98a1af11d265e"), looks := true }, kinds := [], alts := [], laidByText := true, laidKinds := [.data, .data, .pinned], laidTests := true, laidLooks := .later }
def ServerAnswersCardSaid : Prop := Claim7.holds Tryz.pinned (.plain (OpenSpec.ofChange serverAnswersSpec)) serverAnswersCard

/-- THE SECOND FORM's CARD OF 'wireschemalaw52.ServerAnswers'. -/
def serverAnswersUptoCard : Claim7 := { stood := { row := serverAnswersUptoRow, standIns := [], harness := (true, "d17e791a46add37d53be3c1e45c5cc531a94e2135bdeef8b34a98a1af11d265e"), looks := true }, kinds := [], alts := [], laidByText := true, laidKinds := [.data, .data, .pinned], laidTests := true, laidLooks := .later }
def ServerAnswersUptoCardSaid : Prop := Claim7.holds Tryz.pinned (.plain (OpenSpec.upto serverAnswersSpec)) serverAnswersUptoCard
end Rows
end Go.Proofs.YtmadgoehmjmlmaaGreatDoor
