/-
  DERIVED. GIVEN WITH THE SEED: THE CARDS: each row of YtemjcccdcnhmhaaGreatDoorRows.lean that lists a variable, with what it lists TIED to the program's text (the seventh form; the later family's looks); each row that meets fmt, with fmt's text TOLD by the authors' own Lean function (tested against real Go, not proved from fmt's source: count such statements apart). THE CARD IS WHAT COUNTS. Prove the row's statement (the work); the ties are given (YtemjcccdcnhmhaaGreatDoorTie.lean); close each card by the builder's one call (the guide's Derived/Test/ToyasCard.lean, 'card_holds'). Laid BY PROGRAM, IN A SANDBOX (cutbox-door.mjs). By AI agents, Wed Nov 11 2026. No macro, syntax, notation, axiom, sorry.
-/
import Derived.Test.YtemjcccdcnhmhaaGreatDoorRows
import GoSem.ClaimSeven
namespace Go.Proofs.YtemjcccdcnhmhaaGreatDoor
namespace Rows

/-- THE TIED CARD OF 'wireschemalaw51.InterceptBefores'. -/
def interceptBeforesCard : Claim7 := { stood := { row := interceptBeforesRow, standIns := [], harness := (true, "6f860d8b6136382534332f7b3db0b18052cc4477c5dff1a22e9d46f1369b26d9"), looks := true }, kinds := [], alts := [], laidByText := true, laidKinds := [.data, .data, .pinned], laidTests := true, laidLooks := .later }
def InterceptBeforesCardSaid : Prop := Claim7.holds Tryz.pinned (.plain (OpenSpec.ofChange interceptBeforesSpec)) interceptBeforesCard

/-- THE TIED CARD OF 'wireschemalaw51.InterceptHides'. -/
def interceptHidesCard : Claim7 := { stood := { row := interceptHidesRow, standIns := [], harness := (true, "6f860d8b6136382534332f7b3db0b18052cc4477c5dff1a22e9d46f1369b26d9"), looks := true }, kinds := [], alts := [], laidByText := true, laidKinds := [.data, .data, .pinned], laidTests := true, laidLooks := .later }
def InterceptHidesCardSaid : Prop := Claim7.holds Tryz.pinned (.plain (OpenSpec.ofChange interceptHidesSpec)) interceptHidesCard

/-- THE TIED CARD OF 'wireschemalaw51.InterceptOrdered'. -/
def interceptOrderedCard : Claim7 := { stood := { row := interceptOrderedRow, standIns := [], harness := (true, "6f860d8b6136382534332f7b3db0b18052cc4477c5dff1a22e9d46f1369b26d9"), looks := true }, kinds := [], alts := [], laidByText := true, laidKinds := [.data, .data, .pinned], laidTests := true, laidLooks := .later }
def InterceptOrderedCardSaid : Prop := Claim7.holds Tryz.pinned (.plain (OpenSpec.ofChange interceptOrderedSpec)) interceptOrderedCard

/-- THE TIED CARD OF 'wireschemalaw51.InterceptHidden'. -/
def interceptHiddenCard : Claim7 := { stood := { row := interceptHiddenRow, standIns := [], harness := (true, "6f860d8b6136382534332f7b3db0b18052cc4477c5dff1a22e9d46f1369b26d9"), looks := true }, kinds := [], alts := [], laidByText := true, laidKinds := [.data, .data, .pinned], laidTests := true, laidLooks := .later }
def InterceptHiddenCardSaid : Prop := Claim7.holds Tryz.pinned (.plain (OpenSpec.ofChange interceptHiddenSpec)) interceptHiddenCard

/-- THE SECOND FORM's CARD OF 'wireschemalaw51.InterceptBefores'. -/
def interceptBeforesUptoCard : Claim7 := { stood := { row := interceptBeforesUptoRow, standIns := [], harness := (true, "6f860d8b6136382534332f7b3db0b18052cc4477c5dff1a22e9d46f1369b26d9"), looks := true }, kinds := [], alts := [], laidByText := true, laidKinds := [.data, .data, .pinned], laidTests := true, laidLooks := .later }
def InterceptBeforesUptoCardSaid : Prop := Claim7.holds Tryz.pinned (.plain (OpenSpec.upto interceptBeforesSpec)) interceptBeforesUptoCard

/-- THE SECOND FORM's CARD OF 'wireschemalaw51.InterceptHides'. -/
def interceptHidesUptoCard : Claim7 := { stood := { row := interceptHidesUptoRow, standIns := [], harness := (true, "6f860d8b6136382534332f7b3db0b18052cc4477c5dff1a22e9d46f1369b26d9"), looks := true }, kinds := [], alts := [], laidByText := true, laidKinds := [.data, .data, .pinned], laidTests := true, laidLooks := .later }
def InterceptHidesUptoCardSaid : Prop := Claim7.holds Tryz.pinned (.plain (OpenSpec.upto interceptHidesSpec)) interceptHidesUptoCard

/-- THE SECOND FORM's CARD OF 'wireschemalaw51.InterceptOrdered'. -/
def interceptOrderedUptoCard : Claim7 := { stood := { row := interceptOrderedUptoRow, standIns := [], harness := (true, "6f860d8b6136382534332f7b3db0b18052cc4477c5dff1a22e9d46f1369b26d9"), looks := true }, kinds := [], alts := [], laidByText := true, laidKinds := [.data, .data, .pinned], laidTests := true, laidLooks := .later }
def InterceptOrderedUptoCardSaid : Prop := Claim7.holds Tryz.pinned (.plain (OpenSpec.upto interceptOrderedSpec)) interceptOrderedUptoCard

/-- THE SECOND FORM's CARD OF 'wireschemalaw51.InterceptHidden'. -/
def interceptHiddenUptoCard : Claim7 := { stood := { row := interceptHiddenUptoRow, standIns := [], harness := (true, "6f860d8b6136382534332f7b3db0b18052cc4477c5dff1a22e9d46f1369b26d9"), looks := true }, kinds := [], alts := [], laidByText := true, laidKinds := [.data, .data, .pinned], laidTests := true, laidLooks := .later }
def InterceptHiddenUptoCardSaid : Prop := Claim7.holds Tryz.pinned (.plain (OpenSpec.upto interceptHiddenSpec)) interceptHiddenUptoCard
end Rows
end Go.Proofs.YtemjcccdcnhmhaaGreatDoor
