/-
  DERIVED. GIVEN WITH THE SEED: THE CARDS: each row of YtemjcccdcnhmhaaDoorRows.lean that lists a variable, with what it lists TIED to the program's text (the seventh form; the later family's looks); each row that meets fmt, with fmt's text TOLD by the authors' own Lean function (tested against real Go, not proved from fmt's source: count such statements apart). THE CARD IS WHAT COUNTS. Prove the row's statement (the work); the ties are given (YtemjcccdcnhmhaaDoorTie.lean); close each card by the builder's one call (the guide's Derived/Test/ToyasCard.lean, 'card_holds'). Laid BY PROGRAM, IN A SANDBOX (cutbox-door.mjs). By AI agents, Wed Nov 11 2026. No macro, syntax, notation, axiom, sorry.
-/
import Derived.Test.YtemjcccdcnhmhaaDoorRows
import GoSem.ClaimSeven
namespace Go.Proofs.YtemjcccdcnhmhaaDoor
namespace Rows

/-- THE TIED CARD OF 'wireschemalaw51.InterceptChecks'. -/
def interceptChecksCard : Claim7 := { stood := { row := interceptChecksRow, standIns := [], harness := (true, "addab2420164fee07e1e488aaf554fc6ad771a061e46f2235169362c68177ebc"), looks := true }, kinds := [], alts := [], laidByText := true, laidKinds := [.data, .data, .pinned], laidTests := true, laidLooks := .later }
def InterceptChecksCardSaid : Prop := Claim7.holds Tryd.pinned (.plain (OpenSpec.ofChange interceptChecksSpec)) interceptChecksCard

/-- THE TIED CARD OF 'wireschemalaw51.InterceptMetas'. -/
def interceptMetasCard : Claim7 := { stood := { row := interceptMetasRow, standIns := [], harness := (true, "addab2420164fee07e1e488aaf554fc6ad771a061e46f2235169362c68177ebc"), looks := true }, kinds := [], alts := [], laidByText := true, laidKinds := [.data, .data, .pinned], laidTests := true, laidLooks := .later }
def InterceptMetasCardSaid : Prop := Claim7.holds Tryd.pinned (.plain (OpenSpec.ofChange interceptMetasSpec)) interceptMetasCard

/-- THE TIED CARD OF 'wireschemalaw51.InterceptLimits'. -/
def interceptLimitsCard : Claim7 := { stood := { row := interceptLimitsRow, standIns := [], harness := (true, "addab2420164fee07e1e488aaf554fc6ad771a061e46f2235169362c68177ebc"), looks := true }, kinds := [], alts := [], laidByText := true, laidKinds := [.data, .data, .pinned], laidTests := true, laidLooks := .later }
def InterceptLimitsCardSaid : Prop := Claim7.holds Tryd.pinned (.plain (OpenSpec.ofChange interceptLimitsSpec)) interceptLimitsCard

/-- THE SECOND FORM's CARD OF 'wireschemalaw51.InterceptChecks'. -/
def interceptChecksUptoCard : Claim7 := { stood := { row := interceptChecksUptoRow, standIns := [], harness := (true, "addab2420164fee07e1e488aaf554fc6ad771a061e46f2235169362c68177ebc"), looks := true }, kinds := [], alts := [], laidByText := true, laidKinds := [.data, .data, .pinned], laidTests := true, laidLooks := .later }
def InterceptChecksUptoCardSaid : Prop := Claim7.holds Tryd.pinned (.plain (OpenSpec.upto interceptChecksSpec)) interceptChecksUptoCard

/-- THE SECOND FORM's CARD OF 'wireschemalaw51.InterceptMetas'. -/
def interceptMetasUptoCard : Claim7 := { stood := { row := interceptMetasUptoRow, standIns := [], harness := (true, "addab2420164fee07e1e488aaf554fc6ad771a061e46f2235169362c68177ebc"), looks := true }, kinds := [], alts := [], laidByText := true, laidKinds := [.data, .data, .pinned], laidTests := true, laidLooks := .later }
def InterceptMetasUptoCardSaid : Prop := Claim7.holds Tryd.pinned (.plain (OpenSpec.upto interceptMetasSpec)) interceptMetasUptoCard

/-- THE SECOND FORM's CARD OF 'wireschemalaw51.InterceptLimits'. -/
def interceptLimitsUptoCard : Claim7 := { stood := { row := interceptLimitsUptoRow, standIns := [], harness := (true, "addab2420164fee07e1e488aaf554fc6ad771a061e46f2235169362c68177ebc"), looks := true }, kinds := [], alts := [], laidByText := true, laidKinds := [.data, .data, .pinned], laidTests := true, laidLooks := .later }
def InterceptLimitsUptoCardSaid : Prop := Claim7.holds Tryd.pinned (.plain (OpenSpec.upto interceptLimitsSpec)) interceptLimitsUptoCard
end Rows
end Go.Proofs.YtemjcccdcnhmhaaDoor
