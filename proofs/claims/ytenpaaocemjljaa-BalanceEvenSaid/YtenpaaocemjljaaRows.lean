/-
  No cell of these rows narrows 'for every input' (looked for: loops, veiled, ifaces, maps, wideKeys, modest, calm, conditions, laid).
  DERIVED. THE GIVEN ROWS OF THIS SEAT. 7 by the template 'for every input the law returns true; each argument reads behind the call as it read before'; 0 by the template 'total and deterministic' (their statements: YtenpaaocemjljaaTotals.lean).
  GIVEN WITH THE SEED: the statements are not yours to turn. If you find one false, say at which input.
  Laid BY PROGRAM, IN A SANDBOX (cutbox-rows.mjs): the forced cells as the released guide's own fill.sh prints them over the translation 7834f738a37f748a… (all of the seat's roots in one cut). By AI agents, Wed Nov 11 2026. No macro, syntax, notation, axiom, sorry.
-/
import Derived.Test.YtenpaaocemjljaaChecked
import GoSem.Claim
import GoSem.ClaimJoined
import GoSem.ClaimMapViews
import Derived.JoinedTies
import Derived.KernelRfl
namespace Go.Proofs.Ytenpaaocemjljaa
/- THE CELL 'sum', in the pinned program and in every row, IS THE sha256 OF THE DUMP (.gsa) THAT YtenpaaocemjljaaProg.lean LOADS. Nothing in Lean hashes anything: it is a label: what it is worth is what the hold of that sum in a sandbox is worth. -/
noncomputable def Try.pinned : Pinned := { name := "ytenpaaocemjljaa", sum := "7834f738a37f748acbdfd2a19a2d253e4bee880574726179a34860d7d6464418", checked := Try.checked }
namespace Rows
def none {H : Type} : Left H := { results := [], args := [] }

/-- 'wireschemalaw50.BalanceChecks': WHATEVER THE INPUT: true; the input reads as it did. -/
def balanceChecksSpec : ChangeSpec := { name := "balanceChecks", fn := fun _ => fun
  | [d1, d2] => { results := [.lit (.bool true)], args := [d1, d2] }
  | _ => none }
def balanceChecksRow : OpenClaim := { program := "ytenpaaocemjljaa", sum := "7834f738a37f748acbdfd2a19a2d253e4bee880574726179a34860d7d6464418", func := "wireschema/wireschemalaw50.BalanceChecks", spec := "balanceChecks", unfollowed := true, recurses := true, apart := false }
def BalanceChecksSaid : Prop := balanceChecksRow.holds Try.pinned (OpenSpec.ofChange balanceChecksSpec)

/-- ITS FALSE NEIGHBOUR: 'it returns false'. Refute it at one input. -/
def balanceChecksWrong : ChangeSpec := { name := "balanceChecks", fn := fun _ => fun
  | [d1, d2] => { results := [.lit (.bool false)], args := [d1, d2] }
  | _ => none }
def BalanceChecksWrongFalsely : Prop := balanceChecksRow.holds Try.pinned (OpenSpec.ofChange balanceChecksWrong)

/-- 'wireschemalaw50.BalancePicks': WHATEVER THE INPUT: true; the input reads as it did. -/
def balancePicksSpec : ChangeSpec := { name := "balancePicks", fn := fun _ => fun
  | [d1, d2] => { results := [.lit (.bool true)], args := [d1, d2] }
  | _ => none }
def balancePicksRow : OpenClaim := { program := "ytenpaaocemjljaa", sum := "7834f738a37f748acbdfd2a19a2d253e4bee880574726179a34860d7d6464418", func := "wireschema/wireschemalaw50.BalancePicks", spec := "balancePicks", unfollowed := true, recurses := true, apart := false }
def BalancePicksSaid : Prop := balancePicksRow.holds Try.pinned (OpenSpec.ofChange balancePicksSpec)

/-- ITS FALSE NEIGHBOUR: 'it returns false'. Refute it at one input. -/
def balancePicksWrong : ChangeSpec := { name := "balancePicks", fn := fun _ => fun
  | [d1, d2] => { results := [.lit (.bool false)], args := [d1, d2] }
  | _ => none }
def BalancePicksWrongFalsely : Prop := balancePicksRow.holds Try.pinned (OpenSpec.ofChange balancePicksWrong)

/-- 'wireschemalaw50.BalanceLeast': WHATEVER THE INPUT: true; the input reads as it did. -/
def balanceLeastSpec : ChangeSpec := { name := "balanceLeast", fn := fun _ => fun
  | [d1, d2] => { results := [.lit (.bool true)], args := [d1, d2] }
  | _ => none }
def balanceLeastRow : OpenClaim := { program := "ytenpaaocemjljaa", sum := "7834f738a37f748acbdfd2a19a2d253e4bee880574726179a34860d7d6464418", func := "wireschema/wireschemalaw50.BalanceLeast", spec := "balanceLeast", unfollowed := true, recurses := true, apart := false }
def BalanceLeastSaid : Prop := balanceLeastRow.holds Try.pinned (OpenSpec.ofChange balanceLeastSpec)

/-- ITS FALSE NEIGHBOUR: 'it returns false'. Refute it at one input. -/
def balanceLeastWrong : ChangeSpec := { name := "balanceLeast", fn := fun _ => fun
  | [d1, d2] => { results := [.lit (.bool false)], args := [d1, d2] }
  | _ => none }
def BalanceLeastWrongFalsely : Prop := balanceLeastRow.holds Try.pinned (OpenSpec.ofChange balanceLeastWrong)

/-- 'wireschemalaw50.BalanceSpreads': WHATEVER THE INPUT: true; the input reads as it did. -/
def balanceSpreadsSpec : ChangeSpec := { name := "balanceSpreads", fn := fun _ => fun
  | [d1, d2, d3] => { results := [.lit (.bool true)], args := [d1, d2, d3] }
  | _ => none }
def balanceSpreadsRow : OpenClaim := { program := "ytenpaaocemjljaa", sum := "7834f738a37f748acbdfd2a19a2d253e4bee880574726179a34860d7d6464418", func := "wireschema/wireschemalaw50.BalanceSpreads", spec := "balanceSpreads", unfollowed := true, recurses := true, apart := false }
def BalanceSpreadsSaid : Prop := balanceSpreadsRow.holds Try.pinned (OpenSpec.ofChange balanceSpreadsSpec)

/-- ITS FALSE NEIGHBOUR: 'it returns false'. Refute it at one input. -/
def balanceSpreadsWrong : ChangeSpec := { name := "balanceSpreads", fn := fun _ => fun
  | [d1, d2, d3] => { results := [.lit (.bool false)], args := [d1, d2, d3] }
  | _ => none }
def BalanceSpreadsWrongFalsely : Prop := balanceSpreadsRow.holds Try.pinned (OpenSpec.ofChange balanceSpreadsWrong)

/-- 'wireschemalaw50.BalanceEven': WHATEVER THE INPUT: true; the input reads as it did. -/
def balanceEvenSpec : ChangeSpec := { name := "balanceEven", fn := fun _ => fun
  | [d1, d2, d3] => { results := [.lit (.bool true)], args := [d1, d2, d3] }
  | _ => none }
def balanceEvenRow : OpenClaim := { program := "ytenpaaocemjljaa", sum := "7834f738a37f748acbdfd2a19a2d253e4bee880574726179a34860d7d6464418", func := "wireschema/wireschemalaw50.BalanceEven", spec := "balanceEven", unfollowed := true, recurses := true, apart := false }
def BalanceEvenSaid : Prop := balanceEvenRow.holds Try.pinned (OpenSpec.ofChange balanceEvenSpec)

/-- ITS FALSE NEIGHBOUR: 'it returns false'. Refute it at one input. -/
def balanceEvenWrong : ChangeSpec := { name := "balanceEven", fn := fun _ => fun
  | [d1, d2, d3] => { results := [.lit (.bool false)], args := [d1, d2, d3] }
  | _ => none }
def BalanceEvenWrongFalsely : Prop := balanceEvenRow.holds Try.pinned (OpenSpec.ofChange balanceEvenWrong)

/-- 'wireschemalaw50.BalanceLeaves': WHATEVER THE INPUT: true; the input reads as it did. -/
def balanceLeavesSpec : ChangeSpec := { name := "balanceLeaves", fn := fun _ => fun
  | [d1, d2, d3] => { results := [.lit (.bool true)], args := [d1, d2, d3] }
  | _ => none }
def balanceLeavesRow : OpenClaim := { program := "ytenpaaocemjljaa", sum := "7834f738a37f748acbdfd2a19a2d253e4bee880574726179a34860d7d6464418", func := "wireschema/wireschemalaw50.BalanceLeaves", spec := "balanceLeaves", unfollowed := true, recurses := true, apart := false }
def BalanceLeavesSaid : Prop := balanceLeavesRow.holds Try.pinned (OpenSpec.ofChange balanceLeavesSpec)

/-- ITS FALSE NEIGHBOUR: 'it returns false'. Refute it at one input. -/
def balanceLeavesWrong : ChangeSpec := { name := "balanceLeaves", fn := fun _ => fun
  | [d1, d2, d3] => { results := [.lit (.bool false)], args := [d1, d2, d3] }
  | _ => none }
def BalanceLeavesWrongFalsely : Prop := balanceLeavesRow.holds Try.pinned (OpenSpec.ofChange balanceLeavesWrong)

/-- 'wireschemalaw50.BalanceRuns': WHATEVER THE INPUT: true; the input reads as it did. -/
def balanceRunsSpec : ChangeSpec := { name := "balanceRuns", fn := fun _ => fun
  | [d1, d2] => { results := [.lit (.bool true)], args := [d1, d2] }
  | _ => none }
def balanceRunsRow : OpenClaim := { program := "ytenpaaocemjljaa", sum := "7834f738a37f748acbdfd2a19a2d253e4bee880574726179a34860d7d6464418", func := "wireschema/wireschemalaw50.BalanceRuns", spec := "balanceRuns", unfollowed := true, recurses := true, apart := false }
def BalanceRunsSaid : Prop := balanceRunsRow.holds Try.pinned (OpenSpec.ofChange balanceRunsSpec)

/-- ITS FALSE NEIGHBOUR: 'it returns false'. Refute it at one input. -/
def balanceRunsWrong : ChangeSpec := { name := "balanceRuns", fn := fun _ => fun
  | [d1, d2] => { results := [.lit (.bool false)], args := [d1, d2] }
  | _ => none }
def BalanceRunsWrongFalsely : Prop := balanceRunsRow.holds Try.pinned (OpenSpec.ofChange balanceRunsWrong)

/- THE SECOND FORM. 'bulk': how many values and letters a reading holds, each counted each time it is reached (what is shared counts as often as it is met; a slice's spare places count too). A statement '..UptoSaid' is the law's where the arguments, and the package variables that the reading takes, are together of bulk at most 1048576: NARROWER than '..Said'. Prove '..Said' where nothing that the law and all that it calls make is longer than what came in: it says more and counts as full. Else prove '..UptoSaid'. A law counts once. -/
mutual
def uptoBulk {H : Type} : DataW H → Nat
  | .lit (.string bytes) => bytes.length + 1
  | .lit _ => 1
  | .nil => 1
  | .ptr d => uptoBulk d + 1
  | .slice elems spare => uptoBulkAll elems + uptoBulkAll spare + 1
  | .agg parts => uptoBulkAll parts + 1
  | .iface _ d => uptoBulk d + 1
  | .map entries => uptoBulkEntries entries + 1
  | .held _ => 1
def uptoBulkAll {H : Type} : List (DataW H) → Nat
  | [] => 0
  | d :: r => uptoBulk d + uptoBulkAll r
def uptoBulkEntries {H : Type} : List (Lit × DataW H) → Nat
  | [] => 0
  | x :: r => uptoBulkEntry x + uptoBulkEntries r
def uptoBulkEntry {H : Type} : Lit × DataW H → Nat
  | (.string bytes, d) => bytes.length + uptoBulk d + 1
  | (_, d) => uptoBulk d + 1
 end
def uptoSmall : (H : Type) → List (DataW H) → Bool := fun _ ds => decide (uptoBulkAll ds ≤ 1048576)
def OpenSpec.upto (s : _root_.Go.ChangeSpec) : _root_.Go.OpenSpec := { _root_.Go.OpenSpec.ofChange s with cond := some uptoSmall }

/-- 'wireschemalaw50.BalanceChecks', WHERE WHAT IT READS IS OF BULK AT MOST 1048576: true; the input reads as it did. -/
def balanceChecksUptoRow : OpenClaim := { program := "ytenpaaocemjljaa", sum := "7834f738a37f748acbdfd2a19a2d253e4bee880574726179a34860d7d6464418", func := "wireschema/wireschemalaw50.BalanceChecks", spec := "balanceChecks", unfollowed := true, recurses := true, apart := false, narrowed := true }
def BalanceChecksUptoSaid : Prop := balanceChecksUptoRow.holds Try.pinned (OpenSpec.upto balanceChecksSpec)

/-- 'wireschemalaw50.BalancePicks', WHERE WHAT IT READS IS OF BULK AT MOST 1048576: true; the input reads as it did. -/
def balancePicksUptoRow : OpenClaim := { program := "ytenpaaocemjljaa", sum := "7834f738a37f748acbdfd2a19a2d253e4bee880574726179a34860d7d6464418", func := "wireschema/wireschemalaw50.BalancePicks", spec := "balancePicks", unfollowed := true, recurses := true, apart := false, narrowed := true }
def BalancePicksUptoSaid : Prop := balancePicksUptoRow.holds Try.pinned (OpenSpec.upto balancePicksSpec)

/-- 'wireschemalaw50.BalanceLeast', WHERE WHAT IT READS IS OF BULK AT MOST 1048576: true; the input reads as it did. -/
def balanceLeastUptoRow : OpenClaim := { program := "ytenpaaocemjljaa", sum := "7834f738a37f748acbdfd2a19a2d253e4bee880574726179a34860d7d6464418", func := "wireschema/wireschemalaw50.BalanceLeast", spec := "balanceLeast", unfollowed := true, recurses := true, apart := false, narrowed := true }
def BalanceLeastUptoSaid : Prop := balanceLeastUptoRow.holds Try.pinned (OpenSpec.upto balanceLeastSpec)

/-- 'wireschemalaw50.BalanceSpreads', WHERE WHAT IT READS IS OF BULK AT MOST 1048576: true; the input reads as it did. -/
def balanceSpreadsUptoRow : OpenClaim := { program := "ytenpaaocemjljaa", sum := "7834f738a37f748acbdfd2a19a2d253e4bee880574726179a34860d7d6464418", func := "wireschema/wireschemalaw50.BalanceSpreads", spec := "balanceSpreads", unfollowed := true, recurses := true, apart := false, narrowed := true }
def BalanceSpreadsUptoSaid : Prop := balanceSpreadsUptoRow.holds Try.pinned (OpenSpec.upto balanceSpreadsSpec)

/-- 'wireschemalaw50.BalanceEven', WHERE WHAT IT READS IS OF BULK AT MOST 1048576: true; the input reads as it did. -/
def balanceEvenUptoRow : OpenClaim := { program := "ytenpaaocemjljaa", sum := "7834f738a37f748acbdfd2a19a2d253e4bee880574726179a34860d7d6464418", func := "wireschema/wireschemalaw50.BalanceEven", spec := "balanceEven", unfollowed := true, recurses := true, apart := false, narrowed := true }
def BalanceEvenUptoSaid : Prop := balanceEvenUptoRow.holds Try.pinned (OpenSpec.upto balanceEvenSpec)

/-- 'wireschemalaw50.BalanceLeaves', WHERE WHAT IT READS IS OF BULK AT MOST 1048576: true; the input reads as it did. -/
def balanceLeavesUptoRow : OpenClaim := { program := "ytenpaaocemjljaa", sum := "7834f738a37f748acbdfd2a19a2d253e4bee880574726179a34860d7d6464418", func := "wireschema/wireschemalaw50.BalanceLeaves", spec := "balanceLeaves", unfollowed := true, recurses := true, apart := false, narrowed := true }
def BalanceLeavesUptoSaid : Prop := balanceLeavesUptoRow.holds Try.pinned (OpenSpec.upto balanceLeavesSpec)

/-- 'wireschemalaw50.BalanceRuns', WHERE WHAT IT READS IS OF BULK AT MOST 1048576: true; the input reads as it did. -/
def balanceRunsUptoRow : OpenClaim := { program := "ytenpaaocemjljaa", sum := "7834f738a37f748acbdfd2a19a2d253e4bee880574726179a34860d7d6464418", func := "wireschema/wireschemalaw50.BalanceRuns", spec := "balanceRuns", unfollowed := true, recurses := true, apart := false, narrowed := true }
def BalanceRunsUptoSaid : Prop := balanceRunsUptoRow.holds Try.pinned (OpenSpec.upto balanceRunsSpec)

end Rows
end Go.Proofs.Ytenpaaocemjljaa
