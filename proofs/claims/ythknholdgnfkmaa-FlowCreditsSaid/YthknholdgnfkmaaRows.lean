/-
  No cell of these rows narrows 'for every input' (looked for: loops, veiled, ifaces, maps, wideKeys, modest, calm, conditions, laid).
  DERIVED. THE GIVEN ROWS OF THIS SEAT. 5 by the template 'for every input the law returns true; each argument reads behind the call as it read before'; 0 by the template 'total and deterministic' (their statements: YthknholdgnfkmaaTotals.lean).
  GIVEN WITH THE SEED: the statements are not yours to turn. If you find one false, say at which input.
  Laid BY PROGRAM, IN A SANDBOX (cutbox-rows.mjs): the forced cells as the released guide's own fill.sh prints them over the translation f8e5e811340369f1… (all of the seat's roots in one cut). By AI agents, Wed Nov 11 2026. No macro, syntax, notation, axiom, sorry.
-/
import Derived.Test.YthknholdgnfkmaaChecked
import GoSem.Claim
import GoSem.ClaimJoined
import GoSem.ClaimMapViews
import Derived.JoinedTies
import Derived.KernelRfl
namespace Go.Proofs.Ythknholdgnfkmaa
/- THE CELL 'sum', in the pinned program and in every row, IS THE sha256 OF THE DUMP (.gsa) THAT YthknholdgnfkmaaProg.lean LOADS. Nothing in Lean hashes anything: it is a label: what it is worth is what the hold of that sum in a sandbox is worth. -/
noncomputable def Try.pinned : Pinned := { name := "ythknholdgnfkmaa", sum := "f8e5e811340369f1060cfb8a4b55723a71c8174f1833f7c14f488df844e2c1ad", checked := Try.checked }
namespace Rows
def none {H : Type} : Left H := { results := [], args := [] }

/-- 'wireschemalaw45.FlowWindows': WHATEVER THE INPUT: true; the input reads as it did. -/
def flowWindowsSpec : ChangeSpec := { name := "flowWindows", fn := fun _ => fun
  | [d1, d2] => { results := [.lit (.bool true)], args := [d1, d2] }
  | _ => none }
def flowWindowsRow : OpenClaim := { program := "ythknholdgnfkmaa", sum := "f8e5e811340369f1060cfb8a4b55723a71c8174f1833f7c14f488df844e2c1ad", func := "wireschema/wireschemalaw45.FlowWindows", spec := "flowWindows", unfollowed := true, recurses := true, apart := false }
def FlowWindowsSaid : Prop := flowWindowsRow.holds Try.pinned (OpenSpec.ofChange flowWindowsSpec)

/-- ITS FALSE NEIGHBOUR: 'it returns false'. Refute it at one input. -/
def flowWindowsWrong : ChangeSpec := { name := "flowWindows", fn := fun _ => fun
  | [d1, d2] => { results := [.lit (.bool false)], args := [d1, d2] }
  | _ => none }
def FlowWindowsWrongFalsely : Prop := flowWindowsRow.holds Try.pinned (OpenSpec.ofChange flowWindowsWrong)

/-- 'wireschemalaw45.FlowCredits': WHATEVER THE INPUT: true; the input reads as it did. -/
def flowCreditsSpec : ChangeSpec := { name := "flowCredits", fn := fun _ => fun
  | [d1, d2] => { results := [.lit (.bool true)], args := [d1, d2] }
  | _ => none }
def flowCreditsRow : OpenClaim := { program := "ythknholdgnfkmaa", sum := "f8e5e811340369f1060cfb8a4b55723a71c8174f1833f7c14f488df844e2c1ad", func := "wireschema/wireschemalaw45.FlowCredits", spec := "flowCredits", unfollowed := true, recurses := true, apart := false }
def FlowCreditsSaid : Prop := flowCreditsRow.holds Try.pinned (OpenSpec.ofChange flowCreditsSpec)

/-- ITS FALSE NEIGHBOUR: 'it returns false'. Refute it at one input. -/
def flowCreditsWrong : ChangeSpec := { name := "flowCredits", fn := fun _ => fun
  | [d1, d2] => { results := [.lit (.bool false)], args := [d1, d2] }
  | _ => none }
def FlowCreditsWrongFalsely : Prop := flowCreditsRow.holds Try.pinned (OpenSpec.ofChange flowCreditsWrong)

/-- 'wireschemalaw45.FlowFits': WHATEVER THE INPUT: true; the input reads as it did. -/
def flowFitsSpec : ChangeSpec := { name := "flowFits", fn := fun _ => fun
  | [d1, d2] => { results := [.lit (.bool true)], args := [d1, d2] }
  | _ => none }
def flowFitsRow : OpenClaim := { program := "ythknholdgnfkmaa", sum := "f8e5e811340369f1060cfb8a4b55723a71c8174f1833f7c14f488df844e2c1ad", func := "wireschema/wireschemalaw45.FlowFits", spec := "flowFits", unfollowed := true, recurses := true, apart := false }
def FlowFitsSaid : Prop := flowFitsRow.holds Try.pinned (OpenSpec.ofChange flowFitsSpec)

/-- ITS FALSE NEIGHBOUR: 'it returns false'. Refute it at one input. -/
def flowFitsWrong : ChangeSpec := { name := "flowFits", fn := fun _ => fun
  | [d1, d2] => { results := [.lit (.bool false)], args := [d1, d2] }
  | _ => none }
def FlowFitsWrongFalsely : Prop := flowFitsRow.holds Try.pinned (OpenSpec.ofChange flowFitsWrong)

/-- 'wireschemalaw45.FlowBounded': WHATEVER THE INPUT: true; the input reads as it did. -/
def flowBoundedSpec : ChangeSpec := { name := "flowBounded", fn := fun _ => fun
  | [d1, d2] => { results := [.lit (.bool true)], args := [d1, d2] }
  | _ => none }
def flowBoundedRow : OpenClaim := { program := "ythknholdgnfkmaa", sum := "f8e5e811340369f1060cfb8a4b55723a71c8174f1833f7c14f488df844e2c1ad", func := "wireschema/wireschemalaw45.FlowBounded", spec := "flowBounded", unfollowed := true, recurses := true, apart := false }
def FlowBoundedSaid : Prop := flowBoundedRow.holds Try.pinned (OpenSpec.ofChange flowBoundedSpec)

/-- ITS FALSE NEIGHBOUR: 'it returns false'. Refute it at one input. -/
def flowBoundedWrong : ChangeSpec := { name := "flowBounded", fn := fun _ => fun
  | [d1, d2] => { results := [.lit (.bool false)], args := [d1, d2] }
  | _ => none }
def FlowBoundedWrongFalsely : Prop := flowBoundedRow.holds Try.pinned (OpenSpec.ofChange flowBoundedWrong)

/-- 'wireschemalaw45.FlowPair': WHATEVER THE INPUT: true; the input reads as it did. -/
def flowPairSpec : ChangeSpec := { name := "flowPair", fn := fun _ => fun
  | [d1, d2] => { results := [.lit (.bool true)], args := [d1, d2] }
  | _ => none }
def flowPairRow : OpenClaim := { program := "ythknholdgnfkmaa", sum := "f8e5e811340369f1060cfb8a4b55723a71c8174f1833f7c14f488df844e2c1ad", func := "wireschema/wireschemalaw45.FlowPair", spec := "flowPair", unfollowed := true, recurses := true, apart := false }
def FlowPairSaid : Prop := flowPairRow.holds Try.pinned (OpenSpec.ofChange flowPairSpec)

/-- ITS FALSE NEIGHBOUR: 'it returns false'. Refute it at one input. -/
def flowPairWrong : ChangeSpec := { name := "flowPair", fn := fun _ => fun
  | [d1, d2] => { results := [.lit (.bool false)], args := [d1, d2] }
  | _ => none }
def FlowPairWrongFalsely : Prop := flowPairRow.holds Try.pinned (OpenSpec.ofChange flowPairWrong)

/- THE SECOND FORM. 'bulk': how many values and letters a reading holds, each counted each time it is reached (what is shared counts as often as it is met; a slice's spare places count too). A statement '..UptoSaid' is the law's where the arguments, and the package variables that the reading takes, are together of bulk at most 1048576: NARROWER than '..Said'. Prove '..Said' where nothing that the law and all that it calls make is longer than what came in: it says more and counts as full. Else prove '..UptoSaid'. A law counts once. -/
mutual
def uptoBulk {H : Type} : DataW H → Nat
  | .lit (.string bytes) => bytes.length + 1
  | .lit _ => 1
  | .nil => 1
  | .ptr d => uptoBulk d + 1
  | .slice elems spare => uptoBulkAll elems + uptoBulkAll spare + 1
  | .agg parts => uptoBulkAll parts + 1
  | .iface _ d => uptoBulk d + 1
  | .map entries => uptoBulkEntries entries + 1
  | .held _ => 1
def uptoBulkAll {H : Type} : List (DataW H) → Nat
  | [] => 0
  | d :: r => uptoBulk d + uptoBulkAll r
def uptoBulkEntries {H : Type} : List (Lit × DataW H) → Nat
  | [] => 0
  | x :: r => uptoBulkEntry x + uptoBulkEntries r
def uptoBulkEntry {H : Type} : Lit × DataW H → Nat
  | (.string bytes, d) => bytes.length + uptoBulk d + 1
  | (_, d) => uptoBulk d + 1
 end
def uptoSmall : (H : Type) → List (DataW H) → Bool := fun _ ds => decide (uptoBulkAll ds ≤ 1048576)
def OpenSpec.upto (s : _root_.Go.ChangeSpec) : _root_.Go.OpenSpec := { _root_.Go.OpenSpec.ofChange s with cond := some uptoSmall }

/-- 'wireschemalaw45.FlowWindows', WHERE WHAT IT READS IS OF BULK AT MOST 1048576: true; the input reads as it did. -/
def flowWindowsUptoRow : OpenClaim := { program := "ythknholdgnfkmaa", sum := "f8e5e811340369f1060cfb8a4b55723a71c8174f1833f7c14f488df844e2c1ad", func := "wireschema/wireschemalaw45.FlowWindows", spec := "flowWindows", unfollowed := true, recurses := true, apart := false, narrowed := true }
def FlowWindowsUptoSaid : Prop := flowWindowsUptoRow.holds Try.pinned (OpenSpec.upto flowWindowsSpec)

/-- 'wireschemalaw45.FlowCredits', WHERE WHAT IT READS IS OF BULK AT MOST 1048576: true; the input reads as it did. -/
def flowCreditsUptoRow : OpenClaim := { program := "ythknholdgnfkmaa", sum := "f8e5e811340369f1060cfb8a4b55723a71c8174f1833f7c14f488df844e2c1ad", func := "wireschema/wireschemalaw45.FlowCredits", spec := "flowCredits", unfollowed := true, recurses := true, apart := false, narrowed := true }
def FlowCreditsUptoSaid : Prop := flowCreditsUptoRow.holds Try.pinned (OpenSpec.upto flowCreditsSpec)

/-- 'wireschemalaw45.FlowFits', WHERE WHAT IT READS IS OF BULK AT MOST 1048576: true; the input reads as it did. -/
def flowFitsUptoRow : OpenClaim := { program := "ythknholdgnfkmaa", sum := "f8e5e811340369f1060cfb8a4b55723a71c8174f1833f7c14f488df844e2c1ad", func := "wireschema/wireschemalaw45.FlowFits", spec := "flowFits", unfollowed := true, recurses := true, apart := false, narrowed := true }
def FlowFitsUptoSaid : Prop := flowFitsUptoRow.holds Try.pinned (OpenSpec.upto flowFitsSpec)

/-- 'wireschemalaw45.FlowBounded', WHERE WHAT IT READS IS OF BULK AT MOST 1048576: true; the input reads as it did. -/
def flowBoundedUptoRow : OpenClaim := { program := "ythknholdgnfkmaa", sum := "f8e5e811340369f1060cfb8a4b55723a71c8174f1833f7c14f488df844e2c1ad", func := "wireschema/wireschemalaw45.FlowBounded", spec := "flowBounded", unfollowed := true, recurses := true, apart := false, narrowed := true }
def FlowBoundedUptoSaid : Prop := flowBoundedUptoRow.holds Try.pinned (OpenSpec.upto flowBoundedSpec)

/-- 'wireschemalaw45.FlowPair', WHERE WHAT IT READS IS OF BULK AT MOST 1048576: true; the input reads as it did. -/
def flowPairUptoRow : OpenClaim := { program := "ythknholdgnfkmaa", sum := "f8e5e811340369f1060cfb8a4b55723a71c8174f1833f7c14f488df844e2c1ad", func := "wireschema/wireschemalaw45.FlowPair", spec := "flowPair", unfollowed := true, recurses := true, apart := false, narrowed := true }
def FlowPairUptoSaid : Prop := flowPairUptoRow.holds Try.pinned (OpenSpec.upto flowPairSpec)

end Rows
end Go.Proofs.Ythknholdgnfkmaa
