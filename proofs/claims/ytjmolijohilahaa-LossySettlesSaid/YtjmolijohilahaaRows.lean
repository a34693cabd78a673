/-
  No cell of these rows narrows 'for every input' (looked for: loops, veiled, ifaces, maps, wideKeys, modest, calm, conditions, laid).
  DERIVED. THE GIVEN ROWS OF THIS SEAT. 6 by the template 'for every input the law returns true; each argument reads behind the call as it read before'; 0 by the template 'total and deterministic' (their statements: YtjmolijohilahaaTotals.lean).
  GIVEN WITH THE SEED: the statements are not yours to turn. If you find one false, say at which input.
  Laid BY PROGRAM, IN A SANDBOX (cutbox-rows.mjs): the forced cells as the released guide's own fill.sh prints them over the translation 96f8c102ce4679f2… (all of the seat's roots in one cut). By AI agents, Wed Nov 11 2026. No macro, syntax, notation, axiom, sorry.
-/
import Derived.Test.YtjmolijohilahaaChecked
import GoSem.Claim
import GoSem.ClaimJoined
import GoSem.ClaimMapViews
import Derived.JoinedTies
import Derived.KernelRfl
namespace Go.Proofs.Ytjmolijohilahaa
/- THE CELL 'sum', in the pinned program and in every row, IS THE sha256 OF THE DUMP (.gsa) THAT YtjmolijohilahaaProg.lean LOADS. Nothing in Lean hashes anything: it is a label: what it is worth is what the hold of that sum in a sandbox is worth. -/
noncomputable def Try.pinned : Pinned := { name := "ytjmolijohilahaa", sum := "96f8c102ce4679f249a34e06521f3046cb3fc7069d82579c3fc01324f64ab365", checked := Try.checked }
namespace Rows
def none {H : Type} : Left H := { results := [], args := [] }

/-- 'wireschemalaw48.LossyValids': WHATEVER THE INPUT: true; the input reads as it did. -/
def lossyValidsSpec : ChangeSpec := { name := "lossyValids", fn := fun _ => fun
  | [d] => { results := [.lit (.bool true)], args := [d] }
  | _ => none }
def lossyValidsRow : OpenClaim := { program := "ytjmolijohilahaa", sum := "96f8c102ce4679f249a34e06521f3046cb3fc7069d82579c3fc01324f64ab365", func := "wireschema/wireschemalaw48.LossyValids", spec := "lossyValids", inPlace := ["slices.overlaps[wireschema/api.Packet]"], apart := false }
def LossyValidsSaid : Prop := lossyValidsRow.holds Try.pinned (OpenSpec.ofChange lossyValidsSpec)

/-- ITS FALSE NEIGHBOUR: 'it returns false'. Refute it at one input. -/
def lossyValidsWrong : ChangeSpec := { name := "lossyValids", fn := fun _ => fun
  | [d] => { results := [.lit (.bool false)], args := [d] }
  | _ => none }
def LossyValidsWrongFalsely : Prop := lossyValidsRow.holds Try.pinned (OpenSpec.ofChange lossyValidsWrong)

/-- 'wireschemalaw48.LossySends': WHATEVER THE INPUT: true; the input reads as it did. -/
def lossySendsSpec : ChangeSpec := { name := "lossySends", fn := fun _ => fun
  | [d1, d2] => { results := [.lit (.bool true)], args := [d1, d2] }
  | _ => none }
def lossySendsRow : OpenClaim := { program := "ytjmolijohilahaa", sum := "96f8c102ce4679f249a34e06521f3046cb3fc7069d82579c3fc01324f64ab365", func := "wireschema/wireschemalaw48.LossySends", spec := "lossySends", inPlace := ["slices.overlaps[wireschema/api.Packet]"], apart := false }
def LossySendsSaid : Prop := lossySendsRow.holds Try.pinned (OpenSpec.ofChange lossySendsSpec)

/-- ITS FALSE NEIGHBOUR: 'it returns false'. Refute it at one input. -/
def lossySendsWrong : ChangeSpec := { name := "lossySends", fn := fun _ => fun
  | [d1, d2] => { results := [.lit (.bool false)], args := [d1, d2] }
  | _ => none }
def LossySendsWrongFalsely : Prop := lossySendsRow.holds Try.pinned (OpenSpec.ofChange lossySendsWrong)

/-- 'wireschemalaw48.LossyReceives': WHATEVER THE INPUT: true; the input reads as it did. -/
def lossyReceivesSpec : ChangeSpec := { name := "lossyReceives", fn := fun _ => fun
  | [d1, d2] => { results := [.lit (.bool true)], args := [d1, d2] }
  | _ => none }
def lossyReceivesRow : OpenClaim := { program := "ytjmolijohilahaa", sum := "96f8c102ce4679f249a34e06521f3046cb3fc7069d82579c3fc01324f64ab365", func := "wireschema/wireschemalaw48.LossyReceives", spec := "lossyReceives", inPlace := ["slices.overlaps[wireschema/api.Packet]"], apart := false }
def LossyReceivesSaid : Prop := lossyReceivesRow.holds Try.pinned (OpenSpec.ofChange lossyReceivesSpec)

/-- ITS FALSE NEIGHBOUR: 'it returns false'. Refute it at one input. -/
def lossyReceivesWrong : ChangeSpec := { name := "lossyReceives", fn := fun _ => fun
  | [d1, d2] => { results := [.lit (.bool false)], args := [d1, d2] }
  | _ => none }
def LossyReceivesWrongFalsely : Prop := lossyReceivesRow.holds Try.pinned (OpenSpec.ofChange lossyReceivesWrong)

/-- 'wireschemalaw48.LossyKeeps': WHATEVER THE INPUT: true; the input reads as it did. -/
def lossyKeepsSpec : ChangeSpec := { name := "lossyKeeps", fn := fun _ => fun
  | [d1, d2, d3] => { results := [.lit (.bool true)], args := [d1, d2, d3] }
  | _ => none }
def lossyKeepsRow : OpenClaim := { program := "ytjmolijohilahaa", sum := "96f8c102ce4679f249a34e06521f3046cb3fc7069d82579c3fc01324f64ab365", func := "wireschema/wireschemalaw48.LossyKeeps", spec := "lossyKeeps", inPlace := ["slices.overlaps[wireschema/api.Packet]"], apart := false }
def LossyKeepsSaid : Prop := lossyKeepsRow.holds Try.pinned (OpenSpec.ofChange lossyKeepsSpec)

/-- ITS FALSE NEIGHBOUR: 'it returns false'. Refute it at one input. -/
def lossyKeepsWrong : ChangeSpec := { name := "lossyKeeps", fn := fun _ => fun
  | [d1, d2, d3] => { results := [.lit (.bool false)], args := [d1, d2, d3] }
  | _ => none }
def LossyKeepsWrongFalsely : Prop := lossyKeepsRow.holds Try.pinned (OpenSpec.ofChange lossyKeepsWrong)

/-- 'wireschemalaw48.LossyPrefix': WHATEVER THE INPUT: true; the input reads as it did. -/
def lossyPrefixSpec : ChangeSpec := { name := "lossyPrefix", fn := fun _ => fun
  | [d] => { results := [.lit (.bool true)], args := [d] }
  | _ => none }
def lossyPrefixRow : OpenClaim := { program := "ytjmolijohilahaa", sum := "96f8c102ce4679f249a34e06521f3046cb3fc7069d82579c3fc01324f64ab365", func := "wireschema/wireschemalaw48.LossyPrefix", spec := "lossyPrefix", inPlace := ["slices.overlaps[wireschema/api.Packet]"], apart := false }
def LossyPrefixSaid : Prop := lossyPrefixRow.holds Try.pinned (OpenSpec.ofChange lossyPrefixSpec)

/-- ITS FALSE NEIGHBOUR: 'it returns false'. Refute it at one input. -/
def lossyPrefixWrong : ChangeSpec := { name := "lossyPrefix", fn := fun _ => fun
  | [d] => { results := [.lit (.bool false)], args := [d] }
  | _ => none }
def LossyPrefixWrongFalsely : Prop := lossyPrefixRow.holds Try.pinned (OpenSpec.ofChange lossyPrefixWrong)

/-- 'wireschemalaw48.LossySettles': WHATEVER THE INPUT: true; the input reads as it did. -/
def lossySettlesSpec : ChangeSpec := { name := "lossySettles", fn := fun _ => fun
  | [d] => { results := [.lit (.bool true)], args := [d] }
  | _ => none }
def lossySettlesRow : OpenClaim := { program := "ytjmolijohilahaa", sum := "96f8c102ce4679f249a34e06521f3046cb3fc7069d82579c3fc01324f64ab365", func := "wireschema/wireschemalaw48.LossySettles", spec := "lossySettles", inPlace := ["slices.overlaps[wireschema/api.Packet]"], apart := false }
def LossySettlesSaid : Prop := lossySettlesRow.holds Try.pinned (OpenSpec.ofChange lossySettlesSpec)

/-- ITS FALSE NEIGHBOUR: 'it returns false'. Refute it at one input. -/
def lossySettlesWrong : ChangeSpec := { name := "lossySettles", fn := fun _ => fun
  | [d] => { results := [.lit (.bool false)], args := [d] }
  | _ => none }
def LossySettlesWrongFalsely : Prop := lossySettlesRow.holds Try.pinned (OpenSpec.ofChange lossySettlesWrong)

/- THE SECOND FORM. 'bulk': how many values and letters a reading holds, each counted each time it is reached (what is shared counts as often as it is met; a slice's spare places count too). A statement '..UptoSaid' is the law's where the arguments, and the package variables that the reading takes, are together of bulk at most 1048576: NARROWER than '..Said'. Prove '..Said' where nothing that the law and all that it calls make is longer than what came in: it says more and counts as full. Else prove '..UptoSaid'. A law counts once. -/
mutual
def uptoBulk {H : Type} : DataW H → Nat
  | .lit (.string bytes) => bytes.length + 1
  | .lit _ => 1
  | .nil => 1
  | .ptr d => uptoBulk d + 1
  | .slice elems spare => uptoBulkAll elems + uptoBulkAll spare + 1
  | .agg parts => uptoBulkAll parts + 1
  | .iface _ d => uptoBulk d + 1
  | .map entries => uptoBulkEntries entries + 1
  | .held _ => 1
def uptoBulkAll {H : Type} : List (DataW H) → Nat
  | [] => 0
  | d :: r => uptoBulk d + uptoBulkAll r
def uptoBulkEntries {H : Type} : List (Lit × DataW H) → Nat
  | [] => 0
  | x :: r => uptoBulkEntry x + uptoBulkEntries r
def uptoBulkEntry {H : Type} : Lit × DataW H → Nat
  | (.string bytes, d) => bytes.length + uptoBulk d + 1
  | (_, d) => uptoBulk d + 1
 end
def uptoSmall : (H : Type) → List (DataW H) → Bool := fun _ ds => decide (uptoBulkAll ds ≤ 1048576)
def OpenSpec.upto (s : _root_.Go.ChangeSpec) : _root_.Go.OpenSpec := { _root_.Go.OpenSpec.ofChange s with cond := some uptoSmall }

/-- 'wireschemalaw48.LossyValids', WHERE WHAT IT READS IS OF BULK AT MOST 1048576: true; the input reads as it did. -/
def lossyValidsUptoRow : OpenClaim := { program := "ytjmolijohilahaa", sum := "96f8c102ce4679f249a34e06521f3046cb3fc7069d82579c3fc01324f64ab365", func := "wireschema/wireschemalaw48.LossyValids", spec := "lossyValids", inPlace := ["slices.overlaps[wireschema/api.Packet]"], apart := false, narrowed := true }
def LossyValidsUptoSaid : Prop := lossyValidsUptoRow.holds Try.pinned (OpenSpec.upto lossyValidsSpec)

/-- 'wireschemalaw48.LossySends', WHERE WHAT IT READS IS OF BULK AT MOST 1048576: true; the input reads as it did. -/
def lossySendsUptoRow : OpenClaim := { program := "ytjmolijohilahaa", sum := "96f8c102ce4679f249a34e06521f3046cb3fc7069d82579c3fc01324f64ab365", func := "wireschema/wireschemalaw48.LossySends", spec := "lossySends", inPlace := ["slices.overlaps[wireschema/api.Packet]"], apart := false, narrowed := true }
def LossySendsUptoSaid : Prop := lossySendsUptoRow.holds Try.pinned (OpenSpec.upto lossySendsSpec)

/-- 'wireschemalaw48.LossyReceives', WHERE WHAT IT READS IS OF BULK AT MOST 1048576: true; the input reads as it did. -/
def lossyReceivesUptoRow : OpenClaim := { program := "ytjmolijohilahaa", sum := "96f8c102ce4679f249a34e06521f3046cb3fc7069d82579c3fc01324f64ab365", func := "wireschema/wireschemalaw48.LossyReceives", spec := "lossyReceives", inPlace := ["slices.overlaps[wireschema/api.Packet]"], apart := false, narrowed := true }
def LossyReceivesUptoSaid : Prop := lossyReceivesUptoRow.holds Try.pinned (OpenSpec.upto lossyReceivesSpec)

/-- 'wireschemalaw48.LossyKeeps', WHERE WHAT IT READS IS OF BULK AT MOST 1048576: true; the input reads as it did. -/
def lossyKeepsUptoRow : OpenClaim := { program := "ytjmolijohilahaa", sum := "96f8c102ce4679f249a34e06521f3046cb3fc7069d82579c3fc01324f64ab365", func := "wireschema/wireschemalaw48.LossyKeeps", spec := "lossyKeeps", inPlace := ["slices.overlaps[wireschema/api.Packet]"], apart := false, narrowed := true }
def LossyKeepsUptoSaid : Prop := lossyKeepsUptoRow.holds Try.pinned (OpenSpec.upto lossyKeepsSpec)

/-- 'wireschemalaw48.LossyPrefix', WHERE WHAT IT READS IS OF BULK AT MOST 1048576: true; the input reads as it did. -/
def lossyPrefixUptoRow : OpenClaim := { program := "ytjmolijohilahaa", sum := "96f8c102ce4679f249a34e06521f3046cb3fc7069d82579c3fc01324f64ab365", func := "wireschema/wireschemalaw48.LossyPrefix", spec := "lossyPrefix", inPlace := ["slices.overlaps[wireschema/api.Packet]"], apart := false, narrowed := true }
def LossyPrefixUptoSaid : Prop := lossyPrefixUptoRow.holds Try.pinned (OpenSpec.upto lossyPrefixSpec)

/-- 'wireschemalaw48.LossySettles', WHERE WHAT IT READS IS OF BULK AT MOST 1048576: true; the input reads as it did. -/
def lossySettlesUptoRow : OpenClaim := { program := "ytjmolijohilahaa", sum := "96f8c102ce4679f249a34e06521f3046cb3fc7069d82579c3fc01324f64ab365", func := "wireschema/wireschemalaw48.LossySettles", spec := "lossySettles", inPlace := ["slices.overlaps[wireschema/api.Packet]"], apart := false, narrowed := true }
def LossySettlesUptoSaid : Prop := lossySettlesUptoRow.holds Try.pinned (OpenSpec.upto lossySettlesSpec)

end Rows
end Go.Proofs.Ytjmolijohilahaa
