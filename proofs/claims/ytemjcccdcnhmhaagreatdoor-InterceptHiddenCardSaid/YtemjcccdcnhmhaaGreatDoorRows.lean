/-
  NARROWER THAN 'FOR EVERY INPUT', by the rows' own cells (each row's printed sentence says how): InterceptBefores: laid · InterceptHides: loops, laid · InterceptOrdered: laid · InterceptHidden: loops, laid.
  DERIVED. THE GIVEN ROWS OF THIS SEAT. 4 by the template 'for every input the law returns true; each argument reads behind the call as it read before'; 0 by the template 'total and deterministic' (their statements: YtemjcccdcnhmhaaGreatDoorTotals.lean).
  GIVEN WITH THE SEED: the statements are not yours to turn. If you find one false, say at which input.
  Laid BY PROGRAM, IN A SANDBOX (cutbox-rows.mjs): the forced cells as the released guide's own fill.sh prints them over the translation 7e71882fff4530df… (all of the seat's roots in one cut). By AI agents, Wed Nov 11 2026. No macro, syntax, notation, axiom, sorry.
-/
import Derived.Test.YtemjcccdcnhmhaaGreatDoorChecked
import GoSem.PinnedTables
import GoSem.Claim
import GoSem.ClaimJoined
import GoSem.ClaimMapViews
import Derived.JoinedTies
import Derived.KernelRfl
namespace Go.Proofs.YtemjcccdcnhmhaaGreatDoor
/- THE CELL 'sum', in the pinned program and in every row, IS THE sha256 OF THE DUMP (.gsa) THAT YtemjcccdcnhmhaaGreatDoorProg.lean LOADS. Nothing in Lean hashes anything: it is a label: what it is worth is what the hold of that sum in a sandbox is worth. -/
noncomputable def Tryz.pinned : Pinned := { name := "ytemjcccdcnhmhaagreatdoor", sum := "7e71882fff4530df48ecb995558dfaaf0299b623c8ebb8cf2b28c3d6c3a02444", checked := Tryz.checked }
namespace Rows
def none {H : Type} : Left H := { results := [], args := [] }

/- WHAT THE LISTED PACKAGE-LEVEL VARIABLES READ AS WHEN THE CALL BEGINS. Each datum BY PROGRAM (the guide's laid-datum.mjs) off the statement by which the dump's own 'gosem.cut.vars' lays the variable. In a bare row this is a premise. The card (YtemjcccdcnhmhaaGreatDoorCards.lean) ties it to the program's text. -/
def laid_unicode_utf8_acceptRanges {H : Type} : DataW H := .agg [.agg [.lit (.int .u8 128), .lit (.int .u8 191)], .agg [.lit (.int .u8 160), .lit (.int .u8 191)], .agg [.lit (.int .u8 128), .lit (.int .u8 159)], .agg [.lit (.int .u8 144), .lit (.int .u8 191)], .agg [.lit (.int .u8 128), .lit (.int .u8 143)], .agg [.lit (.int .u8 0), .lit (.int .u8 0)], .agg [.lit (.int .u8 0), .lit (.int .u8 0)], .agg [.lit (.int .u8 0), .lit (.int .u8 0)], .agg [.lit (.int .u8 0), .lit (.int .u8 0)], .agg [.lit (.int .u8 0), .lit (.int .u8 0)], .agg [.lit (.int .u8 0), .lit (.int .u8 0)], .agg [.lit (.int .u8 0), .lit (.int .u8 0)], .agg [.lit (.int .u8 0), .lit (.int .u8 0)], .agg [.lit (.int .u8 0), .lit (.int .u8 0)], .agg [.lit (.int .u8 0), .lit (.int .u8 0)], .agg [.lit (.int .u8 0), .lit (.int .u8 0)]]
def laid_wireschema_status_codes {H : Type} : DataW H := .agg [.agg [.lit (.int .i64 0), .lit (.int .i64 0)], .agg [.lit (.int .i64 23), .lit (.int .i64 3)], .agg [.lit (.int .i64 21), .lit (.int .i64 6)], .agg [.lit (.int .i64 22), .lit (.int .i64 7)], .agg [.lit (.int .i64 3), .lit (.int .i64 7)], .agg [.lit (.int .i64 17), .lit (.int .i64 7)], .agg [.lit (.int .i64 10), .lit (.int .i64 4)], .agg [.lit (.int .i64 9), .lit (.int .i64 5)], .agg [.lit (.int .i64 20), .lit (.int .i64 8)], .agg [.lit (.int .i64 24), .lit (.int .i64 9)], .agg [.lit (.int .i64 25), .lit (.int .i64 13)], .agg [.lit (.int .i64 11), .lit (.int .i64 11)], .agg [.lit (.int .i64 19), .lit (.int .i64 11)]]
/-- One of Go's own tables, pinned by name: the form's constant. -/
def laid_unicode_utf8_first : DataW Unit := Go.Pinned.utf8First

/-- 'wireschemalaw51.InterceptBefores': WHATEVER THE INPUT: true; the input reads as it did. -/
def interceptBeforesSpec : ChangeSpec := { name := "interceptBefores", fn := fun _ => fun
  | [d1, d2, d3, d4] => { results := [.lit (.bool true)], args := [d1, d2, d3, d4] }
  | _ => none }
def interceptBeforesRow : OpenClaim := { program := "ytemjcccdcnhmhaagreatdoor", sum := "7e71882fff4530df48ecb995558dfaaf0299b623c8ebb8cf2b28c3d6c3a02444", func := "wireschema/wireschemalaw51.InterceptBefores", spec := "interceptBefores", inPlace := ["internal/bytealg.IndexByteString", "internal/bytealg.IndexString", "slices.overlaps[wireschema/api.Meta]", "slices.overlaps[wireschema/api.Trace]"], unfollowed := true, recurses := true, named := ["unicode/utf8.first", "unicode/utf8.acceptRanges", "wireschema/status.codes", "internal/bytealg.MaxLen"], apart := false, laid := [("unicode/utf8.acceptRanges", laid_unicode_utf8_acceptRanges), ("wireschema/status.codes", laid_wireschema_status_codes), ("unicode/utf8.first", laid_unicode_utf8_first)] }
def InterceptBeforesSaid : Prop := interceptBeforesRow.holds Tryz.pinned (OpenSpec.ofChange interceptBeforesSpec)

/-- ITS FALSE NEIGHBOUR: 'it returns false'. Refute it at one input. -/
def interceptBeforesWrong : ChangeSpec := { name := "interceptBefores", fn := fun _ => fun
  | [d1, d2, d3, d4] => { results := [.lit (.bool false)], args := [d1, d2, d3, d4] }
  | _ => none }
def InterceptBeforesWrongFalsely : Prop := interceptBeforesRow.holds Tryz.pinned (OpenSpec.ofChange interceptBeforesWrong)

/-- 'wireschemalaw51.InterceptHides': WHATEVER THE INPUT: true; the input reads as it did. -/
def interceptHidesSpec : ChangeSpec := { name := "interceptHides", fn := fun _ => fun
  | [d1, d2, d3, d4] => { results := [.lit (.bool true)], args := [d1, d2, d3, d4] }
  | _ => none }
def interceptHidesRow : OpenClaim := { program := "ytemjcccdcnhmhaagreatdoor", sum := "7e71882fff4530df48ecb995558dfaaf0299b623c8ebb8cf2b28c3d6c3a02444", func := "wireschema/wireschemalaw51.InterceptHides", spec := "interceptHides", inPlace := ["internal/bytealg.IndexByteString", "internal/bytealg.IndexString", "slices.overlaps[wireschema/api.Meta]", "slices.overlaps[wireschema/api.Trace]"], unfollowed := true, recurses := true, named := ["unicode/utf8.first", "unicode/utf8.acceptRanges", "wireschema/status.codes", "internal/bytealg.MaxLen"], loops := true, apart := false, laid := [("unicode/utf8.acceptRanges", laid_unicode_utf8_acceptRanges), ("wireschema/status.codes", laid_wireschema_status_codes), ("unicode/utf8.first", laid_unicode_utf8_first)] }
def InterceptHidesSaid : Prop := interceptHidesRow.holds Tryz.pinned (OpenSpec.ofChange interceptHidesSpec)

/-- ITS FALSE NEIGHBOUR: 'it returns false'. Refute it at one input. -/
def interceptHidesWrong : ChangeSpec := { name := "interceptHides", fn := fun _ => fun
  | [d1, d2, d3, d4] => { results := [.lit (.bool false)], args := [d1, d2, d3, d4] }
  | _ => none }
def InterceptHidesWrongFalsely : Prop := interceptHidesRow.holds Tryz.pinned (OpenSpec.ofChange interceptHidesWrong)

/-- 'wireschemalaw51.InterceptOrdered': WHATEVER THE INPUT: true; the input reads as it did. -/
def interceptOrderedSpec : ChangeSpec := { name := "interceptOrdered", fn := fun _ => fun
  | [d1, d2, d3, d4, d5] => { results := [.lit (.bool true)], args := [d1, d2, d3, d4, d5] }
  | _ => none }
def interceptOrderedRow : OpenClaim := { program := "ytemjcccdcnhmhaagreatdoor", sum := "7e71882fff4530df48ecb995558dfaaf0299b623c8ebb8cf2b28c3d6c3a02444", func := "wireschema/wireschemalaw51.InterceptOrdered", spec := "interceptOrdered", inPlace := ["internal/bytealg.IndexByteString", "internal/bytealg.IndexString", "slices.overlaps[wireschema/api.Meta]", "slices.overlaps[wireschema/api.Trace]"], unfollowed := true, recurses := true, named := ["unicode/utf8.first", "unicode/utf8.acceptRanges", "wireschema/status.codes", "internal/bytealg.MaxLen"], apart := false, laid := [("unicode/utf8.acceptRanges", laid_unicode_utf8_acceptRanges), ("wireschema/status.codes", laid_wireschema_status_codes), ("unicode/utf8.first", laid_unicode_utf8_first)] }
def InterceptOrderedSaid : Prop := interceptOrderedRow.holds Tryz.pinned (OpenSpec.ofChange interceptOrderedSpec)

/-- ITS FALSE NEIGHBOUR: 'it returns false'. Refute it at one input. -/
def interceptOrderedWrong : ChangeSpec := { name := "interceptOrdered", fn := fun _ => fun
  | [d1, d2, d3, d4, d5] => { results := [.lit (.bool false)], args := [d1, d2, d3, d4, d5] }
  | _ => none }
def InterceptOrderedWrongFalsely : Prop := interceptOrderedRow.holds Tryz.pinned (OpenSpec.ofChange interceptOrderedWrong)

/-- 'wireschemalaw51.InterceptHidden': WHATEVER THE INPUT: true; the input reads as it did. -/
def interceptHiddenSpec : ChangeSpec := { name := "interceptHidden", fn := fun _ => fun
  | [d1, d2, d3] => { results := [.lit (.bool true)], args := [d1, d2, d3] }
  | _ => none }
def interceptHiddenRow : OpenClaim := { program := "ytemjcccdcnhmhaagreatdoor", sum := "7e71882fff4530df48ecb995558dfaaf0299b623c8ebb8cf2b28c3d6c3a02444", func := "wireschema/wireschemalaw51.InterceptHidden", spec := "interceptHidden", inPlace := ["internal/bytealg.IndexByteString", "internal/bytealg.IndexString", "slices.overlaps[wireschema/api.Meta]", "slices.overlaps[wireschema/api.Trace]"], unfollowed := true, recurses := true, named := ["unicode/utf8.first", "unicode/utf8.acceptRanges", "wireschema/status.codes", "internal/bytealg.MaxLen"], loops := true, apart := false, laid := [("unicode/utf8.acceptRanges", laid_unicode_utf8_acceptRanges), ("wireschema/status.codes", laid_wireschema_status_codes), ("unicode/utf8.first", laid_unicode_utf8_first)] }
def InterceptHiddenSaid : Prop := interceptHiddenRow.holds Tryz.pinned (OpenSpec.ofChange interceptHiddenSpec)

/-- ITS FALSE NEIGHBOUR: 'it returns false'. Refute it at one input. -/
def interceptHiddenWrong : ChangeSpec := { name := "interceptHidden", fn := fun _ => fun
  | [d1, d2, d3] => { results := [.lit (.bool false)], args := [d1, d2, d3] }
  | _ => none }
def InterceptHiddenWrongFalsely : Prop := interceptHiddenRow.holds Tryz.pinned (OpenSpec.ofChange interceptHiddenWrong)

/- THE SECOND FORM. 'bulk': how many values and letters a reading holds, each counted each time it is reached (what is shared counts as often as it is met; a slice's spare places count too). A statement '..UptoSaid' is the law's where the arguments, and the package variables that the reading takes, are together of bulk at most 1048576: NARROWER than '..Said'. Prove '..Said' where nothing that the law and all that it calls make is longer than what came in: it says more and counts as full. Else prove '..UptoSaid'. A law counts once. -/
mutual
def uptoBulk {H : Type} : DataW H → Nat
  | .lit (.string bytes) => bytes.length + 1
  | .lit _ => 1
  | .nil => 1
  | .ptr d => uptoBulk d + 1
  | .slice elems spare => uptoBulkAll elems + uptoBulkAll spare + 1
  | .agg parts => uptoBulkAll parts + 1
  | .iface _ d => uptoBulk d + 1
  | .map entries => uptoBulkEntries entries + 1
  | .held _ => 1
def uptoBulkAll {H : Type} : List (DataW H) → Nat
  | [] => 0
  | d :: r => uptoBulk d + uptoBulkAll r
def uptoBulkEntries {H : Type} : List (Lit × DataW H) → Nat
  | [] => 0
  | x :: r => uptoBulkEntry x + uptoBulkEntries r
def uptoBulkEntry {H : Type} : Lit × DataW H → Nat
  | (.string bytes, d) => bytes.length + uptoBulk d + 1
  | (_, d) => uptoBulk d + 1
 end
def uptoSmall : (H : Type) → List (DataW H) → Bool := fun _ ds => decide (uptoBulkAll ds ≤ 1048576)
def OpenSpec.upto (s : _root_.Go.ChangeSpec) : _root_.Go.OpenSpec := { _root_.Go.OpenSpec.ofChange s with cond := some uptoSmall }

/-- 'wireschemalaw51.InterceptBefores', WHERE WHAT IT READS IS OF BULK AT MOST 1048576: true; the input reads as it did. -/
def interceptBeforesUptoRow : OpenClaim := { program := "ytemjcccdcnhmhaagreatdoor", sum := "7e71882fff4530df48ecb995558dfaaf0299b623c8ebb8cf2b28c3d6c3a02444", func := "wireschema/wireschemalaw51.InterceptBefores", spec := "interceptBefores", inPlace := ["internal/bytealg.IndexByteString", "internal/bytealg.IndexString", "slices.overlaps[wireschema/api.Meta]", "slices.overlaps[wireschema/api.Trace]"], unfollowed := true, recurses := true, named := ["unicode/utf8.first", "unicode/utf8.acceptRanges", "wireschema/status.codes", "internal/bytealg.MaxLen"], apart := false, laid := [("unicode/utf8.acceptRanges", laid_unicode_utf8_acceptRanges), ("wireschema/status.codes", laid_wireschema_status_codes), ("unicode/utf8.first", laid_unicode_utf8_first)], narrowed := true }
def InterceptBeforesUptoSaid : Prop := interceptBeforesUptoRow.holds Tryz.pinned (OpenSpec.upto interceptBeforesSpec)

/-- 'wireschemalaw51.InterceptHides', WHERE WHAT IT READS IS OF BULK AT MOST 1048576: true; the input reads as it did. -/
def interceptHidesUptoRow : OpenClaim := { program := "ytemjcccdcnhmhaagreatdoor", sum := "7e71882fff4530df48ecb995558dfaaf0299b623c8ebb8cf2b28c3d6c3a02444", func := "wireschema/wireschemalaw51.InterceptHides", spec := "interceptHides", inPlace := ["internal/bytealg.IndexByteString", "internal/bytealg.IndexString", "slices.overlaps[wireschema/api.Meta]", "slices.overlaps[wireschema/api.Trace]"], unfollowed := true, recurses := true, named := ["unicode/utf8.first", "unicode/utf8.acceptRanges", "wireschema/status.codes", "internal/bytealg.MaxLen"], loops := true, apart := false, laid := [("unicode/utf8.acceptRanges", laid_unicode_utf8_acceptRanges), ("wireschema/status.codes", laid_wireschema_status_codes), ("unicode/utf8.first", laid_unicode_utf8_first)], narrowed := true }
def InterceptHidesUptoSaid : Prop := interceptHidesUptoRow.holds Tryz.pinned (OpenSpec.upto interceptHidesSpec)

/-- 'wireschemalaw51.InterceptOrdered', WHERE WHAT IT READS IS OF BULK AT MOST 1048576: true; the input reads as it did. -/
def interceptOrderedUptoRow : OpenClaim := { program := "ytemjcccdcnhmhaagreatdoor", sum := "7e71882fff4530df48ecb995558dfaaf0299b623c8ebb8cf2b28c3d6c3a02444", func := "wireschema/wireschemalaw51.InterceptOrdered", spec := "interceptOrdered", inPlace := ["internal/bytealg.IndexByteString", "internal/bytealg.IndexString", "slices.overlaps[wireschema/api.Meta]", "slices.overlaps[wireschema/api.Trace]"], unfollowed := true, recurses := true, named := ["unicode/utf8.first", "unicode/utf8.acceptRanges", "wireschema/status.codes", "internal/bytealg.MaxLen"], apart := false, laid := [("unicode/utf8.acceptRanges", laid_unicode_utf8_acceptRanges), ("wireschema/status.codes", laid_wireschema_status_codes), ("unicode/utf8.first", laid_unicode_utf8_first)], narrowed := true }
def InterceptOrderedUptoSaid : Prop := interceptOrderedUptoRow.holds Tryz.pinned (OpenSpec.upto interceptOrderedSpec)

/-- 'wireschemalaw51.InterceptHidden', WHERE WHAT IT READS IS OF BULK AT MOST 1048576: true; the input reads as it did. -/
def interceptHiddenUptoRow : OpenClaim := { program := "ytemjcccdcnhmhaagreatdoor", sum := "7e71882fff4530df48ecb995558dfaaf0299b623c8ebb8cf2b28c3d6c3a02444", func := "wireschema/wireschemalaw51.InterceptHidden", spec := "interceptHidden", inPlace := ["internal/bytealg.IndexByteString", "internal/bytealg.IndexString", "slices.overlaps[wireschema/api.Meta]", "slices.overlaps[wireschema/api.Trace]"], unfollowed := true, recurses := true, named := ["unicode/utf8.first", "unicode/utf8.acceptRanges", "wireschema/status.codes", "internal/bytealg.MaxLen"], loops := true, apart := false, laid := [("unicode/utf8.acceptRanges", laid_unicode_utf8_acceptRanges), ("wireschema/status.codes", laid_wireschema_status_codes), ("unicode/utf8.first", laid_unicode_utf8_first)], narrowed := true }
def InterceptHiddenUptoSaid : Prop := interceptHiddenUptoRow.holds Tryz.pinned (OpenSpec.upto interceptHiddenSpec)

end Rows
end Go.Proofs.YtemjcccdcnhmhaaGreatDoor
