/- Server: what is laid. -/
import Derived.Test.YtiibcbmenoaigaaGreatDoorA
import Derived.Test.YtiibcbmenoaigaaGreatDoorTie
import Derived.Test.YtiibcbmenoaigaaGreatDoorEng10
import Derived.ProofKit
import Derived.OpenShut
import Derived.LaidMore
import Derived.Lay
import Derived.SevenTiedAt
import Derived.Stop.Joined
import Derived.ChangeOld
import Derived.ChangeSlices
import Derived.Lib.SmallJoins
namespace Go.Proofs.YtiibcbmenoaigaaGreatDoor
open Go.ChangeShapes Go.WideShapes Go.ChangeAt Go.RowKit Go.Joins Go.Vc
set_option linter.unusedVariables false
set_option linter.unusedSimpArgs false
set_option maxRecDepth 100000
def laidL:List (String×DataW Unit):=[("unicode/utf8.acceptRanges",Rows.laid_unicode_utf8_acceptRanges),("unicode/utf8.first",Rows.laid_unicode_utf8_first)]
theorem gl_ok {W:World}(h:laidMetH Tryz.prog laidL W):GlOk S NoN W:=fun i d hd=>nomatch hd
theorem laid_world (os:Os)(args:Array Value):laidMetH Tryz.prog laidL (((World.laidAll Tryz.prog os laidL).forCall (fun _ _=>0) ⟨#[],args,[]⟩).memory):=by
 rw[MakeChecks.laidMetH_plain _ _ _ (by kernel_rfl)];exact laidMet_laidAll _ (by kernel_rfl) (by kernel_rfl)
end Go.Proofs.YtiibcbmenoaigaaGreatDoor
