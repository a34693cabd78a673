/- Replay: facts of the law's calls that no text of this claim is needed for. -/
import Derived.Test.YtenjnekcoapajaaGreatDoorCards
import Derived.Test.YtenjnekcoapajaaGreatDoorTie
import Derived.Test.YtenjnekcoapajaaGreatDoorQB
import Derived.Test.YtenjnekcoapajaaGreatDoorQC
import Derived.Test.YtenjnekcoapajaaGreatDoorQD
import Derived.Test.YtenjnekcoapajaaGreatDoorQE
import Derived.Deep.DeepHandedRow
import Derived.ProofKit
import Derived.OpenShut
import Derived.LaidMore
import Derived.Lay
import Derived.SevenTiedAt
import Derived.Stop.Joined
import Derived.ChangeOld
import Derived.ChangeSlices
import Derived.Lib.SmallJoins
namespace Go.Proofs.YtenjnekcoapajaaGreatDoor
open Go.ChangeShapes Go.WideShapes Go.ChangeAt Go.RowKit Go.Joins
set_option linter.unusedVariables false
set_option linter.unusedSimpArgs false
set_option maxRecDepth 100000
set_option maxHeartbeats 0 in
theorem closedCalls : joinedFacts Tryz.prog 3 Tryz.f3 (Rows.OpenSpec.upto Rows.replayWritesSpec).bare Rows.replayWritesUptoRow = true := by
  unfold joinedFacts
  simp only [Bool.and_eq_true]
  repeat' apply And.intro
  iterate 9 (focus (as_aux_lemma => kernel_rfl))
  exact calls1
  exact calls2
  exact calls3
  exact calls4
  all_goals (as_aux_lemma => kernel_rfl)
theorem closedGoes : Tryz.prog.funcs.any Func.goes = false := by kernel_rfl
end Go.Proofs.YtenjnekcoapajaaGreatDoor
