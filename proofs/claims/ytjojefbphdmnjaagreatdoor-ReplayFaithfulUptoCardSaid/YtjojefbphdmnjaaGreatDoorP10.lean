/- Replay: facts of the law's calls that no text of this claim is needed for. -/
import Derived.Test.YtjojefbphdmnjaaGreatDoorCards
import Derived.Test.YtjojefbphdmnjaaGreatDoorTie
import Derived.Deep.DeepHandedRow
import Derived.ProofKit
import Derived.OpenShut
import Derived.LaidMore
import Derived.Lay
import Derived.SevenTiedAt
import Derived.Stop.Joined
import Derived.ChangeOld
import Derived.ChangeSlices
import Derived.Lib.SmallJoins
namespace Go.Proofs.YtjojefbphdmnjaaGreatDoor
open Go.ChangeShapes Go.WideShapes Go.ChangeAt Go.RowKit Go.Joins
set_option linter.unusedVariables false
set_option linter.unusedSimpArgs false
set_option maxRecDepth 100000
set_option maxHeartbeats 0 in
theorem ac0 : joinedFacts Tryz.prog 3 Tryz.f3 (Rows.OpenSpec.upto Rows.replayFaithfulSpec).bare Rows.replayFaithfulUptoRow = true := by
  unfold joinedFacts
  simp only [Bool.and_eq_true]
  (repeat' apply And.intro) <;> (as_aux_lemma => kernel_rfl)
theorem agX : Tryz.prog.funcs.any Func.goes = false := by kernel_rfl
end Go.Proofs.YtjojefbphdmnjaaGreatDoor
