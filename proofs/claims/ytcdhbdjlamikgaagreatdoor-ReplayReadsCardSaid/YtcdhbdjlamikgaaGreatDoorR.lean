/-
  The run of function 10 without arguments: what its calls give is found by running them, and kept; and the contract that it gives.
-/
import Derived.Test.YtcdhbdjlamikgaaGreatDoorX
import Derived.Test.YtcdhbdjlamikgaaGreatDoorEng19
import Derived.Lib.Strings
import Derived.Lib.Slices
import Derived.Lib.Walk
import Derived.Lib.Bytealg
import Derived.Lib.Builder
namespace Go.Proofs.YtcdhbdjlamikgaaGreatDoor
open Go.RowKit Go.Vc
set_option linter.unusedVariables false
set_option maxRecDepth 100000
set_option maxHeartbeats 4000000
/-- The contracts that are there before the first run. -/
noncomputable def runT0 : List (Nat × Ct U) := [(60, ctCheck 91), (118, ctClone 2 16 224), (215, ctClone 4 40 283), (243, ctPure gIndexByte), (277, ctPure gCount), (288, ctClone 8 136 276), (350, ctClone 7 128 50), (399, ctClone 14 256 344), (443, ctClone 16 240 53)]
theorem runMx : Tryz.prog.follows .mixedOrders = true := by kernel_rfl
theorem runOk0 : ∀ p ∈ runT0, CtOk Tryz.prog (shP Tryz.prog fun _ => none) p.1 p.2 := List.forall_mem_cons.2 ⟨okCheck, List.forall_mem_cons.2 ⟨okClone118, List.forall_mem_cons.2 ⟨okClone215, List.forall_mem_cons.2 ⟨okIndexByte, List.forall_mem_cons.2 ⟨okCount, List.forall_mem_cons.2 ⟨okClone288, List.forall_mem_cons.2 ⟨okClone350, List.forall_mem_cons.2 ⟨okClone399, List.forall_mem_cons.2 ⟨okClone443, fun _ h => nomatch h⟩⟩⟩⟩⟩⟩⟩⟩⟩
def datU1 : U := .mk 5 [[.str [71, 101, 116], .str [77], .str [77], .int .i64 1, .dat (.mk 8 [])]]
def datU2 : U := .mk 8 [[.int .i64 1, .str [120], .str [], .int .i64 3, .int .i64 0, .int .i64 4, .int .i64 (-1), .int .i64 (-1)]]
def datU3 : U := .mk 8 [[.int .i64 1, .int .i64 4, .int .u64 5, .str [], .dat (.mk 7 []), .dat (.mk 14 []), .dat (.mk 8 []), .dat (.mk 4 [])]]
def datU4 : U := .mk 3 [[.str [83], .dat datU1, .dat (.mk 8 [])]]
def datU5 : U := .mk 3 [[.str [77], .dat datU2, .int .i64 0]]
def datU6 : U := .mk 16 [[.int .i64 1, .str [120], .int .i64 3, .int .i64 0, .int .i64 4, .str [], .str [], .bool false, .int .i64 0, .int .u64 0, .str [], .dat (.mk 7 []), .dat (.mk 14 []), .dat (.mk 8 []), .dat (.mk 4 []), .dat (.mk 8 [])]]
def datU7 : U := .mk 5 [[.str [77], .dat datU6, .dat (.mk 2 []), .dat (.mk 1 []), .dat (.mk 8 [])]]
def runA1 : List (Sl U) := [.one (.lf (.ptr 0 0)), .one (.agg [.dat datU7, .val (.slice none 0 0), .dat datU4]), .one (.agg [.str [77], .dat datU6, .dat (.mk 2 []), .dat (.mk 1 []), .dat (.mk 8 [])]), .one (.lf (.int .i64 0))]
def runB1 : List (Bk U) := [.cells [.str [77], .int .i64 (-1), .val (.slice none 0 0)]]
def runR1 : Res := (.tup [], [(0, .cells [.str [77], .int .i64 (-1), .val (.slice none 0 0)])], [])
theorem run1 : ctGives (goU Tryz.prog runT0 60 136) runA1 runB1 runR1 = true := by kernel_rfl
noncomputable def runT1 : List (Nat × Ct U) := (136, ctAt runA1 runB1 runR1) :: runT0
theorem runOk1 : ∀ p ∈ runT1, CtOk Tryz.prog (shP Tryz.prog fun _ => none) p.1 p.2 := keep_ok runMx shU_ok runOk0 run1
def runA2 : List (Sl U) := [.one (.agg [.dat datU7, .val (.slice none 0 0), .dat datU4]), .one (.agg [.str [83], .dat datU1, .dat (.mk 8 [])])]
def runB2 : List (Bk U) := []
def runR2 : Res := (.one (.lf (.val (.slice none 0 0))), [], [])
theorem run2 : ctGives (goU Tryz.prog runT1 60 85) runA2 runB2 runR2 = true := by kernel_rfl
noncomputable def runT2 : List (Nat × Ct U) := (85, ctAt runA2 runB2 runR2) :: runT1
theorem runOk2 : ∀ p ∈ runT2, CtOk Tryz.prog (shP Tryz.prog fun _ => none) p.1 p.2 := keep_ok runMx shU_ok runOk1 run2
def runA3 : List (Sl U) := [.one (.agg [.dat datU7, .val (.slice none 0 0), .dat datU4])]
def runB3 : List (Bk U) := []
def runR3 : Res := (.one (.lf (.val (.slice none 0 0))), [], [])
theorem run3 : ctGives (goU Tryz.prog runT2 60 42) runA3 runB3 runR3 = true := by kernel_rfl
noncomputable def runT3 : List (Nat × Ct U) := (42, ctAt runA3 runB3 runR3) :: runT2
theorem runOk3 : ∀ p ∈ runT3, CtOk Tryz.prog (shP Tryz.prog fun _ => none) p.1 p.2 := keep_ok runMx shU_ok runOk2 run3
def runA4 : List (Sl U) := [.one (.agg [.dat datU7, .val (.slice none 0 0), .dat datU4]), .one (.agg [.str [83, 47, 71, 101, 116], .int .i64 1, .int .i64 0, .int .i64 0])]
def runB4 : List (Bk U) := []
def runR4 : Res := (.one (.lf (.val (.bool true))), [], [])
theorem run4 : ctGives (goU Tryz.prog runT3 60 44) runA4 runB4 runR4 = true := by kernel_rfl
noncomputable def runT4 : List (Nat × Ct U) := (44, ctAt runA4 runB4 runR4) :: runT3
theorem runOk4 : ∀ p ∈ runT4, CtOk Tryz.prog (shP Tryz.prog fun _ => none) p.1 p.2 := keep_ok runMx shU_ok runOk3 run4
def runA5 : List (Sl U) := [.one (.lf (.ptr 0 0)), .one (.agg [.str [77], .dat datU2, .int .i64 0]), .one (.agg [.int .i64 10, .int .u64 0, .str [], .val (.slice none 0 0), .val (.slice none 0 0), .val (.slice none 0 0), .val (.slice none 0 0)]), .one (.agg [.int .i64 1, .str [120], .str [], .int .i64 3, .int .i64 0, .int .i64 4, .int .i64 (-1), .int .i64 (-1)])]
def runB5 : List (Bk U) := [.cells [.dat datU5, .val (.slice none 0 0), .str [8, 5], .int .i64 1, .int .i64 2, .int .i64 15, .int .i64 4095, .int .i64 4096]]
def runR5 : Res := (.tup [.agg [.int .i64 10, .int .u64 0, .str [], .val (.slice none 0 0), .val (.slice none 0 0), .own 1, .val (.slice none 0 0)], .lf (.int .i64 0)], [(0, .cells [.dat datU5, .val (.slice none 0 0), .str [8, 5], .int .i64 2, .int .i64 2, .int .i64 15, .int .i64 4094, .int .i64 4096]), (1, .row 276 datU3)], [])
theorem run5 : ctGives (goU Tryz.prog runT4 60 286) runA5 runB5 runR5 = true := by kernel_rfl
noncomputable def runT5 : List (Nat × Ct U) := (286, ctAt runA5 runB5 runR5) :: runT4
theorem runOk5 : ∀ p ∈ runT5, CtOk Tryz.prog (shP Tryz.prog fun _ => none) p.1 p.2 := keep_ok runMx shU_ok runOk4 run5
def runA6 : List (Sl U) := [.one (.agg [.dat datU5, .val (.slice none 0 0)]), .one (.lf (.str [77])), .one (.agg [.int .i64 10, .int .u64 0, .str [], .val (.slice none 0 0), .val (.slice none 0 0), .val (.slice none 0 0), .val (.slice none 0 0)]), .one (.lf (.str [8, 5])), .one (.agg [.int .i64 65536, .int .i64 16, .int .i64 4096, .int .i64 4096])]
def runB6 : List (Bk U) := []
def runR6 : Res := (.tup [.agg [.int .i64 10, .int .u64 0, .str [], .val (.slice none 0 0), .val (.slice none 0 0), .own 0, .val (.slice none 0 0)], .lf (.int .i64 0)], [(0, .row 276 datU3)], [])
theorem run6 : ctGives (goU Tryz.prog runT5 60 93) runA6 runB6 runR6 = true := by kernel_rfl
noncomputable def runT6 : List (Nat × Ct U) := (93, ctAt runA6 runB6 runR6) :: runT5
theorem runOk6 : ∀ p ∈ runT6, CtOk Tryz.prog (shP Tryz.prog fun _ => none) p.1 p.2 := keep_ok runMx shU_ok runOk5 run6
def runA7 : List (Sl U) := [.one (.agg [.dat datU5, .val (.slice none 0 0)])]
def runB7 : List (Bk U) := []
def runR7 : Res := (.one (.lf (.bool false)), [], [])
theorem run7 : ctGives (goU Tryz.prog runT6 60 225) runA7 runB7 runR7 = true := by kernel_rfl
noncomputable def runT7 : List (Nat × Ct U) := (225, ctAt runA7 runB7 runR7) :: runT6
theorem runOk7 : ∀ p ∈ runT7, CtOk Tryz.prog (shP Tryz.prog fun _ => none) p.1 p.2 := keep_ok runMx shU_ok runOk6 run7
def runA8 : List (Sl U) := [.one (.agg [.dat datU5, .val (.slice none 0 0)])]
def runB8 : List (Bk U) := []
def runR8 : Res := (.one (.lf (.int .i64 0)), [], [])
theorem run8 : ctGives (goU Tryz.prog runT7 60 162) runA8 runB8 runR8 = true := by kernel_rfl
noncomputable def runT8 : List (Nat × Ct U) := (162, ctAt runA8 runB8 runR8) :: runT7
theorem runOk8 : ∀ p ∈ runT8, CtOk Tryz.prog (shP Tryz.prog fun _ => none) p.1 p.2 := keep_ok runMx shU_ok runOk7 run8
def runA9 : List (Sl U) := [.one (.agg [.dat datU5, .val (.slice none 0 0)]), .one (.lf (.int .i64 0)), .one (.agg [.int .i64 10, .int .u64 0, .str [], .dat (.mk 7 []), .dat (.mk 14 []), .dat datU3, .dat (.mk 4 [])])]
def runB9 : List (Bk U) := []
def runR9 : Res := (.one (.lf (.int .i64 0)), [], [])
theorem run9 : ctGives (goU Tryz.prog runT8 60 101) runA9 runB9 runR9 = true := by kernel_rfl
noncomputable def runT9 : List (Nat × Ct U) := (101, ctAt runA9 runB9 runR9) :: runT8
theorem runOk9 : ∀ p ∈ runT9, CtOk Tryz.prog (shP Tryz.prog fun _ => none) p.1 p.2 := keep_ok runMx shU_ok runOk8 run9
def runA10 : List (Sl U) := [.one (.agg [.dat datU5, .val (.slice none 0 0)]), .one (.lf (.int .i64 0)), .one (.agg [.int .i64 10, .int .u64 0, .str [], .dat (.mk 7 []), .dat (.mk 14 []), .dat datU3, .dat (.mk 4 [])])]
def runB10 : List (Bk U) := []
def runR10 : Res := (.one (.lf (.str [8, 5])), [], [])
theorem run10 : ctGives (goU Tryz.prog runT9 60 102) runA10 runB10 runR10 = true := by kernel_rfl
noncomputable def runT10 : List (Nat × Ct U) := (102, ctAt runA10 runB10 runR10) :: runT9
theorem runOk10 : ∀ p ∈ runT10, CtOk Tryz.prog (shP Tryz.prog fun _ => none) p.1 p.2 := keep_ok runMx shU_ok runOk9 run10
def runA11 : List (Sl U) := [.one (.agg [.dat datU7, .val (.slice none 0 0), .dat datU4]), .one (.agg [.str [83, 47, 71, 101, 116], .int .i64 1, .int .i64 0, .int .i64 0]), .one (.lf (.dat (.mk 1 [[.str [8, 5]]])))]
def runB11 : List (Bk U) := []
def runR11 : Res := (.tup [.lf (.own 0), .agg [.int .i64 0, .str []]], [(0, .row 9 (.mk 1 [[.str [8, 5]]]))], [])
theorem run11 : ctGives (goU Tryz.prog runT10 60 24) runA11 runB11 runR11 = true := by kernel_rfl
noncomputable def runT11 : List (Nat × Ct U) := (24, ctAt runA11 runB11 runR11) :: runT10
theorem runOk11 : ∀ p ∈ runT11, CtOk Tryz.prog (shP Tryz.prog fun _ => none) p.1 p.2 := keep_ok runMx shU_ok runOk10 run11
def runA12 : List (Sl U) := [.one (.agg [.dat datU7, .val (.slice none 0 0), .dat datU4]), .one (.agg [.str [83, 47, 71, 101, 116], .dat (.mk 1 [[.str [8, 5]]]), .dat (.mk 1 [[.str [8, 5]]]), .int .i64 0, .str []])]
def runB12 : List (Bk U) := []
def runR12 : Res := (.one (.lf (.int .i64 0)), [], [])
theorem run12 : ctGives (goU Tryz.prog runT11 60 25) runA12 runB12 runR12 = true := by kernel_rfl
noncomputable def runT12 : List (Nat × Ct U) := (25, ctAt runA12 runB12 runR12) :: runT11
theorem runOk12 : ∀ p ∈ runT12, CtOk Tryz.prog (shP Tryz.prog fun _ => none) p.1 p.2 := keep_ok runMx shU_ok runOk11 run12
def runA13 : List (Sl U) := [.one (.agg [.int .i64 2, .int .i64 1, .int .i64 0, .str [8, 5]])]
def runB13 : List (Bk U) := []
def runR13 : Res := (.tup [.lf (.str [2, 1, 0, 2, 8, 5, 241, 131, 93, 122]), .lf (.int .i64 0)], [], [])
theorem run13 : ctGives (goU Tryz.prog runT12 60 27) runA13 runB13 runR13 = true := by kernel_rfl
noncomputable def runT13 : List (Nat × Ct U) := (27, ctAt runA13 runB13 runR13) :: runT12
theorem runOk13 : ∀ p ∈ runT13, CtOk Tryz.prog (shP Tryz.prog fun _ => none) p.1 p.2 := keep_ok runMx shU_ok runOk12 run13
def runA14 : List (Sl U) := [.one (.agg [.dat datU7, .val (.slice none 0 0), .dat datU4]), .one (.lf (.dat (.mk 5 [[.str [83, 47, 71, 101, 116], .dat (.mk 1 [[.str [8, 5]]]), .dat (.mk 1 [[.str [8, 5]]]), .int .i64 0, .str []]])))]
def runB14 : List (Bk U) := []
def runR14 : Res := (.tup [.lf (.str [1, 1, 1, 8, 1, 83, 3, 71, 101, 116, 0, 0, 24, 94, 52, 152, 2, 1, 0, 2, 8, 5, 241, 131, 93, 122, 3, 1, 0, 0, 197, 26, 51, 50, 2, 1, 0, 2, 8, 5, 241, 131, 93, 122, 4, 1, 0, 1, 0, 249, 7, 5, 146]), .lf (.int .i64 0)], [], [])
theorem run14 : ctGives (goU Tryz.prog runT13 60 15) runA14 runB14 runR14 = true := by kernel_rfl
noncomputable def runT14 : List (Nat × Ct U) := (15, ctAt runA14 runB14 runR14) :: runT13
theorem runOk14 : ∀ p ∈ runT14, CtOk Tryz.prog (shP Tryz.prog fun _ => none) p.1 p.2 := keep_ok runMx shU_ok runOk13 run14
theorem runAll : ctGives (goU Tryz.prog runT14 60 10) [] [] (.one (.lf (.bool true)), [], []) = true := by kernel_rfl
noncomputable def e_awake : Ent Z := ⟨10, ctB D true, ctB_ok rfl (goUG_ok runMx shU_ok runOk14 (some_of_gives runAll)) (ctGives_eq runAll) rfl⟩
end Go.Proofs.YtcdhbdjlamikgaaGreatDoor
