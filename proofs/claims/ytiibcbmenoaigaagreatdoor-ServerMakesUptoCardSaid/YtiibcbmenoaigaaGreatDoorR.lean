/- The run of function 8 without arguments: what its calls give is found by running them, and kept; and the contract that it gives. -/
import Derived.Test.YtiibcbmenoaigaaGreatDoorX
import Derived.Test.YtiibcbmenoaigaaGreatDoorEng14
import Derived.Lib.Strings
import Derived.Lib.Slices
import Derived.Lib.Walk
import Derived.Lib.Bytealg
import Derived.Lib.Builder
namespace Go.Proofs.YtiibcbmenoaigaaGreatDoor
open Go.RowKit Go.Vc
set_option linter.unusedVariables false
set_option maxRecDepth 100000
set_option maxHeartbeats 4000000
noncomputable def runT0:List (Nat×Ct U):=[(146,ctClone 2 16 227),(178,ctPure gIndexByte),(183,ctPure gCount),(212,ctClone 4 40 255),(283,ctClone 8 136 248),(345,ctClone 7 128 67),(350,ctCheck 319),(381,ctClone 14 256 307),(434,ctClone 16 240 69)]
theorem runMx:Tryz.prog.follows .mixedOrders=true:=by kernel_rfl
theorem runOk0:∀p∈runT0,CtOk Tryz.prog (shP Tryz.prog fun _=>none) p.1 p.2:=List.forall_mem_cons.2 ⟨okClone146,List.forall_mem_cons.2 ⟨okIndexByte,List.forall_mem_cons.2 ⟨okCount,List.forall_mem_cons.2 ⟨okClone212,List.forall_mem_cons.2 ⟨okClone283,List.forall_mem_cons.2 ⟨okClone345,List.forall_mem_cons.2 ⟨okCheck,List.forall_mem_cons.2 ⟨okClone381,List.forall_mem_cons.2 ⟨okClone434,fun _ h=>nomatch h⟩⟩⟩⟩⟩⟩⟩⟩⟩
def runA1:List (Sl U):=[.one (.agg [.dat (.mk 5 [[.str [77], .dat (.mk 16 [[.int .i64 1, .str [120], .int .i64 3, .int .i64 0, .int .i64 4, .str [], .str [], .bool false, .int .i64 0, .int .u64 0, .str [], .dat (.mk 7 []), .dat (.mk 14 []), .dat (.mk 8 []), .dat (.mk 4 []), .dat (.mk 8 [])]]), .dat (.mk 2 []), .dat (.mk 1 []), .dat (.mk 8 [])]]), .val (.slice none 0 0), .dat (.mk 3 [[.str [83], .dat (.mk 5 [[.str [71,101,116], .str [77], .str [77], .int .i64 1, .dat (.mk 8 [])]]), .dat (.mk 8 [])]])])]
def runB1:List (Bk U):=[]
def runR1:Res:=(.one (.lf (.val (.slice none 0 0))),[],[])
theorem run1:ctGives (goU Tryz.prog runT0 60 26) runA1 runB1 runR1=true:=by kernel_rfl
noncomputable def runT1:List (Nat×Ct U):=(26,ctAt runA1 runB1 runR1)::runT0
theorem runOk1:∀p∈runT1,CtOk Tryz.prog (shP Tryz.prog fun _=>none) p.1 p.2:=keep_ok runMx shU_ok runOk0 run1
theorem runAll:ctGives (goU Tryz.prog runT1 60 8) [] [] (.one (.lf (.bool true)),[],[])=true:=by kernel_rfl
noncomputable def e_awake:Ent Z:=⟨8,ctB D true,ctB_ok rfl (goUG_ok runMx shU_ok runOk1 (some_of_gives runAll)) (ctGives_eq runAll) rfl⟩
end Go.Proofs.YtiibcbmenoaigaaGreatDoor
