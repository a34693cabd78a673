/-
  Balance: the data.
-/
import Derived.Test.YtenpaaocemjljaaProg
import Derived.Test.YtenpaaocemjljaaVdq
namespace Go.Proofs.Ytenpaaocemjljaa
open Go.RowKit Go.Vc
set_option linter.unusedVariables false
set_option linter.unusedSimpArgs false
set_option maxRecDepth 100000

structure Backend where
  Name : Str
  Load : Int
  Busy : Int
  Weight : Int
  Fails : Int
  Out : Int
deriving DecidableEq

structure law50_Op where
  Kind : Int
  I : Int
  N : Int
  Now : Int
deriving DecidableEq

inductive D where
  | Backend (l : List Backend)
  | i64 (l : List Int)
  | str (l : List Str)
  | law50_Op (l : List law50_Op)

def prj_Backend (d : D) : Option (List Backend) :=
  match d with
  | .Backend l => some l
  | _ => none

def cd_LBackend : Cod D (List Backend) := cDat D.Backend prj_Backend []

def prj_i64 (d : D) : Option (List Int) :=
  match d with
  | .i64 l => some l
  | _ => none

def cd_Li64 : Cod D (List Int) := cDat D.i64 prj_i64 []

def prj_str (d : D) : Option (List Str) :=
  match d with
  | .str l => some l
  | _ => none

def cd_Lstr : Cod D (List Str) := cDat D.str prj_str []

def prj_law50_Op (d : D) : Option (List law50_Op) :=
  match d with
  | .law50_Op l => some l
  | _ => none

def cd_Llaw50_Op : Cod D (List law50_Op) := cDat D.law50_Op prj_law50_Op []

def cd_Backend : Cod D Backend := cIso (cPair cStr (cPair (cInt .i64) (cPair (cInt .i64) (cPair (cInt .i64) (cPair (cInt .i64) (cInt .i64)))))) (fun p => ⟨p.1, p.2.1, p.2.2.1, p.2.2.2.1, p.2.2.2.2.1, p.2.2.2.2.2⟩) (fun b => (b.Name, b.Load, b.Busy, b.Weight, b.Fails, b.Out))

def cd_law50_Op : Cod D law50_Op := cIso (cPair (cInt .i64) (cPair (cInt .i64) (cPair (cInt .i64) (cInt .i64)))) (fun p => ⟨p.1, p.2.1, p.2.2.1, p.2.2.2⟩) (fun b => (b.Kind, b.I, b.N, b.Now))

def d_Backend : Backend := ⟨[], 0, 0, 0, 0, 0⟩

def d_law50_Op : law50_Op := ⟨0, 0, 0, 0⟩

def el_Backend : El D := ⟨Backend, cd_Backend, d_Backend, D.Backend, prj_Backend⟩

def el_i64 : El D := ⟨Int, (cInt .i64), 0, D.i64, prj_i64⟩

def el_str : El D := ⟨Str, cStr, [], D.str, prj_str⟩

def el_law50_Op : El D := ⟨law50_Op, cd_law50_Op, d_law50_Op, D.law50_Op, prj_law50_Op⟩

def view (d : D) : Vw D :=
  match d with
  | .Backend l => ⟨el_Backend, l⟩
  | .i64 l => ⟨el_i64, l⟩
  | .str l => ⟨el_str, l⟩
  | .law50_Op l => ⟨el_law50_Op, l⟩

def elTab : List (Nat × El D) := [(32, el_Backend), (3, el_i64), (9, el_str), (42, el_law50_Op)]
def elOf : TypeId → Option (El D) := lk elTab

def S : Sh D := shOf view elOf

theorem prj_Backend_eq (d : D) (a : List Backend) (h : prj_Backend d = some a) : d = D.Backend a := by
  cases d <;> simp [prj_Backend] at h
  subst h
  rfl

theorem cd_LBackend_ok : CodOk S cd_LBackend := cDat_ok prj_Backend_eq rfl

theorem prj_i64_eq (d : D) (a : List Int) (h : prj_i64 d = some a) : d = D.i64 a := by
  cases d <;> simp [prj_i64] at h
  subst h
  rfl

theorem cd_Li64_ok : CodOk S cd_Li64 := cDat_ok prj_i64_eq rfl

theorem prj_str_eq (d : D) (a : List Str) (h : prj_str d = some a) : d = D.str a := by
  cases d <;> simp [prj_str] at h
  subst h
  rfl

theorem cd_Lstr_ok : CodOk S cd_Lstr := cDat_ok prj_str_eq rfl

theorem prj_law50_Op_eq (d : D) (a : List law50_Op) (h : prj_law50_Op d = some a) : d = D.law50_Op a := by
  cases d <;> simp [prj_law50_Op] at h
  subst h
  rfl

theorem cd_Llaw50_Op_ok : CodOk S cd_Llaw50_Op := cDat_ok prj_law50_Op_eq rfl

theorem cd_Backend_ok : CodOk S cd_Backend := cIso_ok (cPair_ok cStr_ok (cPair_ok (cInt_ok _) (cPair_ok (cInt_ok _) (cPair_ok (cInt_ok _) (cPair_ok (cInt_ok _) (cInt_ok _)))))) fun _ => rfl

theorem cd_law50_Op_ok : CodOk S cd_law50_Op := cIso_ok (cPair_ok (cInt_ok _) (cPair_ok (cInt_ok _) (cPair_ok (cInt_ok _) (cInt_ok _)))) fun _ => rfl

theorem viewOk : ViewOk S view elOf := by
  refine ⟨fun e E h l => ?_, fun d l => ?_, fun d d2 l2 h => ?_, fun d => ?_⟩
  · have := lk_mem h
    simp only [elTab, List.mem_cons, Prod.mk.injEq, List.not_mem_nil, or_false] at this
    rcases this with ⟨_, rfl⟩ | ⟨_, rfl⟩ | ⟨_, rfl⟩ | ⟨_, rfl⟩ <;> rfl
  · cases d <;> rfl
  · cases d
    · rw [prj_Backend_eq d2 l2 h]; rfl
    · rw [prj_i64_eq d2 l2 h]; rfl
    · rw [prj_str_eq d2 l2 h]; rfl
    · rw [prj_law50_Op_eq d2 l2 h]; rfl
  · cases d
    · exact cd_Backend_ok
    · exact (cInt_ok _)
    · exact cStr_ok
    · exact cd_law50_Op_ok

theorem S_ok : ShOk S := shOf_ok viewOk

def tys : List (Nat × Ty) :=
  [(3, ⟨23, false, 1, 8, [.int .i64 0], [], none, [], false⟩),
   (4, ⟨1, false, 1, 1, [.bool false], [], none, [], false⟩),
   (5, ⟨24, false, 1, 1, [.int .u8 0], [], none, [], false⟩),
   (9, ⟨3, false, 1, 16, [.string ⟨#[]⟩], [], none, [], false⟩),
   (22, ⟨4, false, 1, 24, [.slice none 0 0], [], some 32, [], false⟩),
   (25, ⟨23, false, 1, 8, [.int .i64 0], [], none, [], false⟩),
   (32, ⟨5, true, 6, 56, [.string ⟨#[]⟩, .int .i64 0, .int .i64 0, .int .i64 0, .int .i64 0, .int .i64 0], [(0, 1, false), (1, 1, false), (2, 1, false), (3, 1, false), (4, 1, false), (5, 1, false)], none, [3, 2, 2, 2, 2, 2], false⟩),
   (34, ⟨4, false, 1, 24, [.slice none 0 0], [], some 3, [], false⟩),
   (37, ⟨4, false, 1, 24, [.slice none 0 0], [], some 9, [], false⟩),
   (40, ⟨4, false, 1, 24, [.slice none 0 0], [], some 42, [], false⟩),
   (42, ⟨5, true, 4, 32, [.int .i64 0, .int .i64 0, .int .i64 0, .int .i64 0], [(0, 1, false), (1, 1, false), (2, 1, false), (3, 1, false)], none, [2, 2, 2, 2], false⟩),
   (52, ⟨6, false, 1, 8, [.pointer none], [], none, [], false⟩),
   (53, ⟨7, false, 1, 8, [.nilFunc], [], none, [], false⟩)]
def T : TypeId → Option Ty := lk tys

theorem T_ok : ∀ t ty, T t = some ty → TyOk Try.prog t ty := by
  intro t ty h
  have := lk_mem h
  simp only [tys, List.mem_cons, Prod.mk.injEq, List.not_mem_nil, or_false] at this
  rcases this with ⟨rfl, rfl⟩ | ⟨rfl, rfl⟩ | ⟨rfl, rfl⟩ | ⟨rfl, rfl⟩ | ⟨rfl, rfl⟩ | ⟨rfl, rfl⟩ | ⟨rfl, rfl⟩ | ⟨rfl, rfl⟩ | ⟨rfl, rfl⟩ | ⟨rfl, rfl⟩ | ⟨rfl, rfl⟩ | ⟨rfl, rfl⟩ | ⟨rfl, rfl⟩ <;> (clear h; show _ = _; kernel_rfl)

theorem mixed : Try.prog.follows .mixedOrders = true := by kernel_rfl
end Go.Proofs.Ytenpaaocemjljaa
