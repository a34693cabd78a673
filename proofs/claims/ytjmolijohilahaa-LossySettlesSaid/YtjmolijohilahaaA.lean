/-
  Lossy: the data.
-/
import Derived.Test.YtjmolijohilahaaProg
import Derived.Test.YtjmolijohilahaaVdq
namespace Go.Proofs.Ytjmolijohilahaa
open Go.RowKit Go.Vc
set_option linter.unusedVariables false
set_option linter.unusedSimpArgs false
set_option maxRecDepth 100000

structure Packet where
  Seq : Int
  Ack : Int
  Data : Str
deriving DecidableEq

structure Link where
  Next : Int
  Wait : List Packet
  Expect : Int
  Early : List Packet
  Again : Int
  Due : Bool
deriving DecidableEq

structure law48_world where
  a : Link
  b : Link
  to : List Packet
  from_ : List Packet
  sent : List Str
  got : List Str
deriving DecidableEq

structure law48_Op where
  Kind : Int
  N : Int
  Data : Str
deriving DecidableEq

inductive D where
  | Packet (l : List Packet)
  | str (l : List Str)
  | law48_Op (l : List law48_Op)

def prj_Packet (d : D) : Option (List Packet) :=
  match d with
  | .Packet l => some l
  | _ => none

def cd_LPacket : Cod D (List Packet) := cDat D.Packet prj_Packet []

def prj_str (d : D) : Option (List Str) :=
  match d with
  | .str l => some l
  | _ => none

def cd_Lstr : Cod D (List Str) := cDat D.str prj_str []

def prj_law48_Op (d : D) : Option (List law48_Op) :=
  match d with
  | .law48_Op l => some l
  | _ => none

def cd_Llaw48_Op : Cod D (List law48_Op) := cDat D.law48_Op prj_law48_Op []

def cd_Packet : Cod D Packet := cIso (cPair (cInt .i64) (cPair (cInt .i64) cStr)) (fun p => ⟨p.1, p.2.1, p.2.2⟩) (fun b => (b.Seq, b.Ack, b.Data))

def cd_Link : Cod D Link := cIso (cPair (cInt .i64) (cPair cd_LPacket (cPair (cInt .i64) (cPair cd_LPacket (cPair (cInt .i64) cBool))))) (fun p => ⟨p.1, p.2.1, p.2.2.1, p.2.2.2.1, p.2.2.2.2.1, p.2.2.2.2.2⟩) (fun b => (b.Next, b.Wait, b.Expect, b.Early, b.Again, b.Due))

def cd_law48_world : Cod D law48_world := cIso (cPair cd_Link (cPair cd_Link (cPair cd_LPacket (cPair cd_LPacket (cPair cd_Lstr cd_Lstr))))) (fun p => ⟨p.1, p.2.1, p.2.2.1, p.2.2.2.1, p.2.2.2.2.1, p.2.2.2.2.2⟩) (fun b => (b.a, b.b, b.to, b.from_, b.sent, b.got))

def cd_law48_Op : Cod D law48_Op := cIso (cPair (cInt .i64) (cPair (cInt .u64) cStr)) (fun p => ⟨p.1, p.2.1, p.2.2⟩) (fun b => (b.Kind, b.N, b.Data))

def d_Packet : Packet := ⟨0, 0, []⟩

def d_Link : Link := ⟨0, [], 0, [], 0, false⟩

def d_law48_world : law48_world := ⟨d_Link, d_Link, [], [], [], []⟩

def d_law48_Op : law48_Op := ⟨0, 0, []⟩

def el_Packet : El D := ⟨Packet, cd_Packet, d_Packet, D.Packet, prj_Packet⟩

def el_str : El D := ⟨Str, cStr, [], D.str, prj_str⟩

def el_law48_Op : El D := ⟨law48_Op, cd_law48_Op, d_law48_Op, D.law48_Op, prj_law48_Op⟩

def view (d : D) : Vw D :=
  match d with
  | .Packet l => ⟨el_Packet, l⟩
  | .str l => ⟨el_str, l⟩
  | .law48_Op l => ⟨el_law48_Op, l⟩

def elTab : List (Nat × El D) := [(30, el_Packet), (9, el_str), (60, el_law48_Op)]
def elOf : TypeId → Option (El D) := lk elTab

def S : Sh D := shOf view elOf

theorem prj_Packet_eq (d : D) (a : List Packet) (h : prj_Packet d = some a) : d = D.Packet a := by
  cases d <;> simp [prj_Packet] at h
  subst h
  rfl

theorem cd_LPacket_ok : CodOk S cd_LPacket := cDat_ok prj_Packet_eq rfl

theorem prj_str_eq (d : D) (a : List Str) (h : prj_str d = some a) : d = D.str a := by
  cases d <;> simp [prj_str] at h
  subst h
  rfl

theorem cd_Lstr_ok : CodOk S cd_Lstr := cDat_ok prj_str_eq rfl

theorem prj_law48_Op_eq (d : D) (a : List law48_Op) (h : prj_law48_Op d = some a) : d = D.law48_Op a := by
  cases d <;> simp [prj_law48_Op] at h
  subst h
  rfl

theorem cd_Llaw48_Op_ok : CodOk S cd_Llaw48_Op := cDat_ok prj_law48_Op_eq rfl

theorem cd_Packet_ok : CodOk S cd_Packet := cIso_ok (cPair_ok (cInt_ok _) (cPair_ok (cInt_ok _) cStr_ok)) fun _ => rfl

theorem cd_Link_ok : CodOk S cd_Link := cIso_ok (cPair_ok (cInt_ok _) (cPair_ok cd_LPacket_ok (cPair_ok (cInt_ok _) (cPair_ok cd_LPacket_ok (cPair_ok (cInt_ok _) cBool_ok))))) fun _ => rfl

theorem cd_law48_world_ok : CodOk S cd_law48_world := cIso_ok (cPair_ok cd_Link_ok (cPair_ok cd_Link_ok (cPair_ok cd_LPacket_ok (cPair_ok cd_LPacket_ok (cPair_ok cd_Lstr_ok cd_Lstr_ok))))) fun _ => rfl

theorem cd_law48_Op_ok : CodOk S cd_law48_Op := cIso_ok (cPair_ok (cInt_ok _) (cPair_ok (cInt_ok _) cStr_ok)) fun _ => rfl

theorem viewOk : ViewOk S view elOf := by
  refine ⟨fun e E h l => ?_, fun d l => ?_, fun d d2 l2 h => ?_, fun d => ?_⟩
  · have := lk_mem h
    simp only [elTab, List.mem_cons, Prod.mk.injEq, List.not_mem_nil, or_false] at this
    rcases this with ⟨_, rfl⟩ | ⟨_, rfl⟩ | ⟨_, rfl⟩ <;> rfl
  · cases d <;> rfl
  · cases d
    · rw [prj_Packet_eq d2 l2 h]; rfl
    · rw [prj_str_eq d2 l2 h]; rfl
    · rw [prj_law48_Op_eq d2 l2 h]; rfl
  · cases d
    · exact cd_Packet_ok
    · exact cStr_ok
    · exact cd_law48_Op_ok

theorem S_ok : ShOk S := shOf_ok viewOk

def tys : List (Nat × Ty) :=
  [(3, ⟨23, false, 1, 8, [.int .i64 0], [], none, [], false⟩),
   (4, ⟨1, false, 1, 1, [.bool false], [], none, [], false⟩),
   (9, ⟨3, false, 1, 16, [.string ⟨#[]⟩], [], none, [], false⟩),
   (22, ⟨4, false, 1, 24, [.slice none 0 0], [], some 30, [], true⟩),
   (24, ⟨5, true, 6, 80, [.int .i64 0, .slice none 0 0, .int .i64 0, .slice none 0 0, .int .i64 0, .bool false], [(0, 1, false), (1, 1, false), (2, 1, false), (3, 1, false), (4, 1, false), (5, 1, false)], none, [], false⟩),
   (30, ⟨5, true, 3, 32, [.int .i64 0, .int .i64 0, .string ⟨#[]⟩], [(0, 1, false), (1, 1, false), (2, 1, false)], none, [2, 2, 3], false⟩),
   (31, ⟨23, false, 1, 8, [.int .i64 0], [], none, [], false⟩),
   (40, ⟨4, false, 1, 24, [.slice none 0 0], [], some 9, [], true⟩),
   (46, ⟨4, false, 1, 24, [.slice none 0 0], [], some 60, [], false⟩),
   (49, ⟨5, true, 16, 256, [.int .i64 0, .slice none 0 0, .int .i64 0, .slice none 0 0, .int .i64 0, .bool false, .int .i64 0, .slice none 0 0, .int .i64 0, .slice none 0 0, .int .i64 0, .bool false, .slice none 0 0, .slice none 0 0, .slice none 0 0, .slice none 0 0], [(0, 6, true), (6, 6, true), (12, 1, false), (13, 1, false), (14, 1, false), (15, 1, false)], none, [], false⟩),
   (58, ⟨27, false, 1, 8, [.int .u64 0], [], none, [], false⟩),
   (60, ⟨5, true, 3, 32, [.int .i64 0, .int .u64 0, .string ⟨#[]⟩], [(0, 1, false), (1, 1, false), (2, 1, false)], none, [2, 2, 3], false⟩),
   (62, ⟨6, false, 1, 8, [.pointer none], [], none, [], false⟩)]
def T : TypeId → Option Ty := lk tys

theorem T_ok : ∀ t ty, T t = some ty → TyOk Try.prog t ty := by
  intro t ty h
  have := lk_mem h
  simp only [tys, List.mem_cons, Prod.mk.injEq, List.not_mem_nil, or_false] at this
  rcases this with ⟨rfl, rfl⟩ | ⟨rfl, rfl⟩ | ⟨rfl, rfl⟩ | ⟨rfl, rfl⟩ | ⟨rfl, rfl⟩ | ⟨rfl, rfl⟩ | ⟨rfl, rfl⟩ | ⟨rfl, rfl⟩ | ⟨rfl, rfl⟩ | ⟨rfl, rfl⟩ | ⟨rfl, rfl⟩ | ⟨rfl, rfl⟩ | ⟨rfl, rfl⟩ <;> (clear h; show _ = _; kernel_rfl)

theorem mixed : Try.prog.follows .mixedOrders = true := by kernel_rfl
end Go.Proofs.Ytjmolijohilahaa
