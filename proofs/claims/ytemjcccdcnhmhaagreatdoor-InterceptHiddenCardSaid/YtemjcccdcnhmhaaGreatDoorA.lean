/-
  Intercept: the data.
-/
import Derived.Test.YtemjcccdcnhmhaaGreatDoorProg
import Derived.Test.YtemjcccdcnhmhaaGreatDoorEng10
namespace Go.Proofs.YtemjcccdcnhmhaaGreatDoor
open Go.RowKit Go.Vc
set_option linter.unusedVariables false
set_option linter.unusedSimpArgs false
set_option maxRecDepth 100000

structure AMeta where
  Key : Str
  Val : Str
deriving DecidableEq

structure Head where
  Service : Str
  Method : Str
  Deadline : Int
  Metas : _root_.List AMeta
deriving DecidableEq

structure Status where
  Code : Int
  Text : Str
deriving DecidableEq

structure Raw where
  Num : Int
  Wire : Int
  Bits : Int
  Data : Str
deriving DecidableEq

mutual
inductive AVal where
  | mk (Kind_ : Int) (Bits_ : Int) (Text_ : Str) (List_ : _root_.List AVal) (Pairs_ : _root_.List Pair) (Slots_ : _root_.List Slot) (Raws_ : _root_.List Raw)
inductive Slot where
  | mk (Num_ : Int) (Val_ : AVal)
inductive Pair where
  | mk (Key_ : AVal) (Val_ : AVal)
end

def AVal.Kind (x : AVal) : Int :=
  match x with
  | .mk a _ _ _ _ _ _ => a

def AVal.Bits (x : AVal) : Int :=
  match x with
  | .mk _ a _ _ _ _ _ => a

def AVal.Text (x : AVal) : Str :=
  match x with
  | .mk _ _ a _ _ _ _ => a

def AVal.List (x : AVal) : _root_.List AVal :=
  match x with
  | .mk _ _ _ a _ _ _ => a

def AVal.Pairs (x : AVal) : _root_.List Pair :=
  match x with
  | .mk _ _ _ _ a _ _ => a

def AVal.Slots (x : AVal) : _root_.List Slot :=
  match x with
  | .mk _ _ _ _ _ a _ => a

def AVal.Raws (x : AVal) : _root_.List Raw :=
  match x with
  | .mk _ _ _ _ _ _ a => a

def AVal.re (x : AVal) : AVal := AVal.mk x.Kind x.Bits x.Text x.List x.Pairs x.Slots x.Raws
@[simp] theorem AVal.re_eq (x : AVal) : AVal.re x = x := by cases x; rfl

theorem AVal.eta (x : AVal) : AVal.mk x.Kind x.Bits x.Text x.List x.Pairs x.Slots x.Raws = x := by cases x; rfl

def Slot.Num (x : Slot) : Int :=
  match x with
  | .mk a _ => a

def Slot.Val (x : Slot) : AVal :=
  match x with
  | .mk _ a => a

def Slot.re (x : Slot) : Slot := Slot.mk x.Num x.Val
@[simp] theorem Slot.re_eq (x : Slot) : Slot.re x = x := by cases x; rfl

theorem Slot.eta (x : Slot) : Slot.mk x.Num x.Val = x := by cases x; rfl

def Pair.Key (x : Pair) : AVal :=
  match x with
  | .mk a _ => a

def Pair.Val (x : Pair) : AVal :=
  match x with
  | .mk _ a => a

def Pair.re (x : Pair) : Pair := Pair.mk x.Key x.Val
@[simp] theorem Pair.re_eq (x : Pair) : Pair.re x = x := by cases x; rfl

theorem Pair.eta (x : Pair) : Pair.mk x.Key x.Val = x := by cases x; rfl

structure Note where
  Name : Str
  Val : AVal

structure AMethod where
  Name : Str
  In : Str
  Out : Str
  Shape : Int
  Notes : _root_.List Note

structure Service where
  Name : Str
  Methods : _root_.List AMethod
  Notes : _root_.List Note

structure Item where
  Name : Str
  Num : Int
  Notes : _root_.List Note

structure Span where
  From : Int
  To : Int
deriving DecidableEq

structure Enum where
  Name : Str
  Open : Bool
  Items : _root_.List Item
  Reserved : _root_.List Span
  Notes : _root_.List Note

structure AType where
  Kind : Int
  Name : Str
deriving DecidableEq

structure AField where
  Num : Int
  Name : Str
  Card : Int
  Key : Int
  Type_ : AType
  Union : Str
  HasDefault : Bool
  Default : AVal
  Notes : _root_.List Note

structure Message where
  Name : Str
  Fields : _root_.List AField
  Reserved : _root_.List Span
  Gone : _root_.List Str
  Notes : _root_.List Note

structure Schema where
  Messages : _root_.List Message
  Enums : _root_.List Enum
  Services : _root_.List Service

structure Icept where
  Kind : Int
  Key : Str
  Val : Str
  Num : Int
  Span : Int
deriving DecidableEq

structure Trace where
  Method : Str
  Times : _root_.List Int
deriving DecidableEq

structure intercept_size where
  most : Int
deriving DecidableEq

structure intercept_token where
  key : Str
  val : Str
deriving DecidableEq

structure intercept_limit where
  most : Int
  span : Int
deriving DecidableEq

structure intercept_stamp where
  key : Str
  val : Str
deriving DecidableEq

structure intercept_deadline where
  span : Int
deriving DecidableEq

structure anon124 where
  e : Int
  code : Int
deriving DecidableEq

structure intercept_hide where

deriving DecidableEq

structure Problem where
  Def : Str
  Num : Int
  Err : Int
deriving DecidableEq

structure ref12_list where
  def_ : Str
  l : _root_.List Problem
deriving DecidableEq

inductive D where
  | Icept (l : List Icept)
  | Trace (l : List Trace)
  | AMeta (l : List AMeta)
  | Message (l : List Message)
  | Enum (l : List Enum)
  | Service (l : List Service)
  | AVal (l : List AVal)
  | Pair (l : List Pair)
  | Slot (l : List Slot)
  | Raw (l : List Raw)
  | Note (l : List Note)
  | AField (l : List AField)
  | Span (l : List Span)
  | str (l : List Str)
  | i64 (l : List Int)
  | anon124 (l : List anon124)
  | Item (l : List Item)
  | AMethod (l : List AMethod)
  | Problem (l : List Problem)
  | bool (l : List Bool)

def prj_Icept (d : D) : Option (List Icept) :=
  match d with
  | .Icept l => some l
  | _ => none

def cd_LIcept : Cod D (List Icept) := cDat D.Icept prj_Icept []

def prj_Trace (d : D) : Option (List Trace) :=
  match d with
  | .Trace l => some l
  | _ => none

def cd_LTrace : Cod D (List Trace) := cDat D.Trace prj_Trace []

def prj_Meta (d : D) : Option (List AMeta) :=
  match d with
  | .AMeta l => some l
  | _ => none

def cd_LMeta : Cod D (List AMeta) := cDat D.AMeta prj_Meta []

def prj_Message (d : D) : Option (List Message) :=
  match d with
  | .Message l => some l
  | _ => none

def cd_LMessage : Cod D (List Message) := cDat D.Message prj_Message []

def prj_Enum (d : D) : Option (List Enum) :=
  match d with
  | .Enum l => some l
  | _ => none

def cd_LEnum : Cod D (List Enum) := cDat D.Enum prj_Enum []

def prj_Service (d : D) : Option (List Service) :=
  match d with
  | .Service l => some l
  | _ => none

def cd_LService : Cod D (List Service) := cDat D.Service prj_Service []

def prj_AVal (d : D) : Option (List AVal) :=
  match d with
  | .AVal l => some l
  | _ => none

def cd_LAVal : Cod D (List AVal) := cDat D.AVal prj_AVal []

def prj_Pair (d : D) : Option (List Pair) :=
  match d with
  | .Pair l => some l
  | _ => none

def cd_LPair : Cod D (List Pair) := cDat D.Pair prj_Pair []

def prj_Slot (d : D) : Option (List Slot) :=
  match d with
  | .Slot l => some l
  | _ => none

def cd_LSlot : Cod D (List Slot) := cDat D.Slot prj_Slot []

def prj_Raw (d : D) : Option (List Raw) :=
  match d with
  | .Raw l => some l
  | _ => none

def cd_LRaw : Cod D (List Raw) := cDat D.Raw prj_Raw []

def prj_Note (d : D) : Option (List Note) :=
  match d with
  | .Note l => some l
  | _ => none

def cd_LNote : Cod D (List Note) := cDat D.Note prj_Note []

def prj_AField (d : D) : Option (List AField) :=
  match d with
  | .AField l => some l
  | _ => none

def cd_LAField : Cod D (List AField) := cDat D.AField prj_AField []

def prj_Span (d : D) : Option (List Span) :=
  match d with
  | .Span l => some l
  | _ => none

def cd_LSpan : Cod D (List Span) := cDat D.Span prj_Span []

def prj_str (d : D) : Option (List Str) :=
  match d with
  | .str l => some l
  | _ => none

def cd_Lstr : Cod D (List Str) := cDat D.str prj_str []

def prj_i64 (d : D) : Option (List Int) :=
  match d with
  | .i64 l => some l
  | _ => none

def cd_Li64 : Cod D (List Int) := cDat D.i64 prj_i64 []

def prj_anon124 (d : D) : Option (List anon124) :=
  match d with
  | .anon124 l => some l
  | _ => none

def cd_Lanon124 : Cod D (List anon124) := cDat D.anon124 prj_anon124 []

def prj_Item (d : D) : Option (List Item) :=
  match d with
  | .Item l => some l
  | _ => none

def cd_LItem : Cod D (List Item) := cDat D.Item prj_Item []

def prj_AMethod (d : D) : Option (List AMethod) :=
  match d with
  | .AMethod l => some l
  | _ => none

def cd_LAMethod : Cod D (List AMethod) := cDat D.AMethod prj_AMethod []

def prj_Problem (d : D) : Option (List Problem) :=
  match d with
  | .Problem l => some l
  | _ => none

def cd_LProblem : Cod D (List Problem) := cDat D.Problem prj_Problem []

def prj_bool (d : D) : Option (List Bool) :=
  match d with
  | .bool l => some l
  | _ => none

def cd_Lbool : Cod D (List Bool) := cDat D.bool prj_bool []

def cd_Meta : Cod D AMeta := cIso (cPair cStr cStr) (fun p => AMeta.mk (p.1) (p.2)) (fun b => (b.Key, b.Val))

def cd_Head : Cod D Head := cIso (cPair cStr (cPair cStr (cPair (cInt .i64) cd_LMeta))) (fun p => Head.mk (p.1) (p.2.1) (p.2.2.1) (p.2.2.2)) (fun b => (b.Service, b.Method, b.Deadline, b.Metas))

def cd_Status : Cod D Status := cIso (cPair (cInt .i64) cStr) (fun p => Status.mk (p.1) (p.2)) (fun b => (b.Code, b.Text))

def cd_Raw : Cod D Raw := cIso (cPair (cInt .i64) (cPair (cInt .i64) (cPair (cInt .u64) cStr))) (fun p => Raw.mk (p.1) (p.2.1) (p.2.2.1) (p.2.2.2)) (fun b => (b.Num, b.Wire, b.Bits, b.Data))

def cd_AVal : Cod D AVal := cIso (cPair (cInt .i64) (cPair (cInt .u64) (cPair cStr (cPair cd_LAVal (cPair cd_LPair (cPair cd_LSlot cd_LRaw)))))) (fun p => AVal.mk (p.1) (p.2.1) (p.2.2.1) (p.2.2.2.1) (p.2.2.2.2.1) (p.2.2.2.2.2.1) (p.2.2.2.2.2.2)) (fun b => (b.Kind, b.Bits, b.Text, b.List, b.Pairs, b.Slots, b.Raws))

def cd_Slot : Cod D Slot := cIso (cPair (cInt .i64) cd_AVal) (fun p => Slot.mk (p.1) (p.2)) (fun b => (b.Num, b.Val))

def cd_Pair : Cod D Pair := cIso (cPair cd_AVal cd_AVal) (fun p => Pair.mk (p.1) (p.2)) (fun b => (b.Key, b.Val))

def cd_Note : Cod D Note := cIso (cPair cStr cd_AVal) (fun p => Note.mk (p.1) (p.2)) (fun b => (b.Name, b.Val))

def cd_AMethod : Cod D AMethod := cIso (cPair cStr (cPair cStr (cPair cStr (cPair (cInt .i64) cd_LNote)))) (fun p => AMethod.mk (p.1) (p.2.1) (p.2.2.1) (p.2.2.2.1) (p.2.2.2.2)) (fun b => (b.Name, b.In, b.Out, b.Shape, b.Notes))

def cd_Service : Cod D Service := cIso (cPair cStr (cPair cd_LAMethod cd_LNote)) (fun p => Service.mk (p.1) (p.2.1) (p.2.2)) (fun b => (b.Name, b.Methods, b.Notes))

def cd_Item : Cod D Item := cIso (cPair cStr (cPair (cInt .i64) cd_LNote)) (fun p => Item.mk (p.1) (p.2.1) (p.2.2)) (fun b => (b.Name, b.Num, b.Notes))

def cd_Span : Cod D Span := cIso (cPair (cInt .i64) (cInt .i64)) (fun p => Span.mk (p.1) (p.2)) (fun b => (b.From, b.To))

def cd_Enum : Cod D Enum := cIso (cPair cStr (cPair cBool (cPair cd_LItem (cPair cd_LSpan cd_LNote)))) (fun p => Enum.mk (p.1) (p.2.1) (p.2.2.1) (p.2.2.2.1) (p.2.2.2.2)) (fun b => (b.Name, b.Open, b.Items, b.Reserved, b.Notes))

def cd_AType : Cod D AType := cIso (cPair (cInt .i64) cStr) (fun p => AType.mk (p.1) (p.2)) (fun b => (b.Kind, b.Name))

def cd_AField : Cod D AField := cIso (cPair (cInt .i64) (cPair cStr (cPair (cInt .i64) (cPair (cInt .i64) (cPair cd_AType (cPair cStr (cPair cBool (cPair cd_AVal cd_LNote)))))))) (fun p => AField.mk (p.1) (p.2.1) (p.2.2.1) (p.2.2.2.1) (p.2.2.2.2.1) (p.2.2.2.2.2.1) (p.2.2.2.2.2.2.1) (p.2.2.2.2.2.2.2.1) (p.2.2.2.2.2.2.2.2)) (fun b => (b.Num, b.Name, b.Card, b.Key, b.Type_, b.Union, b.HasDefault, b.Default, b.Notes))

def cd_Message : Cod D Message := cIso (cPair cStr (cPair cd_LAField (cPair cd_LSpan (cPair cd_Lstr cd_LNote)))) (fun p => Message.mk (p.1) (p.2.1) (p.2.2.1) (p.2.2.2.1) (p.2.2.2.2)) (fun b => (b.Name, b.Fields, b.Reserved, b.Gone, b.Notes))

def cd_Schema : Cod D Schema := cIso (cPair cd_LMessage (cPair cd_LEnum cd_LService)) (fun p => Schema.mk (p.1) (p.2.1) (p.2.2)) (fun b => (b.Messages, b.Enums, b.Services))

def cd_Icept : Cod D Icept := cIso (cPair (cInt .i64) (cPair cStr (cPair cStr (cPair (cInt .i64) (cInt .i64))))) (fun p => Icept.mk (p.1) (p.2.1) (p.2.2.1) (p.2.2.2.1) (p.2.2.2.2)) (fun b => (b.Kind, b.Key, b.Val, b.Num, b.Span))

def cd_Trace : Cod D Trace := cIso (cPair cStr cd_Li64) (fun p => Trace.mk (p.1) (p.2)) (fun b => (b.Method, b.Times))

def cd_intercept_size : Cod D intercept_size := cIso (cInt .i64) (fun p => intercept_size.mk p) (fun b => (b.most))

def cd_intercept_token : Cod D intercept_token := cIso (cPair cStr cStr) (fun p => intercept_token.mk (p.1) (p.2)) (fun b => (b.key, b.val))

def cd_intercept_limit : Cod D intercept_limit := cIso (cPair (cInt .i64) (cInt .i64)) (fun p => intercept_limit.mk (p.1) (p.2)) (fun b => (b.most, b.span))

def cd_intercept_stamp : Cod D intercept_stamp := cIso (cPair cStr cStr) (fun p => intercept_stamp.mk (p.1) (p.2)) (fun b => (b.key, b.val))

def cd_intercept_deadline : Cod D intercept_deadline := cIso (cInt .i64) (fun p => intercept_deadline.mk p) (fun b => (b.span))

def cd_anon124 : Cod D anon124 := cIso (cPair (cInt .i64) (cInt .i64)) (fun p => anon124.mk (p.1) (p.2)) (fun b => (b.e, b.code))

def cd_intercept_hide : Cod D intercept_hide := cIso cUnit (fun _ => ⟨⟩) (fun _ => ())

def cd_Problem : Cod D Problem := cIso (cPair cStr (cPair (cInt .i64) (cInt .i64))) (fun p => Problem.mk (p.1) (p.2.1) (p.2.2)) (fun b => (b.Def, b.Num, b.Err))

def cd_ref12_list : Cod D ref12_list := cIso (cPair cStr cd_LProblem) (fun p => ref12_list.mk (p.1) (p.2)) (fun b => (b.def_, b.l))

def d_Meta : AMeta := AMeta.mk [] []
instance : Inhabited AMeta := ⟨d_Meta⟩

def d_Head : Head := Head.mk [] [] 0 []
instance : Inhabited Head := ⟨d_Head⟩

def d_Status : Status := Status.mk 0 []
instance : Inhabited Status := ⟨d_Status⟩

def d_Raw : Raw := Raw.mk 0 0 0 []
instance : Inhabited Raw := ⟨d_Raw⟩

def d_AVal : AVal := AVal.mk 0 0 [] [] [] [] []
instance : Inhabited AVal := ⟨d_AVal⟩

def d_Slot : Slot := Slot.mk 0 d_AVal
instance : Inhabited Slot := ⟨d_Slot⟩

def d_Pair : Pair := Pair.mk d_AVal d_AVal
instance : Inhabited Pair := ⟨d_Pair⟩

def d_Note : Note := Note.mk [] d_AVal
instance : Inhabited Note := ⟨d_Note⟩

def d_AMethod : AMethod := AMethod.mk [] [] [] 0 []
instance : Inhabited AMethod := ⟨d_AMethod⟩

def d_Service : Service := Service.mk [] [] []
instance : Inhabited Service := ⟨d_Service⟩

def d_Item : Item := Item.mk [] 0 []
instance : Inhabited Item := ⟨d_Item⟩

def d_Span : Span := Span.mk 0 0
instance : Inhabited Span := ⟨d_Span⟩

def d_Enum : Enum := Enum.mk [] false [] [] []
instance : Inhabited Enum := ⟨d_Enum⟩

def d_AType : AType := AType.mk 0 []
instance : Inhabited AType := ⟨d_AType⟩

def d_AField : AField := AField.mk 0 [] 0 0 d_AType [] false d_AVal []
instance : Inhabited AField := ⟨d_AField⟩

def d_Message : Message := Message.mk [] [] [] [] []
instance : Inhabited Message := ⟨d_Message⟩

def d_Schema : Schema := Schema.mk [] [] []
instance : Inhabited Schema := ⟨d_Schema⟩

def d_Icept : Icept := Icept.mk 0 [] [] 0 0
instance : Inhabited Icept := ⟨d_Icept⟩

def d_Trace : Trace := Trace.mk [] []
instance : Inhabited Trace := ⟨d_Trace⟩

def d_intercept_size : intercept_size := intercept_size.mk 0
instance : Inhabited intercept_size := ⟨d_intercept_size⟩

def d_intercept_token : intercept_token := intercept_token.mk [] []
instance : Inhabited intercept_token := ⟨d_intercept_token⟩

def d_intercept_limit : intercept_limit := intercept_limit.mk 0 0
instance : Inhabited intercept_limit := ⟨d_intercept_limit⟩

def d_intercept_stamp : intercept_stamp := intercept_stamp.mk [] []
instance : Inhabited intercept_stamp := ⟨d_intercept_stamp⟩

def d_intercept_deadline : intercept_deadline := intercept_deadline.mk 0
instance : Inhabited intercept_deadline := ⟨d_intercept_deadline⟩

def d_anon124 : anon124 := anon124.mk 0 0
instance : Inhabited anon124 := ⟨d_anon124⟩

def d_intercept_hide : intercept_hide := ⟨⟩
instance : Inhabited intercept_hide := ⟨d_intercept_hide⟩

def d_Problem : Problem := Problem.mk [] 0 0
instance : Inhabited Problem := ⟨d_Problem⟩

def d_ref12_list : ref12_list := ref12_list.mk [] []
instance : Inhabited ref12_list := ⟨d_ref12_list⟩

def el_Icept : El D := ⟨Icept, cd_Icept, d_Icept, D.Icept, prj_Icept⟩

def el_Trace : El D := ⟨Trace, cd_Trace, d_Trace, D.Trace, prj_Trace⟩

def el_Meta : El D := ⟨AMeta, cd_Meta, d_Meta, D.AMeta, prj_Meta⟩

def el_Message : El D := ⟨Message, cd_Message, d_Message, D.Message, prj_Message⟩

def el_Enum : El D := ⟨Enum, cd_Enum, d_Enum, D.Enum, prj_Enum⟩

def el_Service : El D := ⟨Service, cd_Service, d_Service, D.Service, prj_Service⟩

def el_AVal : El D := ⟨AVal, cd_AVal, d_AVal, D.AVal, prj_AVal⟩

def el_Pair : El D := ⟨Pair, cd_Pair, d_Pair, D.Pair, prj_Pair⟩

def el_Slot : El D := ⟨Slot, cd_Slot, d_Slot, D.Slot, prj_Slot⟩

def el_Raw : El D := ⟨Raw, cd_Raw, d_Raw, D.Raw, prj_Raw⟩

def el_Note : El D := ⟨Note, cd_Note, d_Note, D.Note, prj_Note⟩

def el_AField : El D := ⟨AField, cd_AField, d_AField, D.AField, prj_AField⟩

def el_Span : El D := ⟨Span, cd_Span, d_Span, D.Span, prj_Span⟩

def el_str : El D := ⟨Str, cStr, [], D.str, prj_str⟩

def el_i64 : El D := ⟨Int, (cInt .i64), 0, D.i64, prj_i64⟩

def el_anon124 : El D := ⟨anon124, cd_anon124, d_anon124, D.anon124, prj_anon124⟩

def el_Item : El D := ⟨Item, cd_Item, d_Item, D.Item, prj_Item⟩

def el_AMethod : El D := ⟨AMethod, cd_AMethod, d_AMethod, D.AMethod, prj_AMethod⟩

def el_Problem : El D := ⟨Problem, cd_Problem, d_Problem, D.Problem, prj_Problem⟩

def el_bool : El D := ⟨Bool, cBool, false, D.bool, prj_bool⟩

def view (d : D) : Vw D :=
  match d with
  | .Icept l => ⟨el_Icept, l⟩
  | .Trace l => ⟨el_Trace, l⟩
  | .AMeta l => ⟨el_Meta, l⟩
  | .Message l => ⟨el_Message, l⟩
  | .Enum l => ⟨el_Enum, l⟩
  | .Service l => ⟨el_Service, l⟩
  | .AVal l => ⟨el_AVal, l⟩
  | .Pair l => ⟨el_Pair, l⟩
  | .Slot l => ⟨el_Slot, l⟩
  | .Raw l => ⟨el_Raw, l⟩
  | .Note l => ⟨el_Note, l⟩
  | .AField l => ⟨el_AField, l⟩
  | .Span l => ⟨el_Span, l⟩
  | .str l => ⟨el_str, l⟩
  | .i64 l => ⟨el_i64, l⟩
  | .anon124 l => ⟨el_anon124, l⟩
  | .Item l => ⟨el_Item, l⟩
  | .AMethod l => ⟨el_AMethod, l⟩
  | .Problem l => ⟨el_Problem, l⟩
  | .bool l => ⟨el_bool, l⟩

def elTab : List (Nat × El D) := [(60, el_Icept), (82, el_Trace), (92, el_Meta), (76, el_Message), (141, el_Enum), (146, el_Service), (46, el_AVal), (96, el_Pair), (78, el_Slot), (98, el_Raw), (68, el_Note), (71, el_AField), (219, el_Span), (9, el_str), (3, el_i64), (124, el_anon124), (143, el_Item), (148, el_AMethod), (190, el_Problem), (4, el_bool)]
def elOf : TypeId → Option (El D) := lk elTab

def globs : List (Nat × D) := [(0, D.anon124 [⟨0, 0⟩, ⟨23, 3⟩, ⟨21, 6⟩, ⟨22, 7⟩, ⟨3, 7⟩, ⟨17, 7⟩, ⟨10, 4⟩, ⟨9, 5⟩, ⟨20, 8⟩, ⟨24, 9⟩, ⟨25, 13⟩, ⟨11, 11⟩, ⟨19, 11⟩])]

def S : Sh D := shOf view elOf (lk globs)

theorem prj_Icept_eq (d : D) (a : List Icept) (h : prj_Icept d = some a) : d = D.Icept a := by
  cases d <;> simp [prj_Icept] at h
  subst h
  rfl

instance cd_LIcept_ok : CodOk S cd_LIcept := cDat_ok prj_Icept_eq rfl
instance bR_Icept {e : TypeId} : BlkOk S (bRow e D.Icept prj_Icept) := bRow_ok prj_Icept_eq

theorem prj_Trace_eq (d : D) (a : List Trace) (h : prj_Trace d = some a) : d = D.Trace a := by
  cases d <;> simp [prj_Trace] at h
  subst h
  rfl

instance cd_LTrace_ok : CodOk S cd_LTrace := cDat_ok prj_Trace_eq rfl
instance bR_Trace {e : TypeId} : BlkOk S (bRow e D.Trace prj_Trace) := bRow_ok prj_Trace_eq

theorem prj_Meta_eq (d : D) (a : List AMeta) (h : prj_Meta d = some a) : d = D.AMeta a := by
  cases d <;> simp [prj_Meta] at h
  subst h
  rfl

instance cd_LMeta_ok : CodOk S cd_LMeta := cDat_ok prj_Meta_eq rfl
instance bR_Meta {e : TypeId} : BlkOk S (bRow e D.AMeta prj_Meta) := bRow_ok prj_Meta_eq

theorem prj_Message_eq (d : D) (a : List Message) (h : prj_Message d = some a) : d = D.Message a := by
  cases d <;> simp [prj_Message] at h
  subst h
  rfl

instance cd_LMessage_ok : CodOk S cd_LMessage := cDat_ok prj_Message_eq rfl
instance bR_Message {e : TypeId} : BlkOk S (bRow e D.Message prj_Message) := bRow_ok prj_Message_eq

theorem prj_Enum_eq (d : D) (a : List Enum) (h : prj_Enum d = some a) : d = D.Enum a := by
  cases d <;> simp [prj_Enum] at h
  subst h
  rfl

instance cd_LEnum_ok : CodOk S cd_LEnum := cDat_ok prj_Enum_eq rfl
instance bR_Enum {e : TypeId} : BlkOk S (bRow e D.Enum prj_Enum) := bRow_ok prj_Enum_eq

theorem prj_Service_eq (d : D) (a : List Service) (h : prj_Service d = some a) : d = D.Service a := by
  cases d <;> simp [prj_Service] at h
  subst h
  rfl

instance cd_LService_ok : CodOk S cd_LService := cDat_ok prj_Service_eq rfl
instance bR_Service {e : TypeId} : BlkOk S (bRow e D.Service prj_Service) := bRow_ok prj_Service_eq

theorem prj_AVal_eq (d : D) (a : List AVal) (h : prj_AVal d = some a) : d = D.AVal a := by
  cases d <;> simp [prj_AVal] at h
  subst h
  rfl

instance cd_LAVal_ok : CodOk S cd_LAVal := cDat_ok prj_AVal_eq rfl
instance bR_AVal {e : TypeId} : BlkOk S (bRow e D.AVal prj_AVal) := bRow_ok prj_AVal_eq

theorem prj_Pair_eq (d : D) (a : List Pair) (h : prj_Pair d = some a) : d = D.Pair a := by
  cases d <;> simp [prj_Pair] at h
  subst h
  rfl

instance cd_LPair_ok : CodOk S cd_LPair := cDat_ok prj_Pair_eq rfl
instance bR_Pair {e : TypeId} : BlkOk S (bRow e D.Pair prj_Pair) := bRow_ok prj_Pair_eq

theorem prj_Slot_eq (d : D) (a : List Slot) (h : prj_Slot d = some a) : d = D.Slot a := by
  cases d <;> simp [prj_Slot] at h
  subst h
  rfl

instance cd_LSlot_ok : CodOk S cd_LSlot := cDat_ok prj_Slot_eq rfl
instance bR_Slot {e : TypeId} : BlkOk S (bRow e D.Slot prj_Slot) := bRow_ok prj_Slot_eq

theorem prj_Raw_eq (d : D) (a : List Raw) (h : prj_Raw d = some a) : d = D.Raw a := by
  cases d <;> simp [prj_Raw] at h
  subst h
  rfl

instance cd_LRaw_ok : CodOk S cd_LRaw := cDat_ok prj_Raw_eq rfl
instance bR_Raw {e : TypeId} : BlkOk S (bRow e D.Raw prj_Raw) := bRow_ok prj_Raw_eq

theorem prj_Note_eq (d : D) (a : List Note) (h : prj_Note d = some a) : d = D.Note a := by
  cases d <;> simp [prj_Note] at h
  subst h
  rfl

instance cd_LNote_ok : CodOk S cd_LNote := cDat_ok prj_Note_eq rfl
instance bR_Note {e : TypeId} : BlkOk S (bRow e D.Note prj_Note) := bRow_ok prj_Note_eq

theorem prj_AField_eq (d : D) (a : List AField) (h : prj_AField d = some a) : d = D.AField a := by
  cases d <;> simp [prj_AField] at h
  subst h
  rfl

instance cd_LAField_ok : CodOk S cd_LAField := cDat_ok prj_AField_eq rfl
instance bR_AField {e : TypeId} : BlkOk S (bRow e D.AField prj_AField) := bRow_ok prj_AField_eq

theorem prj_Span_eq (d : D) (a : List Span) (h : prj_Span d = some a) : d = D.Span a := by
  cases d <;> simp [prj_Span] at h
  subst h
  rfl

instance cd_LSpan_ok : CodOk S cd_LSpan := cDat_ok prj_Span_eq rfl
instance bR_Span {e : TypeId} : BlkOk S (bRow e D.Span prj_Span) := bRow_ok prj_Span_eq

theorem prj_str_eq (d : D) (a : List Str) (h : prj_str d = some a) : d = D.str a := by
  cases d <;> simp [prj_str] at h
  subst h
  rfl

instance cd_Lstr_ok : CodOk S cd_Lstr := cDat_ok prj_str_eq rfl
instance bR_str {e : TypeId} : BlkOk S (bRow e D.str prj_str) := bRow_ok prj_str_eq

theorem prj_i64_eq (d : D) (a : List Int) (h : prj_i64 d = some a) : d = D.i64 a := by
  cases d <;> simp [prj_i64] at h
  subst h
  rfl

instance cd_Li64_ok : CodOk S cd_Li64 := cDat_ok prj_i64_eq rfl
instance bR_i64 {e : TypeId} : BlkOk S (bRow e D.i64 prj_i64) := bRow_ok prj_i64_eq

theorem prj_anon124_eq (d : D) (a : List anon124) (h : prj_anon124 d = some a) : d = D.anon124 a := by
  cases d <;> simp [prj_anon124] at h
  subst h
  rfl

instance cd_Lanon124_ok : CodOk S cd_Lanon124 := cDat_ok prj_anon124_eq rfl
instance bR_anon124 {e : TypeId} : BlkOk S (bRow e D.anon124 prj_anon124) := bRow_ok prj_anon124_eq

theorem prj_Item_eq (d : D) (a : List Item) (h : prj_Item d = some a) : d = D.Item a := by
  cases d <;> simp [prj_Item] at h
  subst h
  rfl

instance cd_LItem_ok : CodOk S cd_LItem := cDat_ok prj_Item_eq rfl
instance bR_Item {e : TypeId} : BlkOk S (bRow e D.Item prj_Item) := bRow_ok prj_Item_eq

theorem prj_AMethod_eq (d : D) (a : List AMethod) (h : prj_AMethod d = some a) : d = D.AMethod a := by
  cases d <;> simp [prj_AMethod] at h
  subst h
  rfl

instance cd_LAMethod_ok : CodOk S cd_LAMethod := cDat_ok prj_AMethod_eq rfl
instance bR_AMethod {e : TypeId} : BlkOk S (bRow e D.AMethod prj_AMethod) := bRow_ok prj_AMethod_eq

theorem prj_Problem_eq (d : D) (a : List Problem) (h : prj_Problem d = some a) : d = D.Problem a := by
  cases d <;> simp [prj_Problem] at h
  subst h
  rfl

instance cd_LProblem_ok : CodOk S cd_LProblem := cDat_ok prj_Problem_eq rfl
instance bR_Problem {e : TypeId} : BlkOk S (bRow e D.Problem prj_Problem) := bRow_ok prj_Problem_eq

theorem prj_bool_eq (d : D) (a : List Bool) (h : prj_bool d = some a) : d = D.bool a := by
  cases d <;> simp [prj_bool] at h
  subst h
  rfl

instance cd_Lbool_ok : CodOk S cd_Lbool := cDat_ok prj_bool_eq rfl
instance bR_bool {e : TypeId} : BlkOk S (bRow e D.bool prj_bool) := bRow_ok prj_bool_eq

instance cd_Meta_ok : CodOk S cd_Meta := cIso_ok inferInstance fun _ => rfl

instance cd_Head_ok : CodOk S cd_Head := cIso_ok inferInstance fun _ => rfl

instance cd_Status_ok : CodOk S cd_Status := cIso_ok inferInstance fun _ => rfl

instance cd_Raw_ok : CodOk S cd_Raw := cIso_ok inferInstance fun _ => rfl

instance cd_AVal_ok : CodOk S cd_AVal := cIso_ok inferInstance fun _ => rfl

instance cd_Slot_ok : CodOk S cd_Slot := cIso_ok inferInstance fun _ => rfl

instance cd_Pair_ok : CodOk S cd_Pair := cIso_ok inferInstance fun _ => rfl

instance cd_Note_ok : CodOk S cd_Note := cIso_ok inferInstance fun _ => rfl

instance cd_AMethod_ok : CodOk S cd_AMethod := cIso_ok inferInstance fun _ => rfl

instance cd_Service_ok : CodOk S cd_Service := cIso_ok inferInstance fun _ => rfl

instance cd_Item_ok : CodOk S cd_Item := cIso_ok inferInstance fun _ => rfl

instance cd_Span_ok : CodOk S cd_Span := cIso_ok inferInstance fun _ => rfl

instance cd_Enum_ok : CodOk S cd_Enum := cIso_ok inferInstance fun _ => rfl

instance cd_AType_ok : CodOk S cd_AType := cIso_ok inferInstance fun _ => rfl

instance cd_AField_ok : CodOk S cd_AField := cIso_ok inferInstance fun _ => rfl

instance cd_Message_ok : CodOk S cd_Message := cIso_ok inferInstance fun _ => rfl

instance cd_Schema_ok : CodOk S cd_Schema := cIso_ok inferInstance fun _ => rfl

instance cd_Icept_ok : CodOk S cd_Icept := cIso_ok inferInstance fun _ => rfl

instance cd_Trace_ok : CodOk S cd_Trace := cIso_ok inferInstance fun _ => rfl

instance cd_intercept_size_ok : CodOk S cd_intercept_size := cIso_ok inferInstance fun _ => rfl

instance cd_intercept_token_ok : CodOk S cd_intercept_token := cIso_ok inferInstance fun _ => rfl

instance cd_intercept_limit_ok : CodOk S cd_intercept_limit := cIso_ok inferInstance fun _ => rfl

instance cd_intercept_stamp_ok : CodOk S cd_intercept_stamp := cIso_ok inferInstance fun _ => rfl

instance cd_intercept_deadline_ok : CodOk S cd_intercept_deadline := cIso_ok inferInstance fun _ => rfl

instance cd_anon124_ok : CodOk S cd_anon124 := cIso_ok inferInstance fun _ => rfl

instance cd_intercept_hide_ok : CodOk S cd_intercept_hide := cIso_ok inferInstance fun _ => rfl

instance cd_Problem_ok : CodOk S cd_Problem := cIso_ok inferInstance fun _ => rfl

instance cd_ref12_list_ok : CodOk S cd_ref12_list := cIso_ok inferInstance fun _ => rfl

theorem viewOk : ViewOk S view elOf := by
  refine ⟨fun e E h l => ?_, fun d l => ?_, fun d d2 l2 h => ?_, fun d => ?_⟩
  · have := lk_mem h
    simp only [elTab, List.mem_cons, Prod.mk.injEq, List.not_mem_nil, or_false] at this
    rcases this with ⟨_, rfl⟩ | ⟨_, rfl⟩ | ⟨_, rfl⟩ | ⟨_, rfl⟩ | ⟨_, rfl⟩ | ⟨_, rfl⟩ | ⟨_, rfl⟩ | ⟨_, rfl⟩ | ⟨_, rfl⟩ | ⟨_, rfl⟩ | ⟨_, rfl⟩ | ⟨_, rfl⟩ | ⟨_, rfl⟩ | ⟨_, rfl⟩ | ⟨_, rfl⟩ | ⟨_, rfl⟩ | ⟨_, rfl⟩ | ⟨_, rfl⟩ | ⟨_, rfl⟩ | ⟨_, rfl⟩ <;> rfl
  · cases d <;> rfl
  · cases d
    · rw [prj_Icept_eq d2 l2 h]; rfl
    · rw [prj_Trace_eq d2 l2 h]; rfl
    · rw [prj_Meta_eq d2 l2 h]; rfl
    · rw [prj_Message_eq d2 l2 h]; rfl
    · rw [prj_Enum_eq d2 l2 h]; rfl
    · rw [prj_Service_eq d2 l2 h]; rfl
    · rw [prj_AVal_eq d2 l2 h]; rfl
    · rw [prj_Pair_eq d2 l2 h]; rfl
    · rw [prj_Slot_eq d2 l2 h]; rfl
    · rw [prj_Raw_eq d2 l2 h]; rfl
    · rw [prj_Note_eq d2 l2 h]; rfl
    · rw [prj_AField_eq d2 l2 h]; rfl
    · rw [prj_Span_eq d2 l2 h]; rfl
    · rw [prj_str_eq d2 l2 h]; rfl
    · rw [prj_i64_eq d2 l2 h]; rfl
    · rw [prj_anon124_eq d2 l2 h]; rfl
    · rw [prj_Item_eq d2 l2 h]; rfl
    · rw [prj_AMethod_eq d2 l2 h]; rfl
    · rw [prj_Problem_eq d2 l2 h]; rfl
    · rw [prj_bool_eq d2 l2 h]; rfl
  · cases d
    · exact cd_Icept_ok
    · exact cd_Trace_ok
    · exact cd_Meta_ok
    · exact cd_Message_ok
    · exact cd_Enum_ok
    · exact cd_Service_ok
    · exact cd_AVal_ok
    · exact cd_Pair_ok
    · exact cd_Slot_ok
    · exact cd_Raw_ok
    · exact cd_Note_ok
    · exact cd_AField_ok
    · exact cd_Span_ok
    · exact cStr_ok
    · exact (cInt_ok _)
    · exact cd_anon124_ok
    · exact cd_Item_ok
    · exact cd_AMethod_ok
    · exact cd_Problem_ok
    · exact cBool_ok

theorem S_ok : ShOk S := shOf_ok viewOk

def tys : List (Nat × Ty) :=
  [(3, ⟨23, false, 1, 8, [.int .i64 0], [], none, [], false, none, false⟩),
   (4, ⟨1, false, 1, 1, [.bool false], [], none, [], false, none, false⟩),
   (5, ⟨24, false, 1, 1, [.int .u8 0], [], none, [], false, none, false⟩),
   (9, ⟨3, false, 1, 16, [.string ⟨#[]⟩], [], none, [], false, none, false⟩),
   (20, ⟨0, false, 1, 16, [.nilIface], [], none, [], false, none, false⟩),
   (21, ⟨22, false, 1, 4, [.int .i32 0], [], none, [], false, none, false⟩),
   (22, ⟨4, false, 1, 24, [.slice none 0 0], [], some 60, [], false, none, false⟩),
   (23, ⟨4, false, 1, 24, [.slice none 0 0], [], some 82, [], true, none, false⟩),
   (24, ⟨4, false, 1, 24, [.slice none 0 0], [], some 92, [], true, none, false⟩),
   (26, ⟨5, true, 4, 64, [.string ⟨#[]⟩, .string ⟨#[]⟩, .int .i64 0, .slice none 0 0], [(0, 1, false), (1, 1, false), (2, 1, false), (3, 1, false)], none, [], false, none, true⟩),
   (30, ⟨5, true, 2, 24, [.int .i64 0, .string ⟨#[]⟩], [(0, 1, false), (1, 1, false)], none, [2, 3], false, none, true⟩),
   (35, ⟨4, false, 1, 24, [.slice none 0 0], [], some 76, [], false, none, false⟩),
   (36, ⟨4, false, 1, 24, [.slice none 0 0], [], some 141, [], false, none, false⟩),
   (37, ⟨4, false, 1, 24, [.slice none 0 0], [], some 146, [], false, none, false⟩),
   (39, ⟨5, true, 3, 72, [.slice none 0 0, .slice none 0 0, .slice none 0 0], [(0, 1, false), (1, 1, false), (2, 1, false)], none, [], false, none, true⟩),
   (40, ⟨27, false, 1, 8, [.int .u64 0], [], none, [], false, none, false⟩),
   (41, ⟨4, false, 1, 24, [.slice none 0 0], [], some 46, [], false, none, false⟩),
   (42, ⟨4, false, 1, 24, [.slice none 0 0], [], some 96, [], false, none, false⟩),
   (43, ⟨4, false, 1, 24, [.slice none 0 0], [], some 78, [], false, none, false⟩),
   (44, ⟨4, false, 1, 24, [.slice none 0 0], [], some 98, [], false, none, false⟩),
   (46, ⟨5, true, 7, 128, [.int .i64 0, .int .u64 0, .string ⟨#[]⟩, .slice none 0 0, .slice none 0 0, .slice none 0 0, .slice none 0 0], [(0, 1, false), (1, 1, false), (2, 1, false), (3, 1, false), (4, 1, false), (5, 1, false), (6, 1, false)], none, [], false, none, true⟩),
   (54, ⟨23, false, 1, 8, [.int .i64 0], [], none, [], false, none, false⟩),
   (60, ⟨5, true, 5, 56, [.int .i64 0, .string ⟨#[]⟩, .string ⟨#[]⟩, .int .i64 0, .int .i64 0], [(0, 1, false), (1, 1, false), (2, 1, false), (3, 1, false), (4, 1, false)], none, [2, 3, 3, 2, 2], false, none, true⟩),
   (66, ⟨5, true, 2, 24, [.int .i64 0, .string ⟨#[]⟩], [(0, 1, false), (1, 1, false)], none, [2, 3], false, none, true⟩),
   (68, ⟨5, true, 8, 144, [.string ⟨#[]⟩, .int .i64 0, .int .u64 0, .string ⟨#[]⟩, .slice none 0 0, .slice none 0 0, .slice none 0 0, .slice none 0 0], [(0, 1, false), (1, 7, true)], none, [], false, none, true⟩),
   (69, ⟨4, false, 1, 24, [.slice none 0 0], [], some 68, [], false, none, false⟩),
   (71, ⟨5, true, 16, 240, [.int .i64 0, .string ⟨#[]⟩, .int .i64 0, .int .i64 0, .int .i64 0, .string ⟨#[]⟩, .string ⟨#[]⟩, .bool false, .int .i64 0, .int .u64 0, .string ⟨#[]⟩, .slice none 0 0, .slice none 0 0, .slice none 0 0, .slice none 0 0, .slice none 0 0], [(0, 1, false), (1, 1, false), (2, 1, false), (3, 1, false), (4, 2, true), (6, 1, false), (7, 1, false), (8, 7, true), (15, 1, false)], none, [], false, none, true⟩),
   (72, ⟨4, false, 1, 24, [.slice none 0 0], [], some 71, [], false, none, false⟩),
   (73, ⟨4, false, 1, 24, [.slice none 0 0], [], some 219, [], false, none, false⟩),
   (74, ⟨4, false, 1, 24, [.slice none 0 0], [], some 9, [], false, none, false⟩),
   (76, ⟨5, true, 5, 112, [.string ⟨#[]⟩, .slice none 0 0, .slice none 0 0, .slice none 0 0, .slice none 0 0], [(0, 1, false), (1, 1, false), (2, 1, false), (3, 1, false), (4, 1, false)], none, [], false, none, true⟩),
   (78, ⟨5, true, 8, 136, [.int .i64 0, .int .i64 0, .int .u64 0, .string ⟨#[]⟩, .slice none 0 0, .slice none 0 0, .slice none 0 0, .slice none 0 0], [(0, 1, false), (1, 7, true)], none, [], false, none, true⟩),
   (80, ⟨4, false, 1, 24, [.slice none 0 0], [], some 3, [], false, none, false⟩),
   (82, ⟨5, true, 2, 40, [.string ⟨#[]⟩, .slice none 0 0], [(0, 1, false), (1, 1, false)], none, [], false, none, true⟩),
   (92, ⟨5, true, 2, 32, [.string ⟨#[]⟩, .string ⟨#[]⟩], [(0, 1, false), (1, 1, false)], none, [3, 3], false, none, true⟩),
   (96, ⟨5, true, 14, 256, [.int .i64 0, .int .u64 0, .string ⟨#[]⟩, .slice none 0 0, .slice none 0 0, .slice none 0 0, .slice none 0 0, .int .i64 0, .int .u64 0, .string ⟨#[]⟩, .slice none 0 0, .slice none 0 0, .slice none 0 0, .slice none 0 0], [(0, 7, true), (7, 7, true)], none, [], false, none, true⟩),
   (98, ⟨5, true, 4, 40, [.int .i64 0, .int .i64 0, .int .u64 0, .string ⟨#[]⟩], [(0, 1, false), (1, 1, false), (2, 1, false), (3, 1, false)], none, [2, 2, 2, 3], false, none, true⟩),
   (111, ⟨7, false, 1, 8, [.nilFunc], [], none, [], false, none, false⟩),
   (114, ⟨5, true, 1, 8, [.int .i64 0], [(0, 1, false)], none, [2], false, none, true⟩),
   (118, ⟨5, true, 2, 32, [.string ⟨#[]⟩, .string ⟨#[]⟩], [(0, 1, false), (1, 1, false)], none, [3, 3], false, none, true⟩),
   (120, ⟨5, true, 2, 16, [.int .i64 0, .int .i64 0], [(0, 1, false), (1, 1, false)], none, [2, 2], false, none, true⟩),
   (121, ⟨5, true, 2, 32, [.string ⟨#[]⟩, .string ⟨#[]⟩], [(0, 1, false), (1, 1, false)], none, [3, 3], false, none, true⟩),
   (123, ⟨5, true, 1, 8, [.int .i64 0], [(0, 1, false)], none, [2], false, none, true⟩),
   (124, ⟨5, true, 2, 16, [.int .i64 0, .int .i64 0], [(0, 1, false), (1, 1, false)], none, [2, 2], false, none, true⟩),
   (125, ⟨0, true, 26, 208, [.int .i64 0, .int .i64 0, .int .i64 0, .int .i64 0, .int .i64 0, .int .i64 0, .int .i64 0, .int .i64 0, .int .i64 0, .int .i64 0, .int .i64 0, .int .i64 0, .int .i64 0, .int .i64 0, .int .i64 0, .int .i64 0, .int .i64 0, .int .i64 0, .int .i64 0, .int .i64 0, .int .i64 0, .int .i64 0, .int .i64 0, .int .i64 0, .int .i64 0, .int .i64 0], [], none, [], false, some (124, 13), true⟩),
   (130, ⟨7, false, 1, 8, [.nilFunc], [], none, [], false, none, false⟩),
   (134, ⟨7, false, 1, 8, [.nilFunc], [], none, [], false, none, false⟩),
   (139, ⟨4, false, 1, 24, [.slice none 0 0], [], some 143, [], false, none, false⟩),
   (141, ⟨5, true, 5, 96, [.string ⟨#[]⟩, .bool false, .slice none 0 0, .slice none 0 0, .slice none 0 0], [(0, 1, false), (1, 1, false), (2, 1, false), (3, 1, false), (4, 1, false)], none, [], false, none, true⟩),
   (143, ⟨5, true, 3, 48, [.string ⟨#[]⟩, .int .i64 0, .slice none 0 0], [(0, 1, false), (1, 1, false), (2, 1, false)], none, [], false, none, true⟩),
   (144, ⟨4, false, 1, 24, [.slice none 0 0], [], some 148, [], false, none, false⟩),
   (146, ⟨5, true, 3, 64, [.string ⟨#[]⟩, .slice none 0 0, .slice none 0 0], [(0, 1, false), (1, 1, false), (2, 1, false)], none, [], false, none, true⟩),
   (148, ⟨5, true, 5, 80, [.string ⟨#[]⟩, .string ⟨#[]⟩, .string ⟨#[]⟩, .int .i64 0, .slice none 0 0], [(0, 1, false), (1, 1, false), (2, 1, false), (3, 1, false), (4, 1, false)], none, [], false, none, true⟩),
   (149, ⟨4, false, 1, 24, [.slice none 0 0], [], some 190, [], false, none, false⟩),
   (153, ⟨7, false, 1, 8, [.nilFunc], [], none, [], false, none, false⟩),
   (155, ⟨7, false, 1, 8, [.nilFunc], [], none, [], false, none, false⟩),
   (166, ⟨5, true, 0, 0, [], [], none, [], false, none, true⟩),
   (169, ⟨0, true, 26, 416, [.string ⟨#[]⟩, .string ⟨#[]⟩, .string ⟨#[]⟩, .string ⟨#[]⟩, .string ⟨#[]⟩, .string ⟨#[]⟩, .string ⟨#[]⟩, .string ⟨#[]⟩, .string ⟨#[]⟩, .string ⟨#[]⟩, .string ⟨#[]⟩, .string ⟨#[]⟩, .string ⟨#[]⟩, .string ⟨#[]⟩, .string ⟨#[]⟩, .string ⟨#[]⟩, .string ⟨#[]⟩, .string ⟨#[]⟩, .string ⟨#[]⟩, .string ⟨#[]⟩, .string ⟨#[]⟩, .string ⟨#[]⟩, .string ⟨#[]⟩, .string ⟨#[]⟩, .string ⟨#[]⟩, .string ⟨#[]⟩], [], none, [], false, some (9, 26), true⟩),
   (173, ⟨5, true, 2, 40, [.string ⟨#[]⟩, .slice none 0 0], [(0, 1, false), (1, 1, false)], none, [], false, none, true⟩),
   (178, ⟨4, false, 1, 24, [.slice none 0 0], [], some 4, [], false, none, false⟩),
   (188, ⟨6, false, 1, 8, [.pointer none], [], none, [], false, none, false⟩),
   (190, ⟨5, true, 3, 32, [.string ⟨#[]⟩, .int .i64 0, .int .i64 0], [(0, 1, false), (1, 1, false), (2, 1, false)], none, [3, 2, 2], false, none, true⟩),
   (200, ⟨7, false, 1, 8, [.nilFunc], [], none, [], false, none, false⟩),
   (208, ⟨0, true, 256, 256, [.bool false, .bool false, .bool false, .bool false, .bool false, .bool false, .bool false, .bool false, .bool false, .bool false, .bool false, .bool false, .bool false, .bool false, .bool false, .bool false, .bool false, .bool false, .bool false, .bool false, .bool false, .bool false, .bool false, .bool false, .bool false, .bool false, .bool false, .bool false, .bool false, .bool false, .bool false, .bool false, .bool false, .bool false, .bool false, .bool false, .bool false, .bool false, .bool false, .bool false, .bool false, .bool false, .bool false, .bool false, .bool false, .bool false, .bool false, .bool false, .bool false, .bool false, .bool false, .bool false, .bool false, .bool false, .bool false, .bool false, .bool false, .bool false, .bool false, .bool false, .bool false, .bool false, .bool false, .bool false, .bool false, .bool false, .bool false, .bool false, .bool false, .bool false, .bool false, .bool false, .bool false, .bool false, .bool false, .bool false, .bool false, .bool false, .bool false, .bool false, .bool false, .bool false, .bool false, .bool false, .bool false, .bool false, .bool false, .bool false, .bool false, .bool false, .bool false, .bool false, .bool false, .bool false, .bool false, .bool false, .bool false, .bool false, .bool false, .bool false, .bool false, .bool false, .bool false, .bool false, .bool false, .bool false, .bool false, .bool false, .bool false, .bool false, .bool false, .bool false, .bool false, .bool false, .bool false, .bool false, .bool false, .bool false, .bool false, .bool false, .bool false, .bool false, .bool false, .bool false, .bool false, .bool false, .bool false, .bool false, .bool false, .bool false, .bool false, .bool false, .bool false, .bool false, .bool false, .bool false, .bool false, .bool false, .bool false, .bool false, .bool false, .bool false, .bool false, .bool false, .bool false, .bool false, .bool false, .bool false, .bool false, .bool false, .bool false, .bool false, .bool false, .bool false, .bool false, .bool false, .bool false, .bool false, .bool false, .bool false, .bool false, .bool false, .bool false, .bool false, .bool false, .bool false, .bool false, .bool false, .bool false, .bool false, .bool false, .bool false, .bool false, .bool false, .bool false, .bool false, .bool false, .bool false, .bool false, .bool false, .bool false, .bool false, .bool false, .bool false, .bool false, .bool false, .bool false, .bool false, .bool false, .bool false, .bool false, .bool false, .bool false, .bool false, .bool false, .bool false, .bool false, .bool false, .bool false, .bool false, .bool false, .bool false, .bool false, .bool false, .bool false, .bool false, .bool false, .bool false, .bool false, .bool false, .bool false, .bool false, .bool false, .bool false, .bool false, .bool false, .bool false, .bool false, .bool false, .bool false, .bool false, .bool false, .bool false, .bool false, .bool false, .bool false, .bool false, .bool false, .bool false, .bool false, .bool false, .bool false, .bool false, .bool false, .bool false, .bool false, .bool false, .bool false, .bool false, .bool false, .bool false, .bool false, .bool false, .bool false, .bool false, .bool false, .bool false, .bool false, .bool false, .bool false, .bool false, .bool false, .bool false, .bool false, .bool false, .bool false], [], none, [], false, some (4, 256), true⟩),
   (212, ⟨6, false, 1, 8, [.pointer none], [], none, [], false, none, false⟩),
   (219, ⟨5, true, 2, 16, [.int .i64 0, .int .i64 0], [(0, 1, false), (1, 1, false)], none, [2, 2], false, none, true⟩)]
def T : TypeId → Option Ty := lk tys

theorem T_ok : ∀ t ty, T t = some ty → TyOk Tryz.prog t ty := by
  intro t ty h
  have := lk_mem h
  simp only [tys, List.mem_cons, Prod.mk.injEq, List.not_mem_nil, or_false] at this
  rcases this with ⟨rfl, rfl⟩ | ⟨rfl, rfl⟩ | ⟨rfl, rfl⟩ | ⟨rfl, rfl⟩ | ⟨rfl, rfl⟩ | ⟨rfl, rfl⟩ | ⟨rfl, rfl⟩ | ⟨rfl, rfl⟩ | ⟨rfl, rfl⟩ | ⟨rfl, rfl⟩ | ⟨rfl, rfl⟩ | ⟨rfl, rfl⟩ | ⟨rfl, rfl⟩ | ⟨rfl, rfl⟩ | ⟨rfl, rfl⟩ | ⟨rfl, rfl⟩ | ⟨rfl, rfl⟩ | ⟨rfl, rfl⟩ | ⟨rfl, rfl⟩ | ⟨rfl, rfl⟩ | ⟨rfl, rfl⟩ | ⟨rfl, rfl⟩ | ⟨rfl, rfl⟩ | ⟨rfl, rfl⟩ | ⟨rfl, rfl⟩ | ⟨rfl, rfl⟩ | ⟨rfl, rfl⟩ | ⟨rfl, rfl⟩ | ⟨rfl, rfl⟩ | ⟨rfl, rfl⟩ | ⟨rfl, rfl⟩ | ⟨rfl, rfl⟩ | ⟨rfl, rfl⟩ | ⟨rfl, rfl⟩ | ⟨rfl, rfl⟩ | ⟨rfl, rfl⟩ | ⟨rfl, rfl⟩ | ⟨rfl, rfl⟩ | ⟨rfl, rfl⟩ | ⟨rfl, rfl⟩ | ⟨rfl, rfl⟩ | ⟨rfl, rfl⟩ | ⟨rfl, rfl⟩ | ⟨rfl, rfl⟩ | ⟨rfl, rfl⟩ | ⟨rfl, rfl⟩ | ⟨rfl, rfl⟩ | ⟨rfl, rfl⟩ | ⟨rfl, rfl⟩ | ⟨rfl, rfl⟩ | ⟨rfl, rfl⟩ | ⟨rfl, rfl⟩ | ⟨rfl, rfl⟩ | ⟨rfl, rfl⟩ | ⟨rfl, rfl⟩ | ⟨rfl, rfl⟩ | ⟨rfl, rfl⟩ | ⟨rfl, rfl⟩ | ⟨rfl, rfl⟩ | ⟨rfl, rfl⟩ | ⟨rfl, rfl⟩ | ⟨rfl, rfl⟩ | ⟨rfl, rfl⟩ | ⟨rfl, rfl⟩ | ⟨rfl, rfl⟩ | ⟨rfl, rfl⟩ <;> (clear h; show _ = _; kernel_rfl)

theorem mixed : Tryz.prog.follows .mixedOrders = true := by kernel_rfl
@[reducible] noncomputable def Z : Seat D := ⟨Tryz.prog, S, T, mixed, T_ok, S_ok⟩
end Go.Proofs.YtemjcccdcnhmhaaGreatDoor
