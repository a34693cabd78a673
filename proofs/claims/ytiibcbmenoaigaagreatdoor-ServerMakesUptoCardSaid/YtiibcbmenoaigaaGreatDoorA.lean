/- Server: the data. -/
import Derived.Test.YtiibcbmenoaigaaGreatDoorProg
import Derived.Test.YtiibcbmenoaigaaGreatDoorEng11
import Derived.Test.YtiibcbmenoaigaaGreatDoorEng15
namespace Go.Proofs.YtiibcbmenoaigaaGreatDoor
open Go.RowKit Go.Vc
set_option linter.unusedVariables false
set_option linter.unusedSimpArgs false
set_option maxRecDepth 100000
structure Raw where
 Num:Int
 Wire:Int
 Bits:Int
 Data:Str
deriving DecidableEq
mutual
inductive AVal where
 | mk (Kind_:Int) (Bits_:Int) (Text_:Str) (List_:_root_.List AVal) (Pairs_:_root_.List Pair) (Slots_:_root_.List Slot) (Raws_:_root_.List Raw)
inductive Slot where
 | mk (Num_:Int) (Val_:AVal)
inductive Pair where
 | mk (Key_:AVal) (Val_:AVal)
end
def AVal.Kind (x:AVal):Int:=
 match x with
 | .mk a _ _ _ _ _ _=>a
def AVal.Bits (x:AVal):Int:=
 match x with
 | .mk _ a _ _ _ _ _=>a
def AVal.Text (x:AVal):Str:=
 match x with
 | .mk _ _ a _ _ _ _=>a
def AVal.List (x:AVal):_root_.List AVal:=
 match x with
 | .mk _ _ _ a _ _ _=>a
def AVal.Pairs (x:AVal):_root_.List Pair:=
 match x with
 | .mk _ _ _ _ a _ _=>a
def AVal.Slots (x:AVal):_root_.List Slot:=
 match x with
 | .mk _ _ _ _ _ a _=>a
def AVal.Raws (x:AVal):_root_.List Raw:=
 match x with
 | .mk _ _ _ _ _ _ a=>a
def AVal.re (x:AVal):AVal:=AVal.mk x.Kind x.Bits x.Text x.List x.Pairs x.Slots x.Raws
@[simp] theorem AVal.re_eq (x:AVal):AVal.re x=x:=by cases x;rfl
theorem AVal.eta (x:AVal):AVal.mk x.Kind x.Bits x.Text x.List x.Pairs x.Slots x.Raws=x:=by cases x;rfl
def Slot.Num (x:Slot):Int:=
 match x with
 | .mk a _=>a
def Slot.Val (x:Slot):AVal:=
 match x with
 | .mk _ a=>a
def Slot.re (x:Slot):Slot:=Slot.mk x.Num x.Val
@[simp] theorem Slot.re_eq (x:Slot):Slot.re x=x:=by cases x;rfl
theorem Slot.eta (x:Slot):Slot.mk x.Num x.Val=x:=by cases x;rfl
def Pair.Key (x:Pair):AVal:=
 match x with
 | .mk a _=>a
def Pair.Val (x:Pair):AVal:=
 match x with
 | .mk _ a=>a
def Pair.re (x:Pair):Pair:=Pair.mk x.Key x.Val
@[simp] theorem Pair.re_eq (x:Pair):Pair.re x=x:=by cases x;rfl
theorem Pair.eta (x:Pair):Pair.mk x.Key x.Val=x:=by cases x;rfl
structure Note where
 Name:Str
 Val:AVal
structure Span where
 From:Int
 To:Int
deriving DecidableEq
structure Item where
 Name:Str
 Num:Int
 Notes:_root_.List Note
structure Enum where
 Name:Str
 Open:Bool
 Items:_root_.List Item
 Reserved:_root_.List Span
 Notes:_root_.List Note
structure AType where
 Kind:Int
 Name:Str
deriving DecidableEq
structure AField where
 Num:Int
 Name:Str
 Card:Int
 Key:Int
 Type_:AType
 Union:Str
 HasDefault:Bool
 Default:AVal
 Notes:_root_.List Note
structure Message where
 Name:Str
 Fields:_root_.List AField
 Reserved:_root_.List Span
 Gone:_root_.List Str
 Notes:_root_.List Note
structure AMethod where
 Name:Str
 In:Str
 Out:Str
 Shape:Int
 Notes:_root_.List Note
structure Service where
 Name:Str
 Methods:_root_.List AMethod
 Notes:_root_.List Note
structure Schema where
 Messages:_root_.List Message
 Enums:_root_.List Enum
 Services:_root_.List Service
structure Icept where
 Kind:Int
 Key:Str
 Val:Str
 Num:Int
 Span:Int
deriving DecidableEq
structure Handler where
 Method:Str
 Kind:Int
 Num:Int
 Cost:Int
deriving DecidableEq
structure law52_Setup where
 S:Schema
 H:_root_.List Handler
 L:_root_.List Icept
 Most:Int
structure Trace where
 Method:Str
 Times:_root_.List Int
deriving DecidableEq
structure Status where
 Code:Int
 Text:Str
deriving DecidableEq
structure AMeta where
 Key:Str
 Val:Str
deriving DecidableEq
structure Task where
 Conn:Int
 Id:Int
 Method:Str
 Metas:_root_.List AMeta
 Deadline:Int
 In:_root_.List Str
 Ready:Int
 Answers:_root_.List Str
 Status:Status
 Ended:Bool
deriving DecidableEq
structure Server where
 Name:Str
 Schema:Schema
 Handlers:_root_.List Handler
 Icepts:_root_.List Icept
 Traces:_root_.List Trace
 Tasks:_root_.List Task
 Most:Int
 Draining:Bool
structure Problem where
 Def:Str
 Num:Int
 Err:Int
deriving DecidableEq
structure check_finder where
 def_:Str
 num:Int
 out:_root_.List Problem
deriving DecidableEq
structure intercept_token where
 key:Str
 val:Str
deriving DecidableEq
structure intercept_stamp where
 key:Str
 val:Str
deriving DecidableEq
structure intercept_size where
 most:Int
deriving DecidableEq
structure intercept_limit where
 most:Int
 span:Int
deriving DecidableEq
structure intercept_deadline where
 span:Int
deriving DecidableEq
structure intercept_hide where
deriving DecidableEq
structure ref12_list where
 def_:Str
 l:_root_.List Problem
deriving DecidableEq
structure note_rule where
 kind:Int
 targets:Int
deriving DecidableEq
inductive D where
 | Message (l:List Message)
 | Enum (l:List Enum)
 | Service (l:List Service)
 | Handler (l:List Handler)
 | Icept (l:List Icept)
 | Trace (l:List Trace)
 | Task (l:List Task)
 | Note (l:List Note)
 | AVal (l:List AVal)
 | Pair (l:List Pair)
 | Slot (l:List Slot)
 | Raw (l:List Raw)
 | AField (l:List AField)
 | Span (l:List Span)
 | str (l:List Str)
 | AMethod (l:List AMethod)
 | Problem (l:List Problem)
 | i64 (l:List Int)
 | AMeta (l:List AMeta)
 | Lstr (l:List (List Str))
 | Item (l:List Item)
 | bool (l:List Bool)
 | nomap (l:List Unit)
 | Mstr_bool (l:List (Str×Bool))
 | Mstr_note_rule (l:List (Str×note_rule))
def prj_Mstr_bool (d:D):Option (List (Str×Bool)):=
 match d with
 | .Mstr_bool l=>some l
 | _=>none
def cd_Mstr_bool:Cod D (List (Str×Bool)):=cMap D.Mstr_bool prj_Mstr_bool
def prj_Mstr_note_rule (d:D):Option (List (Str×note_rule)):=
 match d with
 | .Mstr_note_rule l=>some l
 | _=>none
def cd_Mstr_note_rule:Cod D (List (Str×note_rule)):=cMap D.Mstr_note_rule prj_Mstr_note_rule
def prj_nomap (d:D):Option (List Unit):=
 match d with
 | .nomap l=>some l
 | _=>none
def prj_Message (d:D):Option (List Message):=
 match d with
 | .Message l=>some l
 | _=>none
def cd_LMessage:Cod D (List Message):=cDat D.Message prj_Message []
def prj_Enum (d:D):Option (List Enum):=
 match d with
 | .Enum l=>some l
 | _=>none
def cd_LEnum:Cod D (List Enum):=cDat D.Enum prj_Enum []
def prj_Service (d:D):Option (List Service):=
 match d with
 | .Service l=>some l
 | _=>none
def cd_LService:Cod D (List Service):=cDat D.Service prj_Service []
def prj_Handler (d:D):Option (List Handler):=
 match d with
 | .Handler l=>some l
 | _=>none
def cd_LHandler:Cod D (List Handler):=cDat D.Handler prj_Handler []
def prj_Icept (d:D):Option (List Icept):=
 match d with
 | .Icept l=>some l
 | _=>none
def cd_LIcept:Cod D (List Icept):=cDat D.Icept prj_Icept []
def prj_Trace (d:D):Option (List Trace):=
 match d with
 | .Trace l=>some l
 | _=>none
def cd_LTrace:Cod D (List Trace):=cDat D.Trace prj_Trace []
def prj_Task (d:D):Option (List Task):=
 match d with
 | .Task l=>some l
 | _=>none
def cd_LTask:Cod D (List Task):=cDat D.Task prj_Task []
def prj_Note (d:D):Option (List Note):=
 match d with
 | .Note l=>some l
 | _=>none
def cd_LNote:Cod D (List Note):=cDat D.Note prj_Note []
def prj_AVal (d:D):Option (List AVal):=
 match d with
 | .AVal l=>some l
 | _=>none
def cd_LAVal:Cod D (List AVal):=cDat D.AVal prj_AVal []
def prj_Pair (d:D):Option (List Pair):=
 match d with
 | .Pair l=>some l
 | _=>none
def cd_LPair:Cod D (List Pair):=cDat D.Pair prj_Pair []
def prj_Slot (d:D):Option (List Slot):=
 match d with
 | .Slot l=>some l
 | _=>none
def cd_LSlot:Cod D (List Slot):=cDat D.Slot prj_Slot []
def prj_Raw (d:D):Option (List Raw):=
 match d with
 | .Raw l=>some l
 | _=>none
def cd_LRaw:Cod D (List Raw):=cDat D.Raw prj_Raw []
def prj_AField (d:D):Option (List AField):=
 match d with
 | .AField l=>some l
 | _=>none
def cd_LAField:Cod D (List AField):=cDat D.AField prj_AField []
def prj_Span (d:D):Option (List Span):=
 match d with
 | .Span l=>some l
 | _=>none
def cd_LSpan:Cod D (List Span):=cDat D.Span prj_Span []
def prj_str (d:D):Option (List Str):=
 match d with
 | .str l=>some l
 | _=>none
def cd_Lstr:Cod D (List Str):=cDat D.str prj_str []
def prj_AMethod (d:D):Option (List AMethod):=
 match d with
 | .AMethod l=>some l
 | _=>none
def cd_LAMethod:Cod D (List AMethod):=cDat D.AMethod prj_AMethod []
def prj_Problem (d:D):Option (List Problem):=
 match d with
 | .Problem l=>some l
 | _=>none
def cd_LProblem:Cod D (List Problem):=cDat D.Problem prj_Problem []
def prj_i64 (d:D):Option (List Int):=
 match d with
 | .i64 l=>some l
 | _=>none
def cd_Li64:Cod D (List Int):=cDat D.i64 prj_i64 []
def prj_Meta (d:D):Option (List AMeta):=
 match d with
 | .AMeta l=>some l
 | _=>none
def cd_LMeta:Cod D (List AMeta):=cDat D.AMeta prj_Meta []
def prj_Lstr (d:D):Option (List (List Str)):=
 match d with
 | .Lstr l=>some l
 | _=>none
def cd_LLstr:Cod D (List (List Str)):=cDat D.Lstr prj_Lstr []
def prj_Item (d:D):Option (List Item):=
 match d with
 | .Item l=>some l
 | _=>none
def cd_LItem:Cod D (List Item):=cDat D.Item prj_Item []
def prj_bool (d:D):Option (List Bool):=
 match d with
 | .bool l=>some l
 | _=>none
def cd_Lbool:Cod D (List Bool):=cDat D.bool prj_bool []
def cd_Raw:Cod D Raw:=cIso (cPair (cInt .i64) (cPair (cInt .i64) (cPair (cInt .u64) cStr))) (fun p=>Raw.mk (p.1) (p.2.1) (p.2.2.1) (p.2.2.2)) (fun b=>(b.Num,b.Wire,b.Bits,b.Data))
def cd_AVal:Cod D AVal:=cIso (cPair (cInt .i64) (cPair (cInt .u64) (cPair cStr (cPair cd_LAVal (cPair cd_LPair (cPair cd_LSlot cd_LRaw)))))) (fun p=>AVal.mk (p.1) (p.2.1) (p.2.2.1) (p.2.2.2.1) (p.2.2.2.2.1) (p.2.2.2.2.2.1) (p.2.2.2.2.2.2)) (fun b=>(b.Kind,b.Bits,b.Text,b.List,b.Pairs,b.Slots,b.Raws))
def cd_Slot:Cod D Slot:=cIso (cPair (cInt .i64) cd_AVal) (fun p=>Slot.mk (p.1) (p.2)) (fun b=>(b.Num,b.Val))
def cd_Pair:Cod D Pair:=cIso (cPair cd_AVal cd_AVal) (fun p=>Pair.mk (p.1) (p.2)) (fun b=>(b.Key,b.Val))
def cd_Note:Cod D Note:=cIso (cPair cStr cd_AVal) (fun p=>Note.mk (p.1) (p.2)) (fun b=>(b.Name,b.Val))
def cd_Span:Cod D Span:=cIso (cPair (cInt .i64) (cInt .i64)) (fun p=>Span.mk (p.1) (p.2)) (fun b=>(b.From,b.To))
def cd_Item:Cod D Item:=cIso (cPair cStr (cPair (cInt .i64) cd_LNote)) (fun p=>Item.mk (p.1) (p.2.1) (p.2.2)) (fun b=>(b.Name,b.Num,b.Notes))
def cd_Enum:Cod D Enum:=cIso (cPair cStr (cPair cBool (cPair cd_LItem (cPair cd_LSpan cd_LNote)))) (fun p=>Enum.mk (p.1) (p.2.1) (p.2.2.1) (p.2.2.2.1) (p.2.2.2.2)) (fun b=>(b.Name,b.Open,b.Items,b.Reserved,b.Notes))
def cd_AType:Cod D AType:=cIso (cPair (cInt .i64) cStr) (fun p=>AType.mk (p.1) (p.2)) (fun b=>(b.Kind,b.Name))
def cd_AField:Cod D AField:=cIso (cPair (cInt .i64) (cPair cStr (cPair (cInt .i64) (cPair (cInt .i64) (cPair cd_AType (cPair cStr (cPair cBool (cPair cd_AVal cd_LNote)))))))) (fun p=>AField.mk (p.1) (p.2.1) (p.2.2.1) (p.2.2.2.1) (p.2.2.2.2.1) (p.2.2.2.2.2.1) (p.2.2.2.2.2.2.1) (p.2.2.2.2.2.2.2.1) (p.2.2.2.2.2.2.2.2)) (fun b=>(b.Num,b.Name,b.Card,b.Key,b.Type_,b.Union,b.HasDefault,b.Default,b.Notes))
def cd_Message:Cod D Message:=cIso (cPair cStr (cPair cd_LAField (cPair cd_LSpan (cPair cd_Lstr cd_LNote)))) (fun p=>Message.mk (p.1) (p.2.1) (p.2.2.1) (p.2.2.2.1) (p.2.2.2.2)) (fun b=>(b.Name,b.Fields,b.Reserved,b.Gone,b.Notes))
def cd_AMethod:Cod D AMethod:=cIso (cPair cStr (cPair cStr (cPair cStr (cPair (cInt .i64) cd_LNote)))) (fun p=>AMethod.mk (p.1) (p.2.1) (p.2.2.1) (p.2.2.2.1) (p.2.2.2.2)) (fun b=>(b.Name,b.In,b.Out,b.Shape,b.Notes))
def cd_Service:Cod D Service:=cIso (cPair cStr (cPair cd_LAMethod cd_LNote)) (fun p=>Service.mk (p.1) (p.2.1) (p.2.2)) (fun b=>(b.Name,b.Methods,b.Notes))
def cd_Schema:Cod D Schema:=cIso (cPair cd_LMessage (cPair cd_LEnum cd_LService)) (fun p=>Schema.mk (p.1) (p.2.1) (p.2.2)) (fun b=>(b.Messages,b.Enums,b.Services))
def cd_Icept:Cod D Icept:=cIso (cPair (cInt .i64) (cPair cStr (cPair cStr (cPair (cInt .i64) (cInt .i64))))) (fun p=>Icept.mk (p.1) (p.2.1) (p.2.2.1) (p.2.2.2.1) (p.2.2.2.2)) (fun b=>(b.Kind,b.Key,b.Val,b.Num,b.Span))
def cd_Handler:Cod D Handler:=cIso (cPair cStr (cPair (cInt .i64) (cPair (cInt .i64) (cInt .i64)))) (fun p=>Handler.mk (p.1) (p.2.1) (p.2.2.1) (p.2.2.2)) (fun b=>(b.Method,b.Kind,b.Num,b.Cost))
def cd_law52_Setup:Cod D law52_Setup:=cIso (cPair cd_Schema (cPair cd_LHandler (cPair cd_LIcept (cInt .i64)))) (fun p=>law52_Setup.mk (p.1) (p.2.1) (p.2.2.1) (p.2.2.2)) (fun b=>(b.S,b.H,b.L,b.Most))
def cd_Trace:Cod D Trace:=cIso (cPair cStr cd_Li64) (fun p=>Trace.mk (p.1) (p.2)) (fun b=>(b.Method,b.Times))
def cd_Status:Cod D Status:=cIso (cPair (cInt .i64) cStr) (fun p=>Status.mk (p.1) (p.2)) (fun b=>(b.Code,b.Text))
def cd_Meta:Cod D AMeta:=cIso (cPair cStr cStr) (fun p=>AMeta.mk (p.1) (p.2)) (fun b=>(b.Key,b.Val))
def cd_Task:Cod D Task:=cIso (cPair (cInt .i64) (cPair (cInt .i64) (cPair cStr (cPair cd_LMeta (cPair (cInt .i64) (cPair cd_Lstr (cPair (cInt .i64) (cPair cd_Lstr (cPair cd_Status cBool))))))))) (fun p=>Task.mk (p.1) (p.2.1) (p.2.2.1) (p.2.2.2.1) (p.2.2.2.2.1) (p.2.2.2.2.2.1) (p.2.2.2.2.2.2.1) (p.2.2.2.2.2.2.2.1) (p.2.2.2.2.2.2.2.2.1) (p.2.2.2.2.2.2.2.2.2)) (fun b=>(b.Conn,b.Id,b.Method,b.Metas,b.Deadline,b.In,b.Ready,b.Answers,b.Status,b.Ended))
def cd_Server:Cod D Server:=cIso (cPair cStr (cPair cd_Schema (cPair cd_LHandler (cPair cd_LIcept (cPair cd_LTrace (cPair cd_LTask (cPair (cInt .i64) cBool))))))) (fun p=>Server.mk (p.1) (p.2.1) (p.2.2.1) (p.2.2.2.1) (p.2.2.2.2.1) (p.2.2.2.2.2.1) (p.2.2.2.2.2.2.1) (p.2.2.2.2.2.2.2)) (fun b=>(b.Name,b.Schema,b.Handlers,b.Icepts,b.Traces,b.Tasks,b.Most,b.Draining))
def cd_Problem:Cod D Problem:=cIso (cPair cStr (cPair (cInt .i64) (cInt .i64))) (fun p=>Problem.mk (p.1) (p.2.1) (p.2.2)) (fun b=>(b.Def,b.Num,b.Err))
def cd_check_finder:Cod D check_finder:=cIso (cPair cStr (cPair (cInt .i64) cd_LProblem)) (fun p=>check_finder.mk (p.1) (p.2.1) (p.2.2)) (fun b=>(b.def_,b.num,b.out))
def cd_intercept_token:Cod D intercept_token:=cIso (cPair cStr cStr) (fun p=>intercept_token.mk (p.1) (p.2)) (fun b=>(b.key,b.val))
def cd_intercept_stamp:Cod D intercept_stamp:=cIso (cPair cStr cStr) (fun p=>intercept_stamp.mk (p.1) (p.2)) (fun b=>(b.key,b.val))
def cd_intercept_size:Cod D intercept_size:=cIso (cInt .i64) (fun p=>intercept_size.mk p) (fun b=>(b.most))
def cd_intercept_limit:Cod D intercept_limit:=cIso (cPair (cInt .i64) (cInt .i64)) (fun p=>intercept_limit.mk (p.1) (p.2)) (fun b=>(b.most,b.span))
def cd_intercept_deadline:Cod D intercept_deadline:=cIso (cInt .i64) (fun p=>intercept_deadline.mk p) (fun b=>(b.span))
def cd_intercept_hide:Cod D intercept_hide:=cIso cUnit (fun _=>⟨⟩) (fun _=>())
def cd_ref12_list:Cod D ref12_list:=cIso (cPair cStr cd_LProblem) (fun p=>ref12_list.mk (p.1) (p.2)) (fun b=>(b.def_,b.l))
def cd_note_rule:Cod D note_rule:=cIso (cPair (cInt .i64) (cInt .i64)) (fun p=>note_rule.mk (p.1) (p.2)) (fun b=>(b.kind,b.targets))
def d_Raw:Raw:=Raw.mk 0 0 0 []
instance:Inhabited Raw:=⟨d_Raw⟩
def d_AVal:AVal:=AVal.mk 0 0 [] [] [] [] []
instance:Inhabited AVal:=⟨d_AVal⟩
def d_Slot:Slot:=Slot.mk 0 d_AVal
instance:Inhabited Slot:=⟨d_Slot⟩
def d_Pair:Pair:=Pair.mk d_AVal d_AVal
instance:Inhabited Pair:=⟨d_Pair⟩
def d_Note:Note:=Note.mk [] d_AVal
instance:Inhabited Note:=⟨d_Note⟩
def d_Span:Span:=Span.mk 0 0
instance:Inhabited Span:=⟨d_Span⟩
def d_Item:Item:=Item.mk [] 0 []
instance:Inhabited Item:=⟨d_Item⟩
def d_Enum:Enum:=Enum.mk [] false [] [] []
instance:Inhabited Enum:=⟨d_Enum⟩
def d_AType:AType:=AType.mk 0 []
instance:Inhabited AType:=⟨d_AType⟩
def d_AField:AField:=AField.mk 0 [] 0 0 d_AType [] false d_AVal []
instance:Inhabited AField:=⟨d_AField⟩
def d_Message:Message:=Message.mk [] [] [] [] []
instance:Inhabited Message:=⟨d_Message⟩
def d_AMethod:AMethod:=AMethod.mk [] [] [] 0 []
instance:Inhabited AMethod:=⟨d_AMethod⟩
def d_Service:Service:=Service.mk [] [] []
instance:Inhabited Service:=⟨d_Service⟩
def d_Schema:Schema:=Schema.mk [] [] []
instance:Inhabited Schema:=⟨d_Schema⟩
def d_Icept:Icept:=Icept.mk 0 [] [] 0 0
instance:Inhabited Icept:=⟨d_Icept⟩
def d_Handler:Handler:=Handler.mk [] 0 0 0
instance:Inhabited Handler:=⟨d_Handler⟩
def d_law52_Setup:law52_Setup:=law52_Setup.mk d_Schema [] [] 0
instance:Inhabited law52_Setup:=⟨d_law52_Setup⟩
def d_Trace:Trace:=Trace.mk [] []
instance:Inhabited Trace:=⟨d_Trace⟩
def d_Status:Status:=Status.mk 0 []
instance:Inhabited Status:=⟨d_Status⟩
def d_Meta:AMeta:=AMeta.mk [] []
instance:Inhabited AMeta:=⟨d_Meta⟩
def d_Task:Task:=Task.mk 0 0 [] [] 0 [] 0 [] d_Status false
instance:Inhabited Task:=⟨d_Task⟩
def d_Server:Server:=Server.mk [] d_Schema [] [] [] [] 0 false
instance:Inhabited Server:=⟨d_Server⟩
def d_Problem:Problem:=Problem.mk [] 0 0
instance:Inhabited Problem:=⟨d_Problem⟩
def d_check_finder:check_finder:=check_finder.mk [] 0 []
instance:Inhabited check_finder:=⟨d_check_finder⟩
def d_intercept_token:intercept_token:=intercept_token.mk [] []
instance:Inhabited intercept_token:=⟨d_intercept_token⟩
def d_intercept_stamp:intercept_stamp:=intercept_stamp.mk [] []
instance:Inhabited intercept_stamp:=⟨d_intercept_stamp⟩
def d_intercept_size:intercept_size:=intercept_size.mk 0
instance:Inhabited intercept_size:=⟨d_intercept_size⟩
def d_intercept_limit:intercept_limit:=intercept_limit.mk 0 0
instance:Inhabited intercept_limit:=⟨d_intercept_limit⟩
def d_intercept_deadline:intercept_deadline:=intercept_deadline.mk 0
instance:Inhabited intercept_deadline:=⟨d_intercept_deadline⟩
def d_intercept_hide:intercept_hide:=⟨⟩
instance:Inhabited intercept_hide:=⟨d_intercept_hide⟩
def d_ref12_list:ref12_list:=ref12_list.mk [] []
instance:Inhabited ref12_list:=⟨d_ref12_list⟩
def d_note_rule:note_rule:=note_rule.mk 0 0
instance:Inhabited note_rule:=⟨d_note_rule⟩
def el_Message:El D:=⟨Message,cd_Message,d_Message,D.Message,prj_Message⟩
def el_Enum:El D:=⟨Enum,cd_Enum,d_Enum,D.Enum,prj_Enum⟩
def el_Service:El D:=⟨Service,cd_Service,d_Service,D.Service,prj_Service⟩
def el_Handler:El D:=⟨Handler,cd_Handler,d_Handler,D.Handler,prj_Handler⟩
def el_Icept:El D:=⟨Icept,cd_Icept,d_Icept,D.Icept,prj_Icept⟩
def el_Trace:El D:=⟨Trace,cd_Trace,d_Trace,D.Trace,prj_Trace⟩
def el_Task:El D:=⟨Task,cd_Task,d_Task,D.Task,prj_Task⟩
def el_Note:El D:=⟨Note,cd_Note,d_Note,D.Note,prj_Note⟩
def el_AVal:El D:=⟨AVal,cd_AVal,d_AVal,D.AVal,prj_AVal⟩
def el_Pair:El D:=⟨Pair,cd_Pair,d_Pair,D.Pair,prj_Pair⟩
def el_Slot:El D:=⟨Slot,cd_Slot,d_Slot,D.Slot,prj_Slot⟩
def el_Raw:El D:=⟨Raw,cd_Raw,d_Raw,D.Raw,prj_Raw⟩
def el_AField:El D:=⟨AField,cd_AField,d_AField,D.AField,prj_AField⟩
def el_Span:El D:=⟨Span,cd_Span,d_Span,D.Span,prj_Span⟩
def el_str:El D:=⟨Str,cStr,[],D.str,prj_str⟩
def el_AMethod:El D:=⟨AMethod,cd_AMethod,d_AMethod,D.AMethod,prj_AMethod⟩
def el_Problem:El D:=⟨Problem,cd_Problem,d_Problem,D.Problem,prj_Problem⟩
def el_i64:El D:=⟨Int,(cInt .i64),0,D.i64,prj_i64⟩
def el_Meta:El D:=⟨AMeta,cd_Meta,d_Meta,D.AMeta,prj_Meta⟩
def el_Lstr:El D:=⟨List Str,cd_Lstr,[],D.Lstr,prj_Lstr⟩
def el_Item:El D:=⟨Item,cd_Item,d_Item,D.Item,prj_Item⟩
def el_bool:El D:=⟨Bool,cBool,false,D.bool,prj_bool⟩
def el_nomap:El D:=⟨Unit,cUnit,(),D.nomap,prj_nomap⟩
def view (d:D):Vw D:=
 match d with
 | .Message l=>⟨el_Message,l⟩
 | .Enum l=>⟨el_Enum,l⟩
 | .Service l=>⟨el_Service,l⟩
 | .Handler l=>⟨el_Handler,l⟩
 | .Icept l=>⟨el_Icept,l⟩
 | .Trace l=>⟨el_Trace,l⟩
 | .Task l=>⟨el_Task,l⟩
 | .Note l=>⟨el_Note,l⟩
 | .AVal l=>⟨el_AVal,l⟩
 | .Pair l=>⟨el_Pair,l⟩
 | .Slot l=>⟨el_Slot,l⟩
 | .Raw l=>⟨el_Raw,l⟩
 | .AField l=>⟨el_AField,l⟩
 | .Span l=>⟨el_Span,l⟩
 | .str l=>⟨el_str,l⟩
 | .AMethod l=>⟨el_AMethod,l⟩
 | .Problem l=>⟨el_Problem,l⟩
 | .i64 l=>⟨el_i64,l⟩
 | .AMeta l=>⟨el_Meta,l⟩
 | .Lstr l=>⟨el_Lstr,l⟩
 | .Item l=>⟨el_Item,l⟩
 | .bool l=>⟨el_bool,l⟩
 | .nomap l=>⟨el_nomap,l⟩
 | .Mstr_bool _=>⟨el_nomap,[]⟩
 | .Mstr_note_rule _=>⟨el_nomap,[]⟩
def kv_Mstr_bool:=(kvS false pvB false)
def kv_Mstr_note_rule:=(kvS true (pvIso (pvP (pvI .i64) (pvI .i64)) (fun p=>note_rule.mk (p.1) (p.2)) (fun b=>(b.kind,b.targets))) d_note_rule)
def mpO (d:D):Option (Mp D):=
 match d with
 | .Mstr_bool l=>some (mpOf kv_Mstr_bool D.Mstr_bool l)
 | .Mstr_note_rule l=>some (mpOf kv_Mstr_note_rule D.Mstr_note_rule l)
 | _=>none
def mnw:TypeId->Option D:=lk [(128,D.Mstr_bool []),(394,D.Mstr_note_rule [])]
def elTab:List (Nat×El D):=[(74,el_Message),(133,el_Enum),(77,el_Service),(45,el_Handler),(58,el_Icept),(97,el_Trace),(100,el_Task),(231,el_Note),(67,el_AVal),(307,el_Pair),(248,el_Slot),(255,el_Raw),(69,el_AField),(227,el_Span),(9,el_str),(49,el_AMethod),(188,el_Problem),(3,el_i64),(103,el_Meta),(72,el_Lstr),(197,el_Item),(4,el_bool)]
def elOf:TypeId->Option (El D):=lk elTab
def S:Sh D:=shOf view elOf (fun _=>none) (fun _ _=>none) mpO mnw
theorem prj_Mstr_bool_eq (d:D)(a:List (Str×Bool))(h:prj_Mstr_bool d=some a):d=D.Mstr_bool a:=by
 cases d<;>simp[prj_Mstr_bool]at h
 subst h
 rfl
instance cd_Mstr_bool_ok:CodOk S cd_Mstr_bool:=cMap_ok prj_Mstr_bool_eq
instance bM_Mstr_bool:BlkOk S (bMap D.Mstr_bool prj_Mstr_bool):=bMap_ok prj_Mstr_bool_eq
theorem prj_Mstr_note_rule_eq (d:D)(a:List (Str×note_rule))(h:prj_Mstr_note_rule d=some a):d=D.Mstr_note_rule a:=by
 cases d<;>simp[prj_Mstr_note_rule]at h
 subst h
 rfl
instance cd_Mstr_note_rule_ok:CodOk S cd_Mstr_note_rule:=cMap_ok prj_Mstr_note_rule_eq
instance bM_Mstr_note_rule:BlkOk S (bMap D.Mstr_note_rule prj_Mstr_note_rule):=bMap_ok prj_Mstr_note_rule_eq
theorem prj_nomap_eq (d:D)(a:List Unit)(h:prj_nomap d=some a):d=D.nomap a:=by
 cases d<;>simp[prj_nomap]at h
 subst h
 rfl
theorem prj_Message_eq (d:D)(a:List Message)(h:prj_Message d=some a):d=D.Message a:=by
 cases d<;>simp[prj_Message]at h
 subst h
 rfl
instance cd_LMessage_ok:CodOk S cd_LMessage:=cDat_ok prj_Message_eq rfl
instance bR_Message {e:TypeId}:BlkOk S (bRow e D.Message prj_Message):=bRow_ok prj_Message_eq
theorem prj_Enum_eq (d:D)(a:List Enum)(h:prj_Enum d=some a):d=D.Enum a:=by
 cases d<;>simp[prj_Enum]at h
 subst h
 rfl
instance cd_LEnum_ok:CodOk S cd_LEnum:=cDat_ok prj_Enum_eq rfl
instance bR_Enum {e:TypeId}:BlkOk S (bRow e D.Enum prj_Enum):=bRow_ok prj_Enum_eq
theorem prj_Service_eq (d:D)(a:List Service)(h:prj_Service d=some a):d=D.Service a:=by
 cases d<;>simp[prj_Service]at h
 subst h
 rfl
instance cd_LService_ok:CodOk S cd_LService:=cDat_ok prj_Service_eq rfl
instance bR_Service {e:TypeId}:BlkOk S (bRow e D.Service prj_Service):=bRow_ok prj_Service_eq
theorem prj_Handler_eq (d:D)(a:List Handler)(h:prj_Handler d=some a):d=D.Handler a:=by
 cases d<;>simp[prj_Handler]at h
 subst h
 rfl
instance cd_LHandler_ok:CodOk S cd_LHandler:=cDat_ok prj_Handler_eq rfl
instance bR_Handler {e:TypeId}:BlkOk S (bRow e D.Handler prj_Handler):=bRow_ok prj_Handler_eq
theorem prj_Icept_eq (d:D)(a:List Icept)(h:prj_Icept d=some a):d=D.Icept a:=by
 cases d<;>simp[prj_Icept]at h
 subst h
 rfl
instance cd_LIcept_ok:CodOk S cd_LIcept:=cDat_ok prj_Icept_eq rfl
instance bR_Icept {e:TypeId}:BlkOk S (bRow e D.Icept prj_Icept):=bRow_ok prj_Icept_eq
theorem prj_Trace_eq (d:D)(a:List Trace)(h:prj_Trace d=some a):d=D.Trace a:=by
 cases d<;>simp[prj_Trace]at h
 subst h
 rfl
instance cd_LTrace_ok:CodOk S cd_LTrace:=cDat_ok prj_Trace_eq rfl
instance bR_Trace {e:TypeId}:BlkOk S (bRow e D.Trace prj_Trace):=bRow_ok prj_Trace_eq
theorem prj_Task_eq (d:D)(a:List Task)(h:prj_Task d=some a):d=D.Task a:=by
 cases d<;>simp[prj_Task]at h
 subst h
 rfl
instance cd_LTask_ok:CodOk S cd_LTask:=cDat_ok prj_Task_eq rfl
instance bR_Task {e:TypeId}:BlkOk S (bRow e D.Task prj_Task):=bRow_ok prj_Task_eq
theorem prj_Note_eq (d:D)(a:List Note)(h:prj_Note d=some a):d=D.Note a:=by
 cases d<;>simp[prj_Note]at h
 subst h
 rfl
instance cd_LNote_ok:CodOk S cd_LNote:=cDat_ok prj_Note_eq rfl
instance bR_Note {e:TypeId}:BlkOk S (bRow e D.Note prj_Note):=bRow_ok prj_Note_eq
theorem prj_AVal_eq (d:D)(a:List AVal)(h:prj_AVal d=some a):d=D.AVal a:=by
 cases d<;>simp[prj_AVal]at h
 subst h
 rfl
instance cd_LAVal_ok:CodOk S cd_LAVal:=cDat_ok prj_AVal_eq rfl
instance bR_AVal {e:TypeId}:BlkOk S (bRow e D.AVal prj_AVal):=bRow_ok prj_AVal_eq
theorem prj_Pair_eq (d:D)(a:List Pair)(h:prj_Pair d=some a):d=D.Pair a:=by
 cases d<;>simp[prj_Pair]at h
 subst h
 rfl
instance cd_LPair_ok:CodOk S cd_LPair:=cDat_ok prj_Pair_eq rfl
instance bR_Pair {e:TypeId}:BlkOk S (bRow e D.Pair prj_Pair):=bRow_ok prj_Pair_eq
theorem prj_Slot_eq (d:D)(a:List Slot)(h:prj_Slot d=some a):d=D.Slot a:=by
 cases d<;>simp[prj_Slot]at h
 subst h
 rfl
instance cd_LSlot_ok:CodOk S cd_LSlot:=cDat_ok prj_Slot_eq rfl
instance bR_Slot {e:TypeId}:BlkOk S (bRow e D.Slot prj_Slot):=bRow_ok prj_Slot_eq
theorem prj_Raw_eq (d:D)(a:List Raw)(h:prj_Raw d=some a):d=D.Raw a:=by
 cases d<;>simp[prj_Raw]at h
 subst h
 rfl
instance cd_LRaw_ok:CodOk S cd_LRaw:=cDat_ok prj_Raw_eq rfl
instance bR_Raw {e:TypeId}:BlkOk S (bRow e D.Raw prj_Raw):=bRow_ok prj_Raw_eq
theorem prj_AField_eq (d:D)(a:List AField)(h:prj_AField d=some a):d=D.AField a:=by
 cases d<;>simp[prj_AField]at h
 subst h
 rfl
instance cd_LAField_ok:CodOk S cd_LAField:=cDat_ok prj_AField_eq rfl
instance bR_AField {e:TypeId}:BlkOk S (bRow e D.AField prj_AField):=bRow_ok prj_AField_eq
theorem prj_Span_eq (d:D)(a:List Span)(h:prj_Span d=some a):d=D.Span a:=by
 cases d<;>simp[prj_Span]at h
 subst h
 rfl
instance cd_LSpan_ok:CodOk S cd_LSpan:=cDat_ok prj_Span_eq rfl
instance bR_Span {e:TypeId}:BlkOk S (bRow e D.Span prj_Span):=bRow_ok prj_Span_eq
theorem prj_str_eq (d:D)(a:List Str)(h:prj_str d=some a):d=D.str a:=by
 cases d<;>simp[prj_str]at h
 subst h
 rfl
instance cd_Lstr_ok:CodOk S cd_Lstr:=cDat_ok prj_str_eq rfl
instance bR_str {e:TypeId}:BlkOk S (bRow e D.str prj_str):=bRow_ok prj_str_eq
theorem prj_AMethod_eq (d:D)(a:List AMethod)(h:prj_AMethod d=some a):d=D.AMethod a:=by
 cases d<;>simp[prj_AMethod]at h
 subst h
 rfl
instance cd_LAMethod_ok:CodOk S cd_LAMethod:=cDat_ok prj_AMethod_eq rfl
instance bR_AMethod {e:TypeId}:BlkOk S (bRow e D.AMethod prj_AMethod):=bRow_ok prj_AMethod_eq
theorem prj_Problem_eq (d:D)(a:List Problem)(h:prj_Problem d=some a):d=D.Problem a:=by
 cases d<;>simp[prj_Problem]at h
 subst h
 rfl
instance cd_LProblem_ok:CodOk S cd_LProblem:=cDat_ok prj_Problem_eq rfl
instance bR_Problem {e:TypeId}:BlkOk S (bRow e D.Problem prj_Problem):=bRow_ok prj_Problem_eq
theorem prj_i64_eq (d:D)(a:List Int)(h:prj_i64 d=some a):d=D.i64 a:=by
 cases d<;>simp[prj_i64]at h
 subst h
 rfl
instance cd_Li64_ok:CodOk S cd_Li64:=cDat_ok prj_i64_eq rfl
instance bR_i64 {e:TypeId}:BlkOk S (bRow e D.i64 prj_i64):=bRow_ok prj_i64_eq
theorem prj_Meta_eq (d:D)(a:List AMeta)(h:prj_Meta d=some a):d=D.AMeta a:=by
 cases d<;>simp[prj_Meta]at h
 subst h
 rfl
instance cd_LMeta_ok:CodOk S cd_LMeta:=cDat_ok prj_Meta_eq rfl
instance bR_Meta {e:TypeId}:BlkOk S (bRow e D.AMeta prj_Meta):=bRow_ok prj_Meta_eq
theorem prj_Lstr_eq (d:D)(a:List (List Str))(h:prj_Lstr d=some a):d=D.Lstr a:=by
 cases d<;>simp[prj_Lstr]at h
 subst h
 rfl
instance cd_LLstr_ok:CodOk S cd_LLstr:=cDat_ok prj_Lstr_eq rfl
instance bR_Lstr {e:TypeId}:BlkOk S (bRow e D.Lstr prj_Lstr):=bRow_ok prj_Lstr_eq
theorem prj_Item_eq (d:D)(a:List Item)(h:prj_Item d=some a):d=D.Item a:=by
 cases d<;>simp[prj_Item]at h
 subst h
 rfl
instance cd_LItem_ok:CodOk S cd_LItem:=cDat_ok prj_Item_eq rfl
instance bR_Item {e:TypeId}:BlkOk S (bRow e D.Item prj_Item):=bRow_ok prj_Item_eq
theorem prj_bool_eq (d:D)(a:List Bool)(h:prj_bool d=some a):d=D.bool a:=by
 cases d<;>simp[prj_bool]at h
 subst h
 rfl
instance cd_Lbool_ok:CodOk S cd_Lbool:=cDat_ok prj_bool_eq rfl
instance bR_bool {e:TypeId}:BlkOk S (bRow e D.bool prj_bool):=bRow_ok prj_bool_eq
instance cd_Raw_ok:CodOk S cd_Raw:=cIso_ok inferInstance fun _=>rfl
instance cd_AVal_ok:CodOk S cd_AVal:=cIso_ok inferInstance fun _=>rfl
instance cd_Slot_ok:CodOk S cd_Slot:=cIso_ok inferInstance fun _=>rfl
instance cd_Pair_ok:CodOk S cd_Pair:=cIso_ok inferInstance fun _=>rfl
instance cd_Note_ok:CodOk S cd_Note:=cIso_ok inferInstance fun _=>rfl
instance cd_Span_ok:CodOk S cd_Span:=cIso_ok inferInstance fun _=>rfl
instance cd_Item_ok:CodOk S cd_Item:=cIso_ok inferInstance fun _=>rfl
instance cd_Enum_ok:CodOk S cd_Enum:=cIso_ok inferInstance fun _=>rfl
instance cd_AType_ok:CodOk S cd_AType:=cIso_ok inferInstance fun _=>rfl
instance cd_AField_ok:CodOk S cd_AField:=cIso_ok inferInstance fun _=>rfl
instance cd_Message_ok:CodOk S cd_Message:=cIso_ok inferInstance fun _=>rfl
instance cd_AMethod_ok:CodOk S cd_AMethod:=cIso_ok inferInstance fun _=>rfl
instance cd_Service_ok:CodOk S cd_Service:=cIso_ok inferInstance fun _=>rfl
instance cd_Schema_ok:CodOk S cd_Schema:=cIso_ok inferInstance fun _=>rfl
instance cd_Icept_ok:CodOk S cd_Icept:=cIso_ok inferInstance fun _=>rfl
instance cd_Handler_ok:CodOk S cd_Handler:=cIso_ok inferInstance fun _=>rfl
instance cd_law52_Setup_ok:CodOk S cd_law52_Setup:=cIso_ok inferInstance fun _=>rfl
instance cd_Trace_ok:CodOk S cd_Trace:=cIso_ok inferInstance fun _=>rfl
instance cd_Status_ok:CodOk S cd_Status:=cIso_ok inferInstance fun _=>rfl
instance cd_Meta_ok:CodOk S cd_Meta:=cIso_ok inferInstance fun _=>rfl
instance cd_Task_ok:CodOk S cd_Task:=cIso_ok inferInstance fun _=>rfl
instance cd_Server_ok:CodOk S cd_Server:=cIso_ok inferInstance fun _=>rfl
instance cd_Problem_ok:CodOk S cd_Problem:=cIso_ok inferInstance fun _=>rfl
instance cd_check_finder_ok:CodOk S cd_check_finder:=cIso_ok inferInstance fun _=>rfl
instance cd_intercept_token_ok:CodOk S cd_intercept_token:=cIso_ok inferInstance fun _=>rfl
instance cd_intercept_stamp_ok:CodOk S cd_intercept_stamp:=cIso_ok inferInstance fun _=>rfl
instance cd_intercept_size_ok:CodOk S cd_intercept_size:=cIso_ok inferInstance fun _=>rfl
instance cd_intercept_limit_ok:CodOk S cd_intercept_limit:=cIso_ok inferInstance fun _=>rfl
instance cd_intercept_deadline_ok:CodOk S cd_intercept_deadline:=cIso_ok inferInstance fun _=>rfl
instance cd_intercept_hide_ok:CodOk S cd_intercept_hide:=cIso_ok inferInstance fun _=>rfl
instance cd_ref12_list_ok:CodOk S cd_ref12_list:=cIso_ok inferInstance fun _=>rfl
instance cd_note_rule_ok:CodOk S cd_note_rule:=cIso_ok inferInstance fun _=>rfl
theorem viewOk:ViewOk S view elOf:=by
 refine⟨fun e E h l=> ?_,fun d l=> ?_,fun d d2 l2 h=> ?_,fun d=> ?_⟩
 ·have:=lk_mem h
  simp only[elTab,List.mem_cons,Prod.mk.injEq,List.not_mem_nil,or_false]at this
  rcases this with⟨_,rfl⟩ | ⟨_,rfl⟩ | ⟨_,rfl⟩ | ⟨_,rfl⟩ | ⟨_,rfl⟩ | ⟨_,rfl⟩ | ⟨_,rfl⟩ | ⟨_,rfl⟩ | ⟨_,rfl⟩ | ⟨_,rfl⟩ | ⟨_,rfl⟩ | ⟨_,rfl⟩ | ⟨_,rfl⟩ | ⟨_,rfl⟩ | ⟨_,rfl⟩ | ⟨_,rfl⟩ | ⟨_,rfl⟩ | ⟨_,rfl⟩ | ⟨_,rfl⟩ | ⟨_,rfl⟩ | ⟨_,rfl⟩ | ⟨_,rfl⟩<;>rfl
 ·cases d<;>rfl
 ·cases d
  ·rw[prj_Message_eq d2 l2 h];rfl
  ·rw[prj_Enum_eq d2 l2 h];rfl
  ·rw[prj_Service_eq d2 l2 h];rfl
  ·rw[prj_Handler_eq d2 l2 h];rfl
  ·rw[prj_Icept_eq d2 l2 h];rfl
  ·rw[prj_Trace_eq d2 l2 h];rfl
  ·rw[prj_Task_eq d2 l2 h];rfl
  ·rw[prj_Note_eq d2 l2 h];rfl
  ·rw[prj_AVal_eq d2 l2 h];rfl
  ·rw[prj_Pair_eq d2 l2 h];rfl
  ·rw[prj_Slot_eq d2 l2 h];rfl
  ·rw[prj_Raw_eq d2 l2 h];rfl
  ·rw[prj_AField_eq d2 l2 h];rfl
  ·rw[prj_Span_eq d2 l2 h];rfl
  ·rw[prj_str_eq d2 l2 h];rfl
  ·rw[prj_AMethod_eq d2 l2 h];rfl
  ·rw[prj_Problem_eq d2 l2 h];rfl
  ·rw[prj_i64_eq d2 l2 h];rfl
  ·rw[prj_Meta_eq d2 l2 h];rfl
  ·rw[prj_Lstr_eq d2 l2 h];rfl
  ·rw[prj_Item_eq d2 l2 h];rfl
  ·rw[prj_bool_eq d2 l2 h];rfl
  ·rw[prj_nomap_eq d2 l2 h];rfl
  ·rw[prj_nomap_eq d2 l2 h];rfl
  ·rw[prj_nomap_eq d2 l2 h];rfl
 ·cases d
  ·exact cd_Message_ok
  ·exact cd_Enum_ok
  ·exact cd_Service_ok
  ·exact cd_Handler_ok
  ·exact cd_Icept_ok
  ·exact cd_Trace_ok
  ·exact cd_Task_ok
  ·exact cd_Note_ok
  ·exact cd_AVal_ok
  ·exact cd_Pair_ok
  ·exact cd_Slot_ok
  ·exact cd_Raw_ok
  ·exact cd_AField_ok
  ·exact cd_Span_ok
  ·exact cStr_ok
  ·exact cd_AMethod_ok
  ·exact cd_Problem_ok
  ·exact(cInt_ok _)
  ·exact cd_Meta_ok
  ·exact cd_Lstr_ok
  ·exact cd_Item_ok
  ·exact cBool_ok
  ·exact cUnit_ok
  ·exact cUnit_ok
  ·exact cUnit_ok
theorem mapsOk:MapsOk S view elOf S.glob S.text mpO mnw where
 inj:=fun d l=>by cases d<;>rfl
 el:=fun e E h l=>by
  have:=lk_mem h
  simp only[elTab,List.mem_cons,Prod.mk.injEq,List.not_mem_nil,or_false]at this
  rcases this with⟨_,rfl⟩ | ⟨_,rfl⟩ | ⟨_,rfl⟩ | ⟨_,rfl⟩ | ⟨_,rfl⟩ | ⟨_,rfl⟩ | ⟨_,rfl⟩ | ⟨_,rfl⟩ | ⟨_,rfl⟩ | ⟨_,rfl⟩ | ⟨_,rfl⟩ | ⟨_,rfl⟩ | ⟨_,rfl⟩ | ⟨_,rfl⟩ | ⟨_,rfl⟩ | ⟨_,rfl⟩ | ⟨_,rfl⟩ | ⟨_,rfl⟩ | ⟨_,rfl⟩ | ⟨_,rfl⟩ | ⟨_,rfl⟩ | ⟨_,rfl⟩<;>rfl
 txt:=fun e s d h=>by
  exact nomatch h
 glob:=fun i d h=>by
  exact nomatch h
 size:=fun d m h=>by
  cases d<;>first
   | (cases h;done)
   | (have h2:=Option.some.inj h;subst h2;exact⟨rfl,rfl,mpOf_ok (kvS_ok pvB_ok) (fun _=>rfl) _⟩)
   | (have h2:=Option.some.inj h;subst h2;exact⟨rfl,rfl,mpOf_ok (kvS_ok (pvIso_ok (pvP_ok (hc:=(pvI_ok .i64)) (hd:=(pvI_ok .i64))) (fun _=>rfl))) (fun _=>rfl) _⟩)
 new:=fun t d h=>by
  have:=lk_mem h
  simp only[List.mem_cons,Prod.mk.injEq,List.not_mem_nil,or_false]at this
  rcases this with⟨_,rfl⟩ | ⟨_,rfl⟩<;>exact⟨_,rfl,rfl⟩
theorem S_ok:ShOk S:=shOfM_ok viewOk (fun _ _ _ h=>nomatch h) mapsOk
def tys:List (Nat×Ty):=
 [(3,⟨23,false,1,8,[.int .i64 0],[],none,[],false,none,false,none⟩),
  (4,⟨1,false,1,1,[.bool false],[],none,[],false,none,false,none⟩),
  (5,⟨24,false,1,1,[.int .u8 0],[],none,[],false,none,false,none⟩),
  (9,⟨3,false,1,16,[.string ⟨#[]⟩],[],none,[],false,none,false,none⟩),
  (20,⟨0,false,1,16,[.nilIface],[],none,[],false,none,false,none⟩),
  (21,⟨22,false,1,4,[.int .i32 0],[],none,[],false,none,false,none⟩),
  (22,⟨4,false,1,24,[.slice none 0 0],[],some 74,[],false,none,false,none⟩),
  (23,⟨4,false,1,24,[.slice none 0 0],[],some 133,[],false,none,false,none⟩),
  (24,⟨4,false,1,24,[.slice none 0 0],[],some 77,[],false,none,false,none⟩),
  (26,⟨5,true,3,72,[.slice none 0 0, .slice none 0 0, .slice none 0 0],[(0,1,false),(1,1,false),(2,1,false)],none,[],false,none,true,none⟩),
  (27,⟨4,false,1,24,[.slice none 0 0],[],some 45,[],false,none,false,none⟩),
  (28,⟨4,false,1,24,[.slice none 0 0],[],some 58,[],false,none,false,none⟩),
  (30,⟨5,true,6,128,[.slice none 0 0, .slice none 0 0, .slice none 0 0, .slice none 0 0, .slice none 0 0, .int .i64 0],[(0,3,true),(3,1,false),(4,1,false),(5,1,false)],none,[],false,none,true,none⟩),
  (32,⟨4,false,1,24,[.slice none 0 0],[],some 97,[],true,none,false,none⟩),
  (33,⟨4,false,1,24,[.slice none 0 0],[],some 100,[],false,none,false,none⟩),
  (35,⟨5,true,10,200,[.string ⟨#[]⟩, .slice none 0 0, .slice none 0 0, .slice none 0 0, .slice none 0 0, .slice none 0 0, .slice none 0 0, .slice none 0 0, .int .i64 0, .bool false],[(0,1,false),(1,3,true),(4,1,false),(5,1,false),(6,1,false),(7,1,false),(8,1,false),(9,1,false)],none,[],false,none,true,none⟩),
  (36,⟨23,false,1,8,[.int .i64 0],[],none,[],false,none,false,none⟩),
  (42,⟨7,false,1,8,[.nilFunc],[],none,[],false,none,false,none⟩),
  (45,⟨5,true,4,40,[.string ⟨#[]⟩, .int .i64 0, .int .i64 0, .int .i64 0],[(0,1,false),(1,1,false),(2,1,false),(3,1,false)],none,[3,2,2,2],false,none,true,none⟩),
  (47,⟨4,false,1,24,[.slice none 0 0],[],some 231,[],false,none,false,none⟩),
  (49,⟨5,true,5,80,[.string ⟨#[]⟩, .string ⟨#[]⟩, .string ⟨#[]⟩, .int .i64 0, .slice none 0 0],[(0,1,false),(1,1,false),(2,1,false),(3,1,false),(4,1,false)],none,[],false,none,true,none⟩),
  (58,⟨5,true,5,56,[.int .i64 0, .string ⟨#[]⟩, .string ⟨#[]⟩, .int .i64 0, .int .i64 0],[(0,1,false),(1,1,false),(2,1,false),(3,1,false),(4,1,false)],none,[2,3,3,2,2],false,none,true,none⟩),
  (60,⟨5,true,2,24,[.int .i64 0, .string ⟨#[]⟩],[(0,1,false),(1,1,false)],none,[2,3],false,none,true,none⟩),
  (61,⟨27,false,1,8,[.int .u64 0],[],none,[],false,none,false,none⟩),
  (62,⟨4,false,1,24,[.slice none 0 0],[],some 67,[],false,none,false,none⟩),
  (63,⟨4,false,1,24,[.slice none 0 0],[],some 307,[],false,none,false,none⟩),
  (64,⟨4,false,1,24,[.slice none 0 0],[],some 248,[],false,none,false,none⟩),
  (65,⟨4,false,1,24,[.slice none 0 0],[],some 255,[],false,none,false,none⟩),
  (67,⟨5,true,7,128,[.int .i64 0, .int .u64 0, .string ⟨#[]⟩, .slice none 0 0, .slice none 0 0, .slice none 0 0, .slice none 0 0],[(0,1,false),(1,1,false),(2,1,false),(3,1,false),(4,1,false),(5,1,false),(6,1,false)],none,[],false,none,true,none⟩),
  (69,⟨5,true,16,240,[.int .i64 0, .string ⟨#[]⟩, .int .i64 0, .int .i64 0, .int .i64 0, .string ⟨#[]⟩, .string ⟨#[]⟩, .bool false, .int .i64 0, .int .u64 0, .string ⟨#[]⟩, .slice none 0 0, .slice none 0 0, .slice none 0 0, .slice none 0 0, .slice none 0 0],[(0,1,false),(1,1,false),(2,1,false),(3,1,false),(4,2,true),(6,1,false),(7,1,false),(8,7,true),(15,1,false)],none,[],false,none,true,none⟩),
  (70,⟨4,false,1,24,[.slice none 0 0],[],some 69,[],false,none,false,none⟩),
  (71,⟨4,false,1,24,[.slice none 0 0],[],some 227,[],false,none,false,none⟩),
  (72,⟨4,false,1,24,[.slice none 0 0],[],some 9,[],false,none,false,none⟩),
  (74,⟨5,true,5,112,[.string ⟨#[]⟩, .slice none 0 0, .slice none 0 0, .slice none 0 0, .slice none 0 0],[(0,1,false),(1,1,false),(2,1,false),(3,1,false),(4,1,false)],none,[],false,none,true,none⟩),
  (75,⟨4,false,1,24,[.slice none 0 0],[],some 49,[],false,none,false,none⟩),
  (77,⟨5,true,3,64,[.string ⟨#[]⟩, .slice none 0 0, .slice none 0 0],[(0,1,false),(1,1,false),(2,1,false)],none,[],false,none,true,none⟩),
  (79,⟨5,true,2,24,[.int .i64 0, .string ⟨#[]⟩],[(0,1,false),(1,1,false)],none,[2,3],false,none,true,none⟩),
  (83,⟨4,false,1,24,[.slice none 0 0],[],some 188,[],false,none,false,none⟩),
  (95,⟨4,false,1,24,[.slice none 0 0],[],some 3,[],false,none,false,none⟩),
  (97,⟨5,true,2,40,[.string ⟨#[]⟩, .slice none 0 0],[(0,1,false),(1,1,false)],none,[],false,none,true,none⟩),
  (98,⟨4,false,1,24,[.slice none 0 0],[],some 103,[],true,none,false,none⟩),
  (100,⟨5,true,11,152,[.int .i64 0, .int .i64 0, .string ⟨#[]⟩, .slice none 0 0, .int .i64 0, .slice none 0 0, .int .i64 0, .slice none 0 0, .int .i64 0, .string ⟨#[]⟩, .bool false],[(0,1,false),(1,1,false),(2,1,false),(3,1,false),(4,1,false),(5,1,false),(6,1,false),(7,1,false),(8,2,true),(10,1,false)],none,[],false,none,true,none⟩),
  (103,⟨5,true,2,32,[.string ⟨#[]⟩, .string ⟨#[]⟩],[(0,1,false),(1,1,false)],none,[3,3],false,none,true,none⟩),
  (120,⟨6,false,1,8,[.pointer none],[],none,[],false,none,false,some (122,122)⟩),
  (122,⟨5,true,3,48,[.string ⟨#[]⟩, .int .i64 0, .slice none 0 0],[(0,1,false),(1,1,false),(2,1,false)],none,[],false,none,true,none⟩),
  (123,⟨0,true,3,72,[.slice none 0 0, .slice none 0 0, .slice none 0 0],[],none,[],true,some (72,3),true,none⟩),
  (128,⟨0,false,1,8,[.map none],[],none,[],false,none,false,some (9,4)⟩),
  (131,⟨4,false,1,24,[.slice none 0 0],[],some 197,[],false,none,false,none⟩),
  (133,⟨5,true,5,96,[.string ⟨#[]⟩, .bool false, .slice none 0 0, .slice none 0 0, .slice none 0 0],[(0,1,false),(1,1,false),(2,1,false),(3,1,false),(4,1,false)],none,[],false,none,true,none⟩),
  (141,⟨7,false,1,8,[.nilFunc],[],none,[],false,none,false,none⟩),
  (144,⟨5,true,2,32,[.string ⟨#[]⟩, .string ⟨#[]⟩],[(0,1,false),(1,1,false)],none,[3,3],false,none,true,none⟩),
  (145,⟨5,true,2,32,[.string ⟨#[]⟩, .string ⟨#[]⟩],[(0,1,false),(1,1,false)],none,[3,3],false,none,true,none⟩),
  (148,⟨5,true,1,8,[.int .i64 0],[(0,1,false)],none,[2],false,none,true,none⟩),
  (151,⟨5,true,2,16,[.int .i64 0, .int .i64 0],[(0,1,false),(1,1,false)],none,[2,2],false,none,true,none⟩),
  (153,⟨5,true,1,8,[.int .i64 0],[(0,1,false)],none,[2],false,none,true,none⟩),
  (155,⟨5,true,0,0,[],[],none,[],false,none,true,none⟩),
  (160,⟨5,true,2,40,[.string ⟨#[]⟩, .slice none 0 0],[(0,1,false),(1,1,false)],none,[],false,none,true,none⟩),
  (163,⟨4,false,1,24,[.slice none 0 0],[],some 4,[],false,none,false,none⟩),
  (188,⟨5,true,3,32,[.string ⟨#[]⟩, .int .i64 0, .int .i64 0],[(0,1,false),(1,1,false),(2,1,false)],none,[3,2,2],false,none,true,none⟩),
  (197,⟨5,true,3,48,[.string ⟨#[]⟩, .int .i64 0, .slice none 0 0],[(0,1,false),(1,1,false),(2,1,false)],none,[],false,none,true,none⟩),
  (199,⟨7,false,1,8,[.nilFunc],[],none,[],false,none,false,none⟩),
  (204,⟨7,false,1,8,[.nilFunc],[],none,[],false,none,false,none⟩),
  (208,⟨7,false,1,8,[.nilFunc],[],none,[],false,none,false,none⟩),
  (210,⟨7,false,1,8,[.nilFunc],[],none,[],false,none,false,none⟩),
  (211,⟨6,false,1,8,[.pointer none],[],none,[],false,none,false,some (160,160)⟩),
  (227,⟨5,true,2,16,[.int .i64 0, .int .i64 0],[(0,1,false),(1,1,false)],none,[2,2],false,none,true,none⟩),
  (231,⟨5,true,8,144,[.string ⟨#[]⟩, .int .i64 0, .int .u64 0, .string ⟨#[]⟩, .slice none 0 0, .slice none 0 0, .slice none 0 0, .slice none 0 0],[(0,1,false),(1,7,true)],none,[],false,none,true,none⟩),
  (248,⟨5,true,8,136,[.int .i64 0, .int .i64 0, .int .u64 0, .string ⟨#[]⟩, .slice none 0 0, .slice none 0 0, .slice none 0 0, .slice none 0 0],[(0,1,false),(1,7,true)],none,[],false,none,true,none⟩),
  (255,⟨5,true,4,40,[.int .i64 0, .int .i64 0, .int .u64 0, .string ⟨#[]⟩],[(0,1,false),(1,1,false),(2,1,false),(3,1,false)],none,[2,2,2,3],false,none,true,none⟩),
  (261,⟨7,false,1,8,[.nilFunc],[],none,[],false,none,false,none⟩),
  (265,⟨7,false,1,8,[.nilFunc],[],none,[],false,none,false,none⟩),
  (267,⟨7,false,1,8,[.nilFunc],[],none,[],false,none,false,none⟩),
  (274,⟨0,true,256,256,[.bool false, .bool false, .bool false, .bool false, .bool false, .bool false, .bool false, .bool false, .bool false, .bool false, .bool false, .bool false, .bool false, .bool false, .bool false, .bool false, .bool false, .bool false, .bool false, .bool false, .bool false, .bool false, .bool false, .bool false, .bool false, .bool false, .bool false, .bool false, .bool false, .bool false, .bool false, .bool false, .bool false, .bool false, .bool false, .bool false, .bool false, .bool false, .bool false, .bool false, .bool false, .bool false, .bool false, .bool false, .bool false, .bool false, .bool false, .bool false, .bool false, .bool false, .bool false, .bool false, .bool false, .bool false, .bool false, .bool false, .bool false, .bool false, .bool false, .bool false, .bool false, .bool false, .bool false, .bool false, .bool false, .bool false, .bool false, .bool false, .bool false, .bool false, .bool false, .bool false, .bool false, .bool false, .bool false, .bool false, .bool false, .bool false, .bool false, .bool false, .bool false, .bool false, .bool false, .bool false, .bool false, .bool false, .bool false, .bool false, .bool false, .bool false, .bool false, .bool false, .bool false, .bool false, .bool false, .bool false, .bool false, .bool false, .bool false, .bool false, .bool false, .bool false, .bool false, .bool false, .bool false, .bool false, .bool false, .bool false, .bool false, .bool false, .bool false, .bool false, .bool false, .bool false, .bool false, .bool false, .bool false, .bool false, .bool false, .bool false, .bool false, .bool false, .bool false, .bool false, .bool false, .bool false, .bool false, .bool false, .bool false, .bool false, .bool false, .bool false, .bool false, .bool false, .bool false, .bool false, .bool false, .bool false, .bool false, .bool false, .bool false, .bool false, .bool false, .bool false, .bool false, .bool false, .bool false, .bool false, .bool false, .bool false, .bool false, .bool false, .bool false, .bool false, .bool false, .bool false, .bool false, .bool false, .bool false, .bool false, .bool false, .bool false, .bool false, .bool false, .bool false, .bool false, .bool false, .bool false, .bool false, .bool false, .bool false, .bool false, .bool false, .bool false, .bool false, .bool false, .bool false, .bool false, .bool false, .bool false, .bool false, .bool false, .bool false, .bool false, .bool false, .bool false, .bool false, .bool false, .bool false, .bool false, .bool false, .bool false, .bool false, .bool false, .bool false, .bool false, .bool false, .bool false, .bool false, .bool false, .bool false, .bool false, .bool false, .bool false, .bool false, .bool false, .bool false, .bool false, .bool false, .bool false, .bool false, .bool false, .bool false, .bool false, .bool false, .bool false, .bool false, .bool false, .bool false, .bool false, .bool false, .bool false, .bool false, .bool false, .bool false, .bool false, .bool false, .bool false, .bool false, .bool false, .bool false, .bool false, .bool false, .bool false, .bool false, .bool false, .bool false, .bool false, .bool false, .bool false, .bool false, .bool false, .bool false, .bool false, .bool false, .bool false, .bool false, .bool false, .bool false, .bool false, .bool false, .bool false, .bool false, .bool false, .bool false, .bool false],[],none,[1,1,1,1,1,1,1,1,1,1,1,1,1,1,1,1,1,1,1,1,1,1,1,1,1,1,1,1,1,1,1,1,1,1,1,1,1,1,1,1,1,1,1,1,1,1,1,1,1,1,1,1,1,1,1,1,1,1,1,1,1,1,1,1,1,1,1,1,1,1,1,1,1,1,1,1,1,1,1,1,1,1,1,1,1,1,1,1,1,1,1,1,1,1,1,1,1,1,1,1,1,1,1,1,1,1,1,1,1,1,1,1,1,1,1,1,1,1,1,1,1,1,1,1,1,1,1,1,1,1,1,1,1,1,1,1,1,1,1,1,1,1,1,1,1,1,1,1,1,1,1,1,1,1,1,1,1,1,1,1,1,1,1,1,1,1,1,1,1,1,1,1,1,1,1,1,1,1,1,1,1,1,1,1,1,1,1,1,1,1,1,1,1,1,1,1,1,1,1,1,1,1,1,1,1,1,1,1,1,1,1,1,1,1,1,1,1,1,1,1,1,1,1,1,1,1,1,1,1,1,1,1,1,1,1,1,1,1,1,1,1,1,1,1,1,1,1,1,1,1,1,1,1,1,1,1],false,some (4,256),true,none⟩),
  (278,⟨6,false,1,8,[.pointer none],[],none,[],false,none,false,some (274,274)⟩),
  (287,⟨7,false,1,8,[.nilFunc],[],none,[],false,none,false,none⟩),
  (307,⟨5,true,14,256,[.int .i64 0, .int .u64 0, .string ⟨#[]⟩, .slice none 0 0, .slice none 0 0, .slice none 0 0, .slice none 0 0, .int .i64 0, .int .u64 0, .string ⟨#[]⟩, .slice none 0 0, .slice none 0 0, .slice none 0 0, .slice none 0 0],[(0,7,true),(7,7,true)],none,[],false,none,true,none⟩),
  (392,⟨5,true,2,16,[.int .i64 0, .int .i64 0],[(0,1,false),(1,1,false)],none,[2,2],false,none,true,none⟩),
  (394,⟨0,false,1,8,[.map none],[],none,[],false,none,false,some (9,392)⟩)]
def T:TypeId->Option Ty:=lk tys
theorem T_ok:∀t ty,T t=some ty->TyOk Tryz.prog t ty:=by
 intro t ty h
 have:=lk_mem h
 simp only[tys,List.mem_cons,Prod.mk.injEq,List.not_mem_nil,or_false]at this
 rcases this with⟨rfl,rfl⟩ | ⟨rfl,rfl⟩ | ⟨rfl,rfl⟩ | ⟨rfl,rfl⟩ | ⟨rfl,rfl⟩ | ⟨rfl,rfl⟩ | ⟨rfl,rfl⟩ | ⟨rfl,rfl⟩ | ⟨rfl,rfl⟩ | ⟨rfl,rfl⟩ | ⟨rfl,rfl⟩ | ⟨rfl,rfl⟩ | ⟨rfl,rfl⟩ | ⟨rfl,rfl⟩ | ⟨rfl,rfl⟩ | ⟨rfl,rfl⟩ | ⟨rfl,rfl⟩ | ⟨rfl,rfl⟩ | ⟨rfl,rfl⟩ | ⟨rfl,rfl⟩ | ⟨rfl,rfl⟩ | ⟨rfl,rfl⟩ | ⟨rfl,rfl⟩ | ⟨rfl,rfl⟩ | ⟨rfl,rfl⟩ | ⟨rfl,rfl⟩ | ⟨rfl,rfl⟩ | ⟨rfl,rfl⟩ | ⟨rfl,rfl⟩ | ⟨rfl,rfl⟩ | ⟨rfl,rfl⟩ | ⟨rfl,rfl⟩ | ⟨rfl,rfl⟩ | ⟨rfl,rfl⟩ | ⟨rfl,rfl⟩ | ⟨rfl,rfl⟩ | ⟨rfl,rfl⟩ | ⟨rfl,rfl⟩ | ⟨rfl,rfl⟩ | ⟨rfl,rfl⟩ | ⟨rfl,rfl⟩ | ⟨rfl,rfl⟩ | ⟨rfl,rfl⟩ | ⟨rfl,rfl⟩ | ⟨rfl,rfl⟩ | ⟨rfl,rfl⟩ | ⟨rfl,rfl⟩ | ⟨rfl,rfl⟩ | ⟨rfl,rfl⟩ | ⟨rfl,rfl⟩ | ⟨rfl,rfl⟩ | ⟨rfl,rfl⟩ | ⟨rfl,rfl⟩ | ⟨rfl,rfl⟩ | ⟨rfl,rfl⟩ | ⟨rfl,rfl⟩ | ⟨rfl,rfl⟩ | ⟨rfl,rfl⟩ | ⟨rfl,rfl⟩ | ⟨rfl,rfl⟩ | ⟨rfl,rfl⟩ | ⟨rfl,rfl⟩ | ⟨rfl,rfl⟩ | ⟨rfl,rfl⟩ | ⟨rfl,rfl⟩ | ⟨rfl,rfl⟩ | ⟨rfl,rfl⟩ | ⟨rfl,rfl⟩ | ⟨rfl,rfl⟩ | ⟨rfl,rfl⟩ | ⟨rfl,rfl⟩ | ⟨rfl,rfl⟩ | ⟨rfl,rfl⟩ | ⟨rfl,rfl⟩ | ⟨rfl,rfl⟩ | ⟨rfl,rfl⟩ | ⟨rfl,rfl⟩ | ⟨rfl,rfl⟩<;>(clear h;show _=_;kernel_rfl)
theorem mixed:Tryz.prog.follows .mixedOrders=true:=by kernel_rfl
@[reducible] noncomputable def Z:Seat D:=⟨Tryz.prog,S,T,mixed,T_ok,S_ok⟩
end Go.Proofs.YtiibcbmenoaigaaGreatDoor
