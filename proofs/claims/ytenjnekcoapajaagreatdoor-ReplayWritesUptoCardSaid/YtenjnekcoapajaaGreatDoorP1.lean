/- Server: the data. -/
import Derived.Test.YtenjnekcoapajaaGreatDoorProg
import Derived.Test.YtenjnekcoapajaaGreatDoorEng14
import Derived.Lib.Strings
import Derived.Lib.Slices
import Derived.Lib.Walk
import Derived.Lib.Bytealg
import Derived.Lib.Builder
import Derived.Test.YtenjnekcoapajaaGreatDoorEng17
namespace Go.Proofs.YtenjnekcoapajaaGreatDoor
noncomputable section
open Go.RowKit Go.Vc
open Tryz
set_option linter.unusedVariables false
set_option linter.unusedSimpArgs false
set_option maxRecDepth 100000
set_option maxHeartbeats 4000000
structure Raw where
 Num:Int
 fB:Int
 Bits:Int
 Data:Str
deriving DecidableEq
mutual
inductive ae where
 | mk (Kind_:Int) (am5:Int) (am7:Str) (am6:_root_.List ae) (akm:_root_.List Pair) (ac5:_root_.List Slot) (aH8:_root_.List Raw)
inductive Slot where
 | mk (aJP:Int) (aJj:ae)
inductive Pair where
 | mk (aJO:ae) (aJj:ae)
end
def ae.Kind (x:ae):Int:=
 match x with
 | .mk a _ _ _ _ _ _=>a
def ae.Bits (x:ae):Int:=
 match x with
 | .mk _ a _ _ _ _ _=>a
def ae.Text (x:ae):Str:=
 match x with
 | .mk _ _ a _ _ _ _=>a
def ae.List (x:ae):_root_.List ae:=
 match x with
 | .mk _ _ _ a _ _ _=>a
def ae.Pairs (x:ae):_root_.List Pair:=
 match x with
 | .mk _ _ _ _ a _ _=>a
def ae.Slots (x:ae):_root_.List Slot:=
 match x with
 | .mk _ _ _ _ _ a _=>a
def ae.Raws (x:ae):_root_.List Raw:=
 match x with
 | .mk _ _ _ _ _ _ a=>a
def ae.re (x:ae):ae:=ae.mk x.Kind x.Bits x.Text x.List x.Pairs x.Slots x.Raws
@[simp] theorem ae.bJ (x:ae):ae.re x=x:=by cases x;rfl
theorem ae.eta (x:ae):ae.mk x.Kind x.Bits x.Text x.List x.Pairs x.Slots x.Raws=x:=by cases x;rfl
def Slot.Num (x:Slot):Int:=
 match x with
 | .mk a _=>a
def Slot.Val (x:Slot):ae:=
 match x with
 | .mk _ a=>a
def Slot.re (x:Slot):Slot:=Slot.mk x.Num x.Val
@[simp] theorem Slot.bJ (x:Slot):Slot.re x=x:=by cases x;rfl
theorem Slot.eta (x:Slot):Slot.mk x.Num x.Val=x:=by cases x;rfl
def Pair.Key (x:Pair):ae:=
 match x with
 | .mk a _=>a
def Pair.Val (x:Pair):ae:=
 match x with
 | .mk _ a=>a
def Pair.re (x:Pair):Pair:=Pair.mk x.Key x.Val
@[simp] theorem Pair.bJ (x:Pair):Pair.re x=x:=by cases x;rfl
theorem Pair.eta (x:Pair):Pair.mk x.Key x.Val=x:=by cases x;rfl
structure Note where
 Name:Str
 Val:ae
structure Item where
 Name:Str
 Num:Int
 Notes:_root_.List Note
structure ny where
 From:Int
 To:Int
deriving DecidableEq
structure eu where
 Name:Str
 Open:Bool
 Items:_root_.List Item
 Reserved:_root_.List ny
 Notes:_root_.List Note
structure dh where
 Name:Str
 In:Str
 Out:Str
 Shape:Int
 Notes:_root_.List Note
structure bz where
 Name:Str
 Methods:_root_.List dh
 Notes:_root_.List Note
structure zl where
 Kind:Int
 Name:Str
deriving DecidableEq
structure aN where
 Num:Int
 Name:Str
 Card:Int
 Key:Int
 bV:zl
 Union:Str
 dD:Bool
 Default:ae
 Notes:_root_.List Note
structure aG where
 Name:Str
 Fields:_root_.List aN
 Reserved:_root_.List ny
 Gone:_root_.List Str
 Notes:_root_.List Note
structure ax where
 Messages:_root_.List aG
 Enums:_root_.List eu
 bK:_root_.List bz
structure Status where
 Code:Int
 Text:Str
deriving DecidableEq
structure Tape where
 Method:Str
 In:_root_.List Str
 Out:_root_.List Str
 Status:Status
deriving DecidableEq
structure Frame where
 Kind:Int
 Stream:Int
 Num:Int
 Data:Str
deriving DecidableEq
structure Op where
 Num:Int
 Name:Str
 Alias:Str
 Card:Int
 Key:Int
 Kind:Int
 Target:Int
 Union:Int
deriving DecidableEq
structure aX where
 Name:Str
 Ops:_root_.List Op
 Xj:Int
deriving DecidableEq
structure aC where
 Progs:_root_.List aX
 Enums:_root_.List eu
structure sH where
 Key:Str
 Val:Str
deriving DecidableEq
structure Head where
 bz:Str
 Method:Str
 oD:Int
 jO:_root_.List sH
deriving DecidableEq
structure jf where
 Bytes:Int
 Depth:Int
 Nodes:Int
 Text:Int
deriving DecidableEq
structure a_ where
 s:Str
 errno:Int
deriving DecidableEq
structure dw where
 Def:Str
 Num:Int
 Err:Int
deriving DecidableEq
structure az where
 oZ:Str
 l:_root_.List dw
deriving DecidableEq
structure ak where
 oZ:Str
 num:Int
 out:_root_.List dw
deriving DecidableEq
structure ai where
 Data:Str
 At:Int
 End:Int
 Depth:Int
 Nodes:Int
 Text:Int
deriving DecidableEq
structure tagdec_reader where
 p:aC
 c:ai
structure eU where
 kind:Int
 targets:Int
deriving DecidableEq
inductive D where
 | aG (l:List aG)
 | eu (l:List eu)
 | bz (l:List bz)
 | Tape (l:List Tape)
 | str (l:List Str)
 | u8 (l:List Int)
 | Frame (l:List Frame)
 | Note (l:List Note)
 | ae (l:List ae)
 | Pair (l:List Pair)
 | Slot (l:List Slot)
 | Raw (l:List Raw)
 | aN (l:List aN)
 | ny (l:List ny)
 | dh (l:List dh)
 | aX (l:List aX)
 | sH (l:List sH)
 | Op (l:List Op)
 | Item (l:List Item)
 | dw (l:List dw)
 | u64 (l:List Int)
 | bool (l:List Bool)
 | aA4 (l:List (List Str))
 | u32 (l:List Int)
 | i64 (l:List Int)
 | ane (l:List Unit)
 | oW (l:List (Str×Bool))
 | jg (l:List (Str×eU))
def pM (d:D):Option (List (Str×Bool)):=
 match d with
 | .oW l=>some l
 | _=>none
def cd_Mstr_bool:iT D (List (Str×Bool)):=au1 D.oW pM
def qB (d:D):Option (List (Str×eU)):=
 match d with
 | .jg l=>some l
 | _=>none
def zi:iT D (List (Str×eU)):=au1 D.jg qB
def MM (d:D):Option (List Unit):=
 match d with
 | .ane l=>some l
 | _=>none
def zk (d:D):Option (List aG):=
 match d with
 | .aG l=>some l
 | _=>none
def vg:iT D (List aG):=tX D.aG zk []
def Lu (d:D):Option (List eu):=
 match d with
 | .eu l=>some l
 | _=>none
def AO:iT D (List eu):=tX D.eu Lu []
def zg (d:D):Option (List bz):=
 match d with
 | .bz l=>some l
 | _=>none
def yF:iT D (List bz):=tX D.bz zg []
def I7 (d:D):Option (List Tape):=
 match d with
 | .Tape l=>some l
 | _=>none
def cd_LTape:iT D (List Tape):=tX D.Tape I7 []
def RZ (d:D):Option (List Str):=
 match d with
 | .str l=>some l
 | _=>none
def cd_Lstr:iT D (List Str):=tX D.str RZ []
def acZ (d:D):Option (List Int):=
 match d with
 | .u8 l=>some l
 | _=>none
def Ul:iT D (List Int):=tX D.u8 acZ []
def Fj (d:D):Option (List Frame):=
 match d with
 | .Frame l=>some l
 | _=>none
def cd_LFrame:iT D (List Frame):=tX D.Frame Fj []
def LQ (d:D):Option (List Note):=
 match d with
 | .Note l=>some l
 | _=>none
def cd_LNote:iT D (List Note):=tX D.Note LQ []
def J9 (d:D):Option (List ae):=
 match d with
 | .ae l=>some l
 | _=>none
def zL:iT D (List ae):=tX D.ae J9 []
def prj_Pair (d:D):Option (List Pair):=
 match d with
 | .Pair l=>some l
 | _=>none
def cd_LPair:iT D (List Pair):=tX D.Pair prj_Pair []
def prj_Slot (d:D):Option (List Slot):=
 match d with
 | .Slot l=>some l
 | _=>none
def cd_LSlot:iT D (List Slot):=tX D.Slot prj_Slot []
def prj_Raw (d:D):Option (List Raw):=
 match d with
 | .Raw l=>some l
 | _=>none
def mQ:iT D (List Raw):=tX D.Raw prj_Raw []
def Cc (d:D):Option (List aN):=
 match d with
 | .aN l=>some l
 | _=>none
def cd_LAField:iT D (List aN):=tX D.aN Cc []
def Ky (d:D):Option (List ny):=
 match d with
 | .ny l=>some l
 | _=>none
def cd_LSpan:iT D (List ny):=tX D.ny Ky []
def yj (d:D):Option (List dh):=
 match d with
 | .dh l=>some l
 | _=>none
def yR:iT D (List dh):=tX D.dh yj []
def JJ (d:D):Option (List aX):=
 match d with
 | .aX l=>some l
 | _=>none
def Uo:iT D (List aX):=tX D.aX JJ []
def I4 (d:D):Option (List sH):=
 match d with
 | .sH l=>some l
 | _=>none
def adx:iT D (List sH):=tX D.sH I4 []
def aa3 (d:D):Option (List Op):=
 match d with
 | .Op l=>some l
 | _=>none
def aiP:iT D (List Op):=tX D.Op aa3 []
def JW (d:D):Option (List Item):=
 match d with
 | .Item l=>some l
 | _=>none
def nD:iT D (List Item):=tX D.Item JW []
def yl (d:D):Option (List dw):=
 match d with
 | .dw l=>some l
 | _=>none
def yO:iT D (List dw):=tX D.dw yl []
def RP (d:D):Option (List Int):=
 match d with
 | .u64 l=>some l
 | _=>none
def acf:iT D (List Int):=tX D.u64 RP []
def Jf (d:D):Option (List Bool):=
 match d with
 | .bool l=>some l
 | _=>none
def cd_Lbool:iT D (List Bool):=tX D.bool Jf []
def S_ (d:D):Option (List (List Str)):=
 match d with
 | .aA4 l=>some l
 | _=>none
def acs (d:D):Option (List Int):=
 match d with
 | .u32 l=>some l
 | _=>none
def Sr (d:D):Option (List Int):=
 match d with
 | .i64 l=>some l
 | _=>none
def axT:iT D (List Int):=tX D.i64 Sr []
def cd_Raw:iT D Raw:=nR (df (cInt .i64) (df (cInt .i64) (df (cInt .u64) cStr))) (fun p=>Raw.mk (p.1) (p.2.1) (p.2.2.1) (p.2.2.2)) (fun b=>(b.Num,b.fB,b.Bits,b.Data))
def cd_AVal:iT D ae:=nR (df (cInt .i64) (df (cInt .u64) (df cStr (df zL (df cd_LPair (df cd_LSlot mQ)))))) (fun p=>ae.mk (p.1) (p.2.1) (p.2.2.1) (p.2.2.2.1) (p.2.2.2.2.1) (p.2.2.2.2.2.1) (p.2.2.2.2.2.2)) (fun b=>(b.Kind,b.Bits,b.Text,b.List,b.Pairs,b.Slots,b.Raws))
def JD:iT D Slot:=nR (df (cInt .i64) cd_AVal) (fun p=>Slot.mk (p.1) (p.2)) (fun b=>(b.Num,b.Val))
def vZ:iT D Pair:=nR (df cd_AVal cd_AVal) (fun p=>Pair.mk (p.1) (p.2)) (fun b=>(b.Key,b.Val))
def cd_Note:iT D Note:=nR (df cStr cd_AVal) (fun p=>Note.mk (p.1) (p.2)) (fun b=>(b.Name,b.Val))
def CG:iT D Item:=nR (df cStr (df (cInt .i64) cd_LNote)) (fun p=>Item.mk (p.1) (p.2.1) (p.2.2)) (fun b=>(b.Name,b.Num,b.Notes))
def Q5:iT D ny:=nR (df (cInt .i64) (cInt .i64)) (fun p=>ny.mk (p.1) (p.2)) (fun b=>(b.From,b.To))
def cd_Enum:iT D eu:=nR (df cStr (df cBool (df nD (df cd_LSpan cd_LNote)))) (fun p=>eu.mk (p.1) (p.2.1) (p.2.2.1) (p.2.2.2.1) (p.2.2.2.2)) (fun b=>(b.Name,b.Open,b.Items,b.Reserved,b.Notes))
def qC:iT D dh:=nR (df cStr (df cStr (df cStr (df (cInt .i64) cd_LNote)))) (fun p=>dh.mk (p.1) (p.2.1) (p.2.2.1) (p.2.2.2.1) (p.2.2.2.2)) (fun b=>(b.Name,b.In,b.Out,b.Shape,b.Notes))
def cd_Service:iT D bz:=nR (df cStr (df yR cd_LNote)) (fun p=>bz.mk (p.1) (p.2.1) (p.2.2)) (fun b=>(b.Name,b.Methods,b.Notes))
def Em:iT D zl:=nR (df (cInt .i64) cStr) (fun p=>zl.mk (p.1) (p.2)) (fun b=>(b.Kind,b.Name))
def cd_AField:iT D aN:=nR (df (cInt .i64) (df cStr (df (cInt .i64) (df (cInt .i64) (df Em (df cStr (df cBool (df cd_AVal cd_LNote)))))))) (fun p=>aN.mk (p.1) (p.2.1) (p.2.2.1) (p.2.2.2.1) (p.2.2.2.2.1) (p.2.2.2.2.2.1) (p.2.2.2.2.2.2.1) (p.2.2.2.2.2.2.2.1) (p.2.2.2.2.2.2.2.2)) (fun b=>(b.Num,b.Name,b.Card,b.Key,b.bV,b.Union,b.dD,b.Default,b.Notes))
def cd_Message:iT D aG:=nR (df cStr (df cd_LAField (df cd_LSpan (df cd_Lstr cd_LNote)))) (fun p=>aG.mk (p.1) (p.2.1) (p.2.2.1) (p.2.2.2.1) (p.2.2.2.2)) (fun b=>(b.Name,b.Fields,b.Reserved,b.Gone,b.Notes))
def cd_Schema:iT D ax:=nR (df vg (df AO yF)) (fun p=>ax.mk (p.1) (p.2.1) (p.2.2)) (fun b=>(b.Messages,b.Enums,b.bK))
def cd_Status:iT D Status:=nR (df (cInt .i64) cStr) (fun p=>Status.mk (p.1) (p.2)) (fun b=>(b.Code,b.Text))
def cd_Tape:iT D Tape:=nR (df cStr (df cd_Lstr (df cd_Lstr cd_Status))) (fun p=>Tape.mk (p.1) (p.2.1) (p.2.2.1) (p.2.2.2)) (fun b=>(b.Method,b.In,b.Out,b.Status))
def cd_Frame:iT D Frame:=nR (df (cInt .i64) (df (cInt .i64) (df (cInt .i64) cStr))) (fun p=>Frame.mk (p.1) (p.2.1) (p.2.2.1) (p.2.2.2)) (fun b=>(b.Kind,b.Stream,b.Num,b.Data))
def cd_Op:iT D Op:=nR (df (cInt .i64) (df cStr (df cStr (df (cInt .i64) (df (cInt .i64) (df (cInt .i64) (df (cInt .i64) (cInt .i64)))))))) (fun p=>Op.mk (p.1) (p.2.1) (p.2.2.1) (p.2.2.2.1) (p.2.2.2.2.1) (p.2.2.2.2.2.1) (p.2.2.2.2.2.2.1) (p.2.2.2.2.2.2.2)) (fun b=>(b.Num,b.Name,b.Alias,b.Card,b.Key,b.Kind,b.Target,b.Union))
def cd_Prog:iT D aX:=nR (df cStr (df aiP (cInt .i64))) (fun p=>aX.mk (p.1) (p.2.1) (p.2.2)) (fun b=>(b.Name,b.Ops,b.Xj))
def cd_Plan:iT D aC:=nR (df Uo AO) (fun p=>aC.mk (p.1) (p.2)) (fun b=>(b.Progs,b.Enums))
def amw:iT D sH:=nR (df cStr cStr) (fun p=>sH.mk (p.1) (p.2)) (fun b=>(b.Key,b.Val))
def cd_Head:iT D Head:=nR (df cStr (df cStr (df (cInt .i64) adx))) (fun p=>Head.mk (p.1) (p.2.1) (p.2.2.1) (p.2.2.2)) (fun b=>(b.bz,b.Method,b.oD,b.jO))
def cd_Limits:iT D jf:=nR (df (cInt .i64) (df (cInt .i64) (df (cInt .i64) (cInt .i64)))) (fun p=>jf.mk (p.1) (p.2.1) (p.2.2.1) (p.2.2.2)) (fun b=>(b.Bytes,b.Depth,b.Nodes,b.Text))
def cd_frame_taker:iT D a_:=nR (df cStr (cInt .i64)) (fun p=>a_.mk (p.1) (p.2)) (fun b=>(b.s,b.errno))
def Tt:iT D dw:=nR (df cStr (df (cInt .i64) (cInt .i64))) (fun p=>dw.mk (p.1) (p.2.1) (p.2.2)) (fun b=>(b.Def,b.Num,b.Err))
def cd_ref12_list:iT D az:=nR (df cStr yO) (fun p=>az.mk (p.1) (p.2)) (fun b=>(b.oZ,b.l))
def cd_check_finder:iT D ak:=nR (df cStr (df (cInt .i64) yO)) (fun p=>ak.mk (p.1) (p.2.1) (p.2.2)) (fun b=>(b.oZ,b.num,b.out))
def cd_Cursor:iT D ai:=nR (df cStr (df (cInt .i64) (df (cInt .i64) (df (cInt .i64) (df (cInt .i64) (cInt .i64)))))) (fun p=>ai.mk (p.1) (p.2.1) (p.2.2.1) (p.2.2.2.1) (p.2.2.2.2.1) (p.2.2.2.2.2)) (fun b=>(b.Data,b.At,b.End,b.Depth,b.Nodes,b.Text))
def cd_tagdec_reader:iT D tagdec_reader:=nR (df cd_Plan cd_Cursor) (fun p=>tagdec_reader.mk (p.1) (p.2)) (fun b=>(b.p,b.c))
def zf:Raw:=Raw.mk 0 0 0 []
instance:Inhabited Raw:=⟨zf⟩
def jP:ae:=ae.mk 0 0 [] [] [] [] []
instance:Inhabited ae:=⟨jP⟩
def gZ:Slot:=Slot.mk 0 jP
def dV:Pair:=Pair.mk jP jP
instance:Inhabited Pair:=⟨dV⟩
def ou:Note:=Note.mk [] jP
def gQ:Item:=Item.mk [] 0 []
def tJ:ny:=ny.mk 0 0
def dR:eu:=eu.mk [] false [] [] []
def dA:dh:=dh.mk [] [] [] 0 []
instance:Inhabited dh:=⟨dA⟩
def iC:bz:=bz.mk [] [] []
def ayU:zl:=zl.mk 0 []
def aB:aN:=aN.mk 0 [] 0 0 ayU [] false jP []
def bT:aG:=aG.mk [] [] [] [] []
def avv:Status:=Status.mk 0 []
def iE:Tape:=Tape.mk [] [] [] avv
def jV:Frame:=Frame.mk 0 0 0 []
def Gt:Op:=Op.mk 0 [] [] 0 0 0 0 0
def aO:aX:=aX.mk [] [] 0
def aFo:aC:=aC.mk [] []
def akj:sH:=sH.mk [] []
def aC6:Head:=Head.mk [] [] 0 []
instance:Inhabited Head:=⟨aC6⟩
def XT:a_:=a_.mk [] 0
instance:Inhabited a_:=⟨XT⟩
def anQ:dw:=dw.mk [] 0 0
def afv:ai:=ai.mk [] 0 0 0 0 0
instance:Inhabited ai:=⟨afv⟩
def Qx:tagdec_reader:=tagdec_reader.mk aFo afv
instance:Inhabited tagdec_reader:=⟨Qx⟩
def adP:eU:=eU.mk 0 0
def V9:El D:=⟨aG,cd_Message,bT,D.aG,zk⟩
def akP:El D:=⟨eu,cd_Enum,dR,D.eu,Lu⟩
def SS:El D:=⟨bz,cd_Service,iC,D.bz,zg⟩
def akR:El D:=⟨Tape,cd_Tape,iE,D.Tape,I7⟩
def ar7:El D:=⟨Str,cStr,[],D.str,RZ⟩
def aBM:El D:=⟨Int,(cInt .u8),0,D.u8,acZ⟩
def aeC:El D:=⟨Frame,cd_Frame,jV,D.Frame,Fj⟩
def alu:El D:=⟨Note,cd_Note,ou,D.Note,LQ⟩
def alS:El D:=⟨ae,cd_AVal,jP,D.ae,J9⟩
def alH:El D:=⟨Pair,vZ,dV,D.Pair,prj_Pair⟩
def amA:El D:=⟨Slot,JD,gZ,D.Slot,prj_Slot⟩
def auC:El D:=⟨Raw,cd_Raw,zf,D.Raw,prj_Raw⟩
def Yq:El D:=⟨aN,cd_AField,aB,D.aN,Cc⟩
def alO:El D:=⟨ny,Q5,tJ,D.ny,Ky⟩
def VK:El D:=⟨dh,qC,dA,D.dh,yj⟩
def al0:El D:=⟨aX,cd_Prog,aO,D.aX,JJ⟩
def alf:El D:=⟨sH,amw,akj,D.sH,I4⟩
def aBO:El D:=⟨Op,cd_Op,Gt,D.Op,aa3⟩
def ak_:El D:=⟨Item,CG,gQ,D.Item,JW⟩
def VM:El D:=⟨dw,Tt,anQ,D.dw,yl⟩
def asn:El D:=⟨Int,(cInt .u64),0,D.u64,RP⟩
def al6:El D:=⟨Bool,cBool,false,D.bool,Jf⟩
def am0:El D:=⟨List Str,cd_Lstr,[],D.aA4,S_⟩
def avy:El D:=⟨Int,(cInt .u32),0,D.u32,acs⟩
def aq2:El D:=⟨Int,(cInt .i64),0,D.i64,Sr⟩
def Vj:El D:=⟨Unit,amZ,(),D.ane,MM⟩
def view (d:D):Vw D:=
 match d with
 | .aG l=>⟨V9,l⟩
 | .eu l=>⟨akP,l⟩
 | .bz l=>⟨SS,l⟩
 | .Tape l=>⟨akR,l⟩
 | .str l=>⟨ar7,l⟩
 | .u8 l=>⟨aBM,l⟩
 | .Frame l=>⟨aeC,l⟩
 | .Note l=>⟨alu,l⟩
 | .ae l=>⟨alS,l⟩
 | .Pair l=>⟨alH,l⟩
 | .Slot l=>⟨amA,l⟩
 | .Raw l=>⟨auC,l⟩
 | .aN l=>⟨Yq,l⟩
 | .ny l=>⟨alO,l⟩
 | .dh l=>⟨VK,l⟩
 | .aX l=>⟨al0,l⟩
 | .sH l=>⟨alf,l⟩
 | .Op l=>⟨aBO,l⟩
 | .Item l=>⟨ak_,l⟩
 | .dw l=>⟨VM,l⟩
 | .u64 l=>⟨asn,l⟩
 | .bool l=>⟨al6,l⟩
 | .aA4 l=>⟨am0,l⟩
 | .u32 l=>⟨avy,l⟩
 | .i64 l=>⟨aq2,l⟩
 | .ane l=>⟨Vj,l⟩
 | .oW _=>⟨Vj,[]⟩
 | .jg _=>⟨Vj,[]⟩
def CU:=(kvS false pvB false)
def jh:=(kvS true (als (pvP (pvI .i64) (pvI .i64)) (fun p=>eU.mk (p.1) (p.2)) (fun b=>(b.kind,b.targets))) adP)
def AX (d:D):Option (Mp D):=
 match d with
 | .oW l=>some (Qy CU D.oW l)
 | .jg l=>some (Qy jh D.jg l)
 | _=>none
def GY:TypeId->Option D:=lk [(236,D.oW []),(488,D.jg [])]
def arv:List (Nat×El D):=[(79,V9),(142,akP),(82,SS),(43,akR),(9,ar7),(5,aBM),(52,aeC),(204,alu),(73,alS),(341,alH),(309,amA),(316,auC),(75,Yq),(198,alO),(61,VK),(138,al0),(155,alf),(193,aBO),(200,ak_),(280,VM),(67,asn),(4,al6),(39,am0),(276,avy),(3,aq2)]
def nC:TypeId->Option (El D):=lk arv
def rowOf (e:TypeId)(s:List UInt8):Option D:=if Nat.beq e 5 then some (D.u8 (XD s))else none
def S:Sh D:=sK view nC (fun _=>none) rowOf AX GY
theorem zX (d:D)(a:List (Str×Bool))(h:pM d=some a):d=D.oW a:=by
 cases d<;>simp[pM]at h
 subst h;rfl
instance aqO:bQ S cd_Mstr_bool:=alr zX
instance aA8:xY S (aAL D.oW pM):=ayb zX
theorem Dj (d:D)(a:List (Str×eU))(h:qB d=some a):d=D.jg a:=by
 cases d<;>simp[qB]at h
 subst h;rfl
instance agP:bQ S zi:=alr Dj
theorem BB (d:D)(a:List Unit)(h:MM d=some a):d=D.ane a:=by
 cases d<;>simp[MM]at h
 subst h;rfl
theorem D7 (d:D)(a:List aG)(h:zk d=some a):d=D.aG a:=by
 cases d<;>simp[zk]at h
 subst h;rfl
instance axd:bQ S vg:=ja D7 rfl
theorem O8 (d:D)(a:List eu)(h:Lu d=some a):d=D.eu a:=by
 cases d<;>simp[Lu]at h
 subst h;rfl
instance aCJ:bQ S AO:=ja O8 rfl
theorem Ew (d:D)(a:List bz)(h:zg d=some a):d=D.bz a:=by
 cases d<;>simp[zg]at h
 subst h;rfl
instance axf:bQ S yF:=ja Ew rfl
theorem OI (d:D)(a:List Tape)(h:I7 d=some a):d=D.Tape a:=by
 cases d<;>simp[I7]at h
 subst h;rfl
instance agO:bQ S cd_LTape:=ja OI rfl
theorem TL (d:D)(a:List Str)(h:RZ d=some a):d=D.str a:=by
 cases d<;>simp[RZ]at h
 subst h;rfl
instance ako:bQ S cd_Lstr:=ja TL rfl
theorem Yu (d:D)(a:List Int)(h:acZ d=some a):d=D.u8 a:=by
 cases d<;>simp[acZ]at h
 subst h;rfl
instance aGm:bQ S Ul:=ja Yu rfl
theorem JL (d:D)(a:List Frame)(h:Fj d=some a):d=D.Frame a:=by
 cases d<;>simp[Fj]at h
 subst h;rfl
instance aBa:bQ S cd_LFrame:=ja JL rfl
theorem Px (d:D)(a:List Note)(h:LQ d=some a):d=D.Note a:=by
 cases d<;>simp[LQ]at h
 subst h;rfl
instance Ql:bQ S cd_LNote:=ja Px rfl
theorem PN (d:D)(a:List ae)(h:J9 d=some a):d=D.ae a:=by
 cases d<;>simp[J9]at h
 subst h;rfl
instance aCI:bQ S zL:=ja PN rfl
theorem Ej (d:D)(a:List Pair)(h:prj_Pair d=some a):d=D.Pair a:=by
 cases d<;>simp[prj_Pair]at h
 subst h;rfl
instance aCM:bQ S cd_LPair:=ja Ej rfl
instance aIT {e:TypeId}:xY S (bRow e D.Pair prj_Pair):=acw Ej
theorem DK (d:D)(a:List Slot)(h:prj_Slot d=some a):d=D.Slot a:=by
 cases d<;>simp[prj_Slot]at h
 subst h;rfl
instance aCO:bQ S cd_LSlot:=ja DK rfl
instance aIU {e:TypeId}:xY S (bRow e D.Slot prj_Slot):=acw DK
theorem Ic (d:D)(a:List Raw)(h:prj_Raw d=some a):d=D.Raw a:=by
 cases d<;>simp[prj_Raw]at h
 subst h;rfl
instance aFY:bQ S mQ:=ja Ic rfl
instance aJm {e:TypeId}:xY S (bRow e D.Raw prj_Raw):=acw Ic
theorem GN (d:D)(a:List aN)(h:Cc d=some a):d=D.aN a:=by
 cases d<;>simp[Cc]at h
 subst h;rfl
instance axx:bQ S cd_LAField:=ja GN rfl
theorem PP (d:D)(a:List ny)(h:Ky d=some a):d=D.ny a:=by
 cases d<;>simp[Ky]at h
 subst h;rfl
instance Qm:bQ S cd_LSpan:=ja PP rfl
theorem DT (d:D)(a:List dh)(h:yj d=some a):d=D.dh a:=by
 cases d<;>simp[yj]at h
 subst h;rfl
instance axc:bQ S yR:=ja DT rfl
theorem Pm (d:D)(a:List aX)(h:JJ d=some a):d=D.aX a:=by
 cases d<;>simp[JJ]at h
 subst h;rfl
instance aCN:bQ S Uo:=ja Pm rfl
theorem OV (d:D)(a:List sH)(h:I4 d=some a):d=D.sH a:=by
 cases d<;>simp[I4]at h
 subst h;rfl
instance aCL:bQ S adx:=ja OV rfl
theorem Yr (d:D)(a:List Op)(h:aa3 d=some a):d=D.Op a:=by
 cases d<;>simp[aa3]at h
 subst h;rfl
instance aGl:bQ S aiP:=ja Yr rfl
theorem Qh (d:D)(a:List Item)(h:JW d=some a):d=D.Item a:=by
 cases d<;>simp[JW]at h
 subst h;rfl
instance aCK:bQ S nD:=ja Qh rfl
theorem DX (d:D)(a:List dw)(h:yl d=some a):d=D.dw a:=by
 cases d<;>simp[yl]at h
 subst h;rfl
instance axe:bQ S yO:=ja DX rfl
theorem T_ (d:D)(a:List Int)(h:RP d=some a):d=D.u64 a:=by
 cases d<;>simp[RP]at h
 subst h;rfl
instance aF0:bQ S acf:=ja T_ rfl
theorem O0 (d:D)(a:List Bool)(h:Jf d=some a):d=D.bool a:=by
 cases d<;>simp[Jf]at h
 subst h;rfl
instance aCP:bQ S cd_Lbool:=ja O0 rfl
theorem agB (d:D)(a:List (List Str))(h:S_ d=some a):d=D.aA4 a:=by
 cases d<;>simp[S_]at h
 subst h;rfl
theorem ajo (d:D)(a:List Int)(h:acs d=some a):d=D.u32 a:=by
 cases d<;>simp[acs]at h
 subst h;rfl
theorem Va (d:D)(a:List Int)(h:Sr d=some a):d=D.i64 a:=by
 cases d<;>simp[Sr]at h
 subst h;rfl
instance aFZ:bQ S axT:=ja Va rfl
instance aan:bQ S cd_Raw:=gu inferInstance fun _=>rfl
instance Xk:bQ S cd_AVal:=gu inferInstance fun _=>rfl
instance Xp:bQ S JD:=gu inferInstance fun _=>rfl
instance Xo:bQ S vZ:=gu inferInstance fun _=>rfl
instance Xn:bQ S cd_Note:=gu inferInstance fun _=>rfl
instance Xm:bQ S CG:=gu inferInstance fun _=>rfl
instance Xq:bQ S Q5:=gu inferInstance fun _=>rfl
instance Xl:bQ S cd_Enum:=gu inferInstance fun _=>rfl
instance Hf:bQ S qC:=gu inferInstance fun _=>rfl
instance Hg:bQ S cd_Service:=gu inferInstance fun _=>rfl
instance aCH:bQ S Em:=gu inferInstance fun _=>rfl
instance Me:bQ S cd_AField:=gu inferInstance fun _=>rfl
instance zH:bQ S cd_Message:=gu inferInstance fun _=>rfl
instance ac6:bQ S cd_Schema:=gu inferInstance fun _=>rfl
instance aBc:bQ S cd_Status:=gu inferInstance fun _=>rfl
instance Xr:bQ S cd_Tape:=gu inferInstance fun _=>rfl
instance agN:bQ S cd_Frame:=gu inferInstance fun _=>rfl
instance axg:bQ S cd_Op:=gu inferInstance fun _=>rfl
instance akq:bQ S cd_Prog:=gu inferInstance fun _=>rfl
instance aF1:bQ S cd_Plan:=gu inferInstance fun _=>rfl
instance akp:bQ S amw:=gu inferInstance fun _=>rfl
instance aFX:bQ S cd_Head:=gu inferInstance fun _=>rfl
instance aBb:bQ S cd_Limits:=gu inferInstance fun _=>rfl
instance am9:bQ S cd_frame_taker:=gu inferInstance fun _=>rfl
instance X3:bQ S Tt:=gu inferInstance fun _=>rfl
instance um:bQ S cd_ref12_list:=gu inferInstance fun _=>rfl
instance nz:bQ S cd_check_finder:=gu inferInstance fun _=>rfl
instance aA_:bQ S cd_Cursor:=gu inferInstance fun _=>rfl
instance ag0:bQ S cd_tagdec_reader:=gu inferInstance fun _=>rfl
theorem aE4:axa S view nC:=by
 refine⟨fun e E h l=> ?_,fun d l=> ?_,fun d d2 a h=> ?_,fun d=> ?_⟩
 ·have:=Vx h;simp only[arv,yw,Qbk,Qbe,or_false]at this;rcases this with⟨_,rfl⟩ | ⟨_,rfl⟩ | ⟨_,rfl⟩ | ⟨_,rfl⟩ | ⟨_,rfl⟩ | ⟨_,rfl⟩ | ⟨_,rfl⟩ | ⟨_,rfl⟩ | ⟨_,rfl⟩ | ⟨_,rfl⟩ | ⟨_,rfl⟩ | ⟨_,rfl⟩ | ⟨_,rfl⟩ | ⟨_,rfl⟩ | ⟨_,rfl⟩ | ⟨_,rfl⟩ | ⟨_,rfl⟩ | ⟨_,rfl⟩ | ⟨_,rfl⟩ | ⟨_,rfl⟩ | ⟨_,rfl⟩ | ⟨_,rfl⟩ | ⟨_,rfl⟩ | ⟨_,rfl⟩ | ⟨_,rfl⟩<;>rfl
 ·cases d<;>rfl
 ·cases d
  ·rw[D7 d2 a h];rfl
  ·rw[O8 d2 a h];rfl
  ·rw[Ew d2 a h];rfl
  ·rw[OI d2 a h];rfl
  ·rw[TL d2 a h];rfl
  ·rw[Yu d2 a h];rfl
  ·rw[JL d2 a h];rfl
  ·rw[Px d2 a h];rfl
  ·rw[PN d2 a h];rfl
  ·rw[Ej d2 a h];rfl
  ·rw[DK d2 a h];rfl
  ·rw[Ic d2 a h];rfl
  ·rw[GN d2 a h];rfl
  ·rw[PP d2 a h];rfl
  ·rw[DT d2 a h];rfl
  ·rw[Pm d2 a h];rfl
  ·rw[OV d2 a h];rfl
  ·rw[Yr d2 a h];rfl
  ·rw[Qh d2 a h];rfl
  ·rw[DX d2 a h];rfl
  ·rw[T_ d2 a h];rfl
  ·rw[O0 d2 a h];rfl
  ·rw[agB d2 a h];rfl
  ·rw[ajo d2 a h];rfl
  ·rw[Va d2 a h];rfl
  ·rw[BB d2 a h];rfl
  ·rw[BB d2 a h];rfl
  ·rw[BB d2 a h];rfl
 ·cases d
  ·exact zH
  ·exact Xl
  ·exact Hg
  ·exact Xr
  ·exact ac0
  ·exact(lT _)
  ·exact agN
  ·exact Xn
  ·exact Xk
  ·exact Xo
  ·exact Xp
  ·exact aan
  ·exact Me
  ·exact Xq
  ·exact Hf
  ·exact akq
  ·exact akp
  ·exact axg
  ·exact Xm
  ·exact X3
  ·exact(lT _)
  ·exact JI
  ·exact ako
  ·exact(lT _)
  ·exact(lT _)
  ·exact Jv
  ·exact Jv
  ·exact Jv
theorem aCY:aw9 S view nC S.MB S.text AX GY where
 inj:=fun d l=>by cases d<;>rfl
 el:=fun e E h l=>by
  have:=Vx h;simp only[arv,yw,Qbk,Qbe,or_false]at this;rcases this with⟨_,rfl⟩ | ⟨_,rfl⟩ | ⟨_,rfl⟩ | ⟨_,rfl⟩ | ⟨_,rfl⟩ | ⟨_,rfl⟩ | ⟨_,rfl⟩ | ⟨_,rfl⟩ | ⟨_,rfl⟩ | ⟨_,rfl⟩ | ⟨_,rfl⟩ | ⟨_,rfl⟩ | ⟨_,rfl⟩ | ⟨_,rfl⟩ | ⟨_,rfl⟩ | ⟨_,rfl⟩ | ⟨_,rfl⟩ | ⟨_,rfl⟩ | ⟨_,rfl⟩ | ⟨_,rfl⟩ | ⟨_,rfl⟩ | ⟨_,rfl⟩ | ⟨_,rfl⟩ | ⟨_,rfl⟩ | ⟨_,rfl⟩<;>rfl
 txt:=fun e s d h=>by
  have h:rowOf e s=some d:=h;unfold rowOf at h;split at h
  ·injection h with h
   subst h;rfl
  ·cases h
 MB:=fun i d h=>by
  exact nomatch h
 size:=fun d m h=>by
  cases d<;>first
   | (cases h;done)
   | (have h2:=Qdn h;subst h2;exact⟨rfl,rfl,aml (awu aGc) (fun _=>rfl) _⟩)
   | (have h2:=Qdn h;subst h2;exact⟨rfl,rfl,aml (awu (arh (aGd (hc:=(axt .i64)) (hd:=(axt .i64))) (fun _=>rfl))) (fun _=>rfl) _⟩)
 new:=fun t d h=>by
  have:=Vx h;simp only[yw,Qbk,Qbe,or_false]at this;rcases this with⟨_,rfl⟩ | ⟨_,rfl⟩<;>exact⟨_,rfl,rfl⟩
theorem aI7:ShOk S:=arR aE4 (fun e s d h=>by
 unfold rowOf at h;split at h
 ·injection h with h
  subst h;exact⟨rfl,v_ s,fun i _=>II (Lf.int .u8) (avK s i)⟩
 ·cases h) aCY
abbrev kK (e:Nat):Ty:=⟨4,false,1,24,[.slice none 0 0],[],some e,[],false,none,false,none⟩
abbrev b_:Value:=.slice none 0 0
abbrev jA:Value:=.int .i64 0
abbrev jk:Value:=.string ⟨#[]⟩
abbrev NR:Value:=.int .u64 0
abbrev iQ (n b:Nat)(z:List Value)(f:List (Nat×Nat×Bool)):Ty:=⟨5,true,n,b,z,f,none,[],false,none,true,none⟩
abbrev XY:List (Nat×Nat×Bool):=[(0,1,false),(1,1,false)]
abbrev apv:List (Nat×Nat×Bool):=[(0,1,false),(1,1,false),(2,1,false)]
abbrev azu:List (Nat×Nat×Bool):=[(0,1,false),(1,1,false),(2,1,false),(3,1,false)]
abbrev aE2:List (Nat×Nat×Bool):=[(0,1,false),(1,1,false),(2,1,false),(3,1,false),(4,1,false)]
abbrev aHB:List (Nat×Nat×Bool):=[(0,1,false),(1,1,false),(2,1,false),(3,1,false),(4,1,false),(5,1,false),(6,1,false)]
def tys:List (Nat×Ty):=
 [(3,⟨23,false,1,8,[jA],[],none,[],false,none,false,none⟩),
  (4,⟨1,false,1,1,[.bool false],[],none,[],false,none,false,none⟩),
  (5,⟨24,false,1,1,[.int .u8 0],[],none,[],false,none,false,none⟩),
  (9,⟨3,false,1,16,[jk],[],none,[],false,none,false,none⟩),
  (20,⟨0,false,1,16,[.nilIface],[],none,[],false,none,false,none⟩),
  (21,⟨22,false,1,4,[.int .i32 0],[],none,[],false,none,false,none⟩),
  (22,kK 79),
  (23,kK 142),
  (24,kK 82),
  (26,iQ 3 72 [b_, b_, b_] apv),
  (27,kK 43),
  (30,⟨23,false,1,8,[jA],[],none,[],false,none,false,none⟩),
  (39,kK 9),
  (41,⟨5,true,2,24,[jA, jk],XY,none,[2,3],false,none,true,none⟩),
  (43,iQ 5 88 [jk, b_, b_, jA, jk] [(0,1,false),(1,1,false),(2,1,false),(3,2,true)]),
  (45,⟨6,false,1,8,[.pointer none],[],none,[],false,none,false,some (48,48)⟩),
  (46,⟨4,false,1,24,[b_],[],some 5,[],true,none,false,none⟩),
  (48,⟨5,true,2,32,[.pointer none, b_],XY,none,[],true,none,true,none⟩),
  (49,⟨4,false,1,24,[b_],[],some 52,[],true,none,false,none⟩),
  (52,⟨5,true,4,40,[jA, jA, jA, jk],azu,none,[2,2,2,3],false,none,true,none⟩),
  (59,kK 204),
  (61,iQ 5 80 [jk, jk, jk, jA, b_] aE2),
  (66,⟨5,true,2,24,[jA, jk],XY,none,[2,3],false,none,true,none⟩),
  (67,⟨27,false,1,8,[NR],[],none,[],false,none,false,none⟩),
  (68,kK 73),
  (69,⟨4,false,1,24,[b_],[],some 341,[],true,none,false,none⟩),
  (70,kK 309),
  (71,⟨4,false,1,24,[b_],[],some 316,[],true,none,false,none⟩),
  (73,iQ 7 128 [jA, NR, jk, b_, b_, b_, b_] aHB),
  (75,iQ 16 240 [jA, jk, jA, jA, jA, jk, jk, .bool false, jA, NR, jk, b_, b_, b_, b_, b_] [(0,1,false),(1,1,false),(2,1,false),(3,1,false),(4,2,true),(6,1,false),(7,1,false),(8,7,true),(15,1,false)]),
  (76,kK 75),
  (77,kK 198),
  (79,iQ 5 112 [jk, b_, b_, b_, b_] aE2),
  (80,kK 61),
  (82,iQ 3 64 [jk, b_, b_] apv),
  (95,kK 138),
  (97,iQ 2 48 [b_, b_] XY),
  (109,⟨4,false,1,24,[b_],[],some 155,[],true,none,false,none⟩),
  (111,iQ 4 64 [jk, jk, jA, b_] azu),
  (115,⟨6,false,1,8,[.pointer none],[],none,[],false,none,false,some (5,5)⟩),
  (117,⟨7,false,1,8,[.nilFunc],[],none,[],false,none,false,none⟩),
  (136,kK 193),
  (138,iQ 3 48 [jk, b_, jA] apv),
  (140,kK 200),
  (142,iQ 5 96 [jk, .bool false, b_, b_, b_] aE2),
  (147,⟨5,true,4,32,[jA, jA, jA, jA],azu,none,[2,2,2,2],false,none,true,none⟩),
  (155,⟨5,true,2,32,[jk, jk],XY,none,[3,3],false,none,true,none⟩),
  (159,kK 280),
  (181,⟨0,true,3,24,[NR, NR, NR],[],none,[2,2,2],false,some (67,3),true,none⟩),
  (185,⟨6,false,1,8,[.pointer none],[],none,[],false,none,false,some (187,187)⟩),
  (187,⟨5,true,2,24,[jk, jA],XY,none,[3,2],false,none,true,none⟩),
  (193,⟨5,true,8,80,[jA, jk, jk, jA, jA, jA, jA, jA],[(0,1,false),(1,1,false),(2,1,false),(3,1,false),(4,1,false),(5,1,false),(6,1,false),(7,1,false)],none,[2,3,3,2,2,2,2,2],false,none,true,none⟩),
  (198,⟨5,true,2,16,[jA, jA],XY,none,[2,2],false,none,true,none⟩),
  (200,iQ 3 48 [jk, jA, b_] apv),
  (204,iQ 8 144 [jk, jA, NR, jk, b_, b_, b_, b_] [(0,1,false),(1,7,true)]),
  (208,⟨7,false,1,8,[.nilFunc],[],none,[],false,none,false,none⟩),
  (215,⟨27,false,1,8,[NR],[],none,[],false,none,false,none⟩),
  (219,iQ 2 40 [jk, b_] XY),
  (222,⟨4,false,1,24,[b_],[],some 4,[],true,none,false,none⟩),
  (229,⟨6,false,1,8,[.pointer none],[],none,[],false,none,false,some (231,231)⟩),
  (231,iQ 3 48 [jk, jA, b_] apv),
  (232,⟨0,true,3,72,[b_, b_, b_],[],none,[],true,some (39,3),true,none⟩),
  (236,⟨0,false,1,8,[.map none],[],none,[],false,none,false,some (9,4)⟩),
  (252,⟨7,false,1,8,[.nilFunc],[],none,[],false,none,false,none⟩),
  (254,⟨7,false,1,8,[.nilFunc],[],none,[],false,none,false,none⟩),
  (258,⟨7,false,1,8,[.nilFunc],[],none,[],false,none,false,none⟩),
  (261,⟨5,true,6,56,[jk, jA, jA, jA, jA, jA],[(0,1,false),(1,1,false),(2,1,false),(3,1,false),(4,1,false),(5,1,false)],none,[3,2,2,2,2,2],false,none,true,none⟩),
  (264,⟨6,false,1,8,[.pointer none],[],none,[],false,none,false,some (266,266)⟩),
  (266,iQ 8 104 [b_, b_, jk, jA, jA, jA, jA, jA] [(0,2,true),(2,6,true)]),
  (271,⟨7,false,1,8,[.nilFunc],[],none,[],false,none,false,none⟩),
  (276,⟨26,false,1,4,[.int .u32 0],[],none,[],false,none,false,none⟩),
  (278,⟨6,false,1,8,[.pointer none],[],none,[],false,none,false,some (219,219)⟩),
  (280,⟨5,true,3,32,[jk, jA, jA],apv,none,[3,2,2],false,none,true,none⟩),
  (283,⟨7,false,1,8,[.nilFunc],[],none,[],false,none,false,none⟩),
  (301,⟨7,false,1,8,[.nilFunc],[],none,[],false,none,false,none⟩),
  (309,iQ 8 136 [jA, jA, NR, jk, b_, b_, b_, b_] [(0,1,false),(1,7,true)]),
  (316,⟨5,true,4,40,[jA, jA, NR, jk],azu,none,[2,2,2,3],true,none,true,none⟩),
  (319,⟨7,false,1,8,[.nilFunc],[],none,[],false,none,false,none⟩),
  (321,⟨7,false,1,8,[.nilFunc],[],none,[],false,none,false,none⟩),
  (339,⟨7,false,1,8,[.nilFunc],[],none,[],false,none,false,none⟩),
  (341,⟨5,true,14,256,[jA, NR, jk, b_, b_, b_, b_, jA, NR, jk, b_, b_, b_, b_],[(0,7,true),(7,7,true)],none,[],true,none,true,none⟩),
  (344,⟨0,true,16,64,[.int .u32 0, .int .u32 0, .int .u32 0, .int .u32 0, .int .u32 0, .int .u32 0, .int .u32 0, .int .u32 0, .int .u32 0, .int .u32 0, .int .u32 0, .int .u32 0, .int .u32 0, .int .u32 0, .int .u32 0, .int .u32 0],[],none,[2,2,2,2,2,2,2,2,2,2,2,2,2,2,2,2],false,some (276,16),true,none⟩),
  (361,⟨7,false,1,8,[.nilFunc],[],none,[],false,none,false,none⟩),
  (364,⟨7,false,1,8,[.nilFunc],[],none,[],false,none,false,none⟩),
  (366,⟨7,false,1,8,[.nilFunc],[],none,[],false,none,false,none⟩),
  (394,iQ 7 128 [jA, NR, jk, b_, b_, b_, b_] aHB),
  (395,kK 73),
  (397,kK 341),
  (399,⟨7,false,1,8,[.nilFunc],[],none,[],false,none,false,none⟩),
  (401,iQ 2 48 [b_, b_] XY),
  (404,⟨7,false,1,8,[.nilFunc],[],none,[],false,none,false,none⟩),
  (412,⟨7,false,1,8,[.nilFunc],[],none,[],false,none,false,none⟩),
  (415,⟨6,false,1,8,[.pointer none],[],none,[],false,none,false,some (316,316)⟩),
  (418,iQ 1 8 [.nilFunc] [(0,1,false)]),
  (458,kK 3),
  (486,⟨5,true,2,16,[jA, jA],XY,none,[2,2],false,none,true,none⟩),
  (488,⟨0,false,1,8,[.map none],[],none,[],false,none,false,some (9,486)⟩)]
def T:TypeId->Option Ty:=lk tys
theorem aI1:∀t a,T t=some a->TyOk Tryz.prog t a:=by
 intro t a h;have:=Vx h;simp only[tys,yw,Qbk,Qbe,or_false]at this;rcases this with⟨rfl,rfl⟩ | ⟨rfl,rfl⟩ | ⟨rfl,rfl⟩ | ⟨rfl,rfl⟩ | ⟨rfl,rfl⟩ | ⟨rfl,rfl⟩ | ⟨rfl,rfl⟩ | ⟨rfl,rfl⟩ | ⟨rfl,rfl⟩ | ⟨rfl,rfl⟩ | ⟨rfl,rfl⟩ | ⟨rfl,rfl⟩ | ⟨rfl,rfl⟩ | ⟨rfl,rfl⟩ | ⟨rfl,rfl⟩ | ⟨rfl,rfl⟩ | ⟨rfl,rfl⟩ | ⟨rfl,rfl⟩ | ⟨rfl,rfl⟩ | ⟨rfl,rfl⟩ | ⟨rfl,rfl⟩ | ⟨rfl,rfl⟩ | ⟨rfl,rfl⟩ | ⟨rfl,rfl⟩ | ⟨rfl,rfl⟩ | ⟨rfl,rfl⟩ | ⟨rfl,rfl⟩ | ⟨rfl,rfl⟩ | ⟨rfl,rfl⟩ | ⟨rfl,rfl⟩ | ⟨rfl,rfl⟩ | ⟨rfl,rfl⟩ | ⟨rfl,rfl⟩ | ⟨rfl,rfl⟩ | ⟨rfl,rfl⟩ | ⟨rfl,rfl⟩ | ⟨rfl,rfl⟩ | ⟨rfl,rfl⟩ | ⟨rfl,rfl⟩ | ⟨rfl,rfl⟩ | ⟨rfl,rfl⟩ | ⟨rfl,rfl⟩ | ⟨rfl,rfl⟩ | ⟨rfl,rfl⟩ | ⟨rfl,rfl⟩ | ⟨rfl,rfl⟩ | ⟨rfl,rfl⟩ | ⟨rfl,rfl⟩ | ⟨rfl,rfl⟩ | ⟨rfl,rfl⟩ | ⟨rfl,rfl⟩ | ⟨rfl,rfl⟩ | ⟨rfl,rfl⟩ | ⟨rfl,rfl⟩ | ⟨rfl,rfl⟩ | ⟨rfl,rfl⟩ | ⟨rfl,rfl⟩ | ⟨rfl,rfl⟩ | ⟨rfl,rfl⟩ | ⟨rfl,rfl⟩ | ⟨rfl,rfl⟩ | ⟨rfl,rfl⟩ | ⟨rfl,rfl⟩ | ⟨rfl,rfl⟩ | ⟨rfl,rfl⟩ | ⟨rfl,rfl⟩ | ⟨rfl,rfl⟩ | ⟨rfl,rfl⟩ | ⟨rfl,rfl⟩ | ⟨rfl,rfl⟩ | ⟨rfl,rfl⟩ | ⟨rfl,rfl⟩ | ⟨rfl,rfl⟩ | ⟨rfl,rfl⟩ | ⟨rfl,rfl⟩ | ⟨rfl,rfl⟩ | ⟨rfl,rfl⟩ | ⟨rfl,rfl⟩ | ⟨rfl,rfl⟩ | ⟨rfl,rfl⟩ | ⟨rfl,rfl⟩ | ⟨rfl,rfl⟩ | ⟨rfl,rfl⟩ | ⟨rfl,rfl⟩ | ⟨rfl,rfl⟩ | ⟨rfl,rfl⟩ | ⟨rfl,rfl⟩ | ⟨rfl,rfl⟩ | ⟨rfl,rfl⟩ | ⟨rfl,rfl⟩ | ⟨rfl,rfl⟩ | ⟨rfl,rfl⟩ | ⟨rfl,rfl⟩ | ⟨rfl,rfl⟩ | ⟨rfl,rfl⟩ | ⟨rfl,rfl⟩ | ⟨rfl,rfl⟩<;>(clear h;show _=_;kernel_rfl)
theorem mixed:Tryz.prog.follows .mixedOrders=true:=by kernel_rfl
@[reducible] noncomputable def Z:Seat D:=⟨Tryz.prog,S,T,mixed,aI1,aI7⟩
abbrev hh1:=(a1 (aLf cStr):ACod D _)
abbrev hh2:Shp D:=(R1 cBool)
abbrev hh3:List (Option TypeId):=[none,none,some 280]
abbrev hh4:=(l1 cd_check_finder:mM D _)
abbrev hh5:=(a1 (aLf cI):ACod D _)
abbrev hh6:=(aJ cd_Cursor (l1 cI):mM D _)
abbrev hh7:=(l1 cd_ref12_list:mM D _)
abbrev XC:=(a1 (aAgg cd_Cursor):ACod D _)
abbrev hh9:=(a1 (aAgg cd_AVal):ACod D _)
abbrev pI:List (Option TypeId):=[none,some 280]
abbrev oK:=(l1 cBool:mM D _)
abbrev hh12:Shp D:=(shr [.slot 0 true (nn 7)] (l1 cd_AVal))
abbrev iL:=(l1 cI:mM D _)
abbrev aiI:Shp D:=(shr [.slot 0 true (nn 7), s0 1] (aJ cd_AVal iL))
abbrev Qq:=(aCons (aAgg cd_Cursor) hh5:ACod D _)
abbrev QB:=(aCons (aAgg cd_Schema) hh1:ACod D _)
abbrev atw:List It:=[s0 0, .slot 1 true (nn 6), s0 2]
abbrev ac3:Shp D:=(shr [s0 0, s0 1] (aJ cStr iL))
abbrev Qw:=(a1 (aLf (cInt .u64)):ACod D _)
abbrev ayJ:Shp D:=(shr [.slot 0 true (nn 4), .slot 1 true (nn 6), s0 2] (aJ cd_Raw hh6))
abbrev WV:=(aJ cI (l1 cd_LPair):mM D _)
abbrev jE:Shp D:=(R1 cI)
abbrev apX:Shp D:=(shr [.slot 0 true (nn 6)] (l1 cd_Cursor))
abbrev aC9:Shp D:=(shr [.slot 0 true (nn 7), s0 1, .cells 0 (nn 8)] (aJ cd_AVal (aJ cI (l1 cd_tagdec_reader))))
abbrev ajE:List It:=[.slot 0 true (nn 5), s0 1]
abbrev U7:=(aCons (aLf cStr) hh1:ACod D _)
abbrev afL:=(b1 (bCells cd_tagdec_reader):BCod D _)
abbrev XK:=(aJ cI (l1 cd_LSlot):mM D _)
abbrev ayi:=(aCons (aLf cStr) (a1 (aAgg cd_Limits)):ACod D _)
abbrev XR:=(aJ cI (l1 mQ):mM D _)
abbrev apC:Shp D:=(shr [.slot 0 true (nn 6), s0 1] hh6)
abbrev Dn:=(a1 (aPtr 0):ACod D _)
abbrev TY:=(a1 (aAgg cd_Frame):ACod D _)
abbrev Qr:=(b1 (bCells cStr):BCod D _)
abbrev aEN:=(aCons (aOwn 0) (aCons (aLf cI) (aCons (aLf cI) (aCons (aLf cI) (a1 (aFn 250 []))))):ACod D _)
abbrev aCT:=(aCons (aOwn 0) (aCons (aLf cI) (aCons (aLf cI) (aCons (aLf cI) (a1 (aFn 340 []))))):ACod D _)
abbrev aE1:=(aCons (aOwn 0) (aCons (aLf cI) (aCons (aLf cI) (aCons (aLf cI) (a1 (aFn 456 []))))):ACod D _)
abbrev aub:=(aCons (aAgg cd_Schema) (a1 (aLf cd_LTape)):ACod D _)
abbrev XI:=(a1 (aAgg cd_Schema):ACod D _)
abbrev acH:=(b1 (bCells cd_AField):BCod D _)
abbrev aAm:Shp D:=(shr [.slot 0 true (nn 7), s0 1] (aJ cd_AVal oK))
abbrev abf:=(aCons (aLf cI) hh5:ACod D _)
abbrev anG:Shp D:=(shr [.row 0 309] (l1 cd_LSlot))
abbrev apD:Shp D:=(shr [.row 0 341] (l1 cd_LPair))
abbrev aFM:Shp D:=(shr [.slot 0 true (nn 7), .slot 1 true (nn 6), s0 2] (aJ cd_AVal hh6))
abbrev aoK:Shp D:=(shr [.row 0 316] (l1 mQ))
abbrev QG:=(b1 (bCells cI):BCod D _)
abbrev aos:=(b1 (bRow 309 D.Slot prj_Slot):BCod D _)
abbrev apU:=(b1 (bRow 341 D.Pair prj_Pair):BCod D _)
abbrev aiT:=(aCons (aAgg cd_AVal) hh9:ACod D _)
abbrev ayA:=(aCons (aLf cStr) (aCons (aPtr 0) (a1 (aPtr 1))):ACod D _)
abbrev aFU:=(aCons (aAgg cd_Prog) (aCons (aAgg cd_AVal) (aCons (aAgg cd_Op) hh9)):ACod D _)
abbrev QA:=(aJ cI oK:mM D _)
abbrev apr:=(b1 (bRow 316 D.Raw prj_Raw):BCod D _)
abbrev azr:=(aCons (aAgg cd_Schema) (a1 (aAgg cd_AField)):ACod D _)
abbrev aaz:=(a1 (aAgg cd_Op):ACod D _)
abbrev aAk:=(aCons (aAgg cd_Plan) (aCons (aLf cI) hh9):ACod D _)
abbrev aDB:Shp D:=(shr [.slot 0 true (nn 3), s0 1] (aJ cd_Service oK))
abbrev agH:=(aJ cI iL:mM D _)
abbrev aFm:Shp D:=(shr [s0 0, s0 1, s0 2] (aJ cStr (aJ cStr oK)))
abbrev Dp:Shp D:=(R1 cStr)
abbrev anv:=(l1 (XV 3 [] cd_Lstr):mM D _)
abbrev aCZ:Shp D:=(shr [.slot 0 true (nn 8), s0 1] (aJ cd_Op oK))
abbrev ao6:=(aJ cI (l1 cd_Lstr):mM D _)
abbrev aeS:List (Option TypeId):=[some 138,some 142]
abbrev az1:List (Option TypeId):=[none,none,none,none,none,some 309,none]
abbrev aAs:Shp D:=(shr atw (aJ (cInt .u64) hh6))
abbrev agx:Shp D:=(R1 yO)
abbrev aib:=(a1 (aLf cd_Lstr):ACod D _)
abbrev aHG:=(aCons (aAgg cd_Plan) (aCons (aAgg cd_Prog) (aCons (aAgg cd_AVal) (aCons (aAgg cd_Op) XC))):ACod D _)
abbrev ayZ:List It:=[.slot 0 true [none,none], s0 1]
abbrev abQ:=(aJ cI hh7:mM D _)
abbrev aoz:=(aJ cI (l1 cStr):mM D _)
abbrev adV:=(aJ cI hh4:mM D _)
abbrev aua:=(aJ cI (l1 Ul):mM D _)
abbrev aaJ:=(l1 cd_AVal:mM D _)
abbrev avE:=(l1 cd_tagdec_reader:mM D _)
abbrev aHn:Shp D:=(shr [s0 0, s0 1, .slot 2 true (nn 6), s0 3] (aJ cI (aJ cI hh6)))
abbrev aHK:=(aCons (aAgg cd_Schema) (aCons (aAgg cd_Message) (a1 (aLf cd_Mstr_bool))):ACod D _)
abbrev ayY:=(aCons (aLf cd_LNote) hh1:ACod D _)
abbrev ayw:List (Option TypeId):=[none,none,some 200,none,none]
abbrev aDe:=(b1 (aAL D.oW pM):BCod D _)
abbrev aGJ:=(aCons (aAgg cd_Schema) (aCons (aAgg cd_Message) (a1 (aLf cd_Lbool))):ACod D _)
abbrev aAZ:=(aCons (aLf cd_Lstr) hh1:ACod D _)
abbrev aGO:=(aCons (aAgg cd_Plan) (aCons (aLf cStr) (aCons (aAgg cd_AVal) ayi)):ACod D _)
abbrev aAF:Shp D:=(shr [.cells 0 hh3] hh4)
abbrev aA2:=(l1 cd_LFrame:mM D _)
abbrev aC0:Shp D:=(shr ajE (aJ qC oK))
abbrev aeR:List It:=[s0 0, s0 1]
abbrev aGr:=(aCons (aPtr 0) (aCons (aAgg cd_Prog) (aCons (aAgg cd_AVal) aaz)):ACod D _)
abbrev avr:List (Option TypeId):=[some 9,some 9,some 9]
abbrev aAH:=(aJ (cInt .u64) iL:mM D _)
abbrev awR:=(l1 cd_Plan:mM D _)
abbrev aAK:=(a1 (aAgg cd_Raw):ACod D _)
abbrev azq:=(b1 (bCells Em):BCod D _)
abbrev aHa:Shp D:=(shr [s0 0, s0 1, s0 2, s0 3] (aJ cI (aJ cI agH)))
abbrev azK:=(a1 (aLf (cInt .u8)):ACod D _)
abbrev aAd:=(a1 (aAgg cd_Status):ACod D _)
abbrev aGF:Shp D:=(shr [.slot 0 true (nn 4), s0 1] (aJ cd_Head iL))
abbrev asD:=(aCons (aAgg cd_Message) hh5:ACod D _)
abbrev arE:Shp D:=(shr atw (aJ cStr hh6))
abbrev awD:=(aCons (aAgg cd_Cursor) XC:ACod D _)
abbrev aBo:Shp D:=(shr [s0 0, s0 1, s0 2] (aJ (cInt .u64) agH))
abbrev akB:=(a1 (aAgg cd_Head):ACod D _)
abbrev al2:=(l1 cd_frame_taker:mM D _)
abbrev avH:Shp D:=(shr [.cells 0 pI] hh7)
abbrev atp:=(aCons (aLf cd_LNote) hh5:ACod D _)
abbrev auV:=(b1 (bCells cd_Mstr_bool):BCod D _)
abbrev aCs:=(aCons (aAgg cd_Plan) (aCons (aAgg cd_Op) aAK):ACod D _)
abbrev aCf:Shp D:=(shr [.slot 0 false [some 316]] (l1 mQ))
abbrev aBE:=(aJ cI (aJ (cInt .u64) (l1 (cInt .u64))):mM D _)
abbrev av8:=(b1 (bCells (cInt .u64)):BCod D _)
abbrev aCw:=(aCons (aPtr 0) (aCons (aPtr 1) (a1 (aPtr 2))):ACod D _)
abbrev aB4:=(aCons (aLf cd_LAField) (a1 (aFn 363 [0,1,2])):ACod D _)
abbrev aBz:=(aCons (aAgg cd_Schema) (a1 (aAgg cd_Service)):ACod D _)
abbrev aCj:=(aCons (aAgg cd_Plan) (aCons (aLf cStr) ayi):ACod D _)
abbrev aky:Shp D:=(R1 (cInt .u64))
abbrev aBD:Shp D:=(shr [.slot 0 true (nn 4)] (l1 cd_Limits))
abbrev aBZ:=(aCons (aLf nD) (a1 (aFn 285 [0,1,2])):ACod D _)
abbrev aBL:=(aCons (aAgg cd_Plan) (aCons (aLf cI) Qw):ACod D _)
abbrev aCl:=(aCons (aPtr 0) (aCons (aLf cd_LSpan) abf):ACod D _)
abbrev aCx:=(aCons (aAgg cd_Schema) (a1 (aAgg cd_Tape)):ACod D _)
abbrev aCg:=(aCons (aLf cd_Lstr) (a1 (aFn 211 [0,1])):ACod D _)
abbrev ams:List (Option TypeId):=[none,some 193,none]
abbrev aB8:Shp D:=(shr [.slot 0 true (nn 8)] (l1 cd_Op))
abbrev Ap:List It:=[s0 5]
abbrev agv:=(l1 cd_Enum:mM D _)
abbrev adY:=(l1 cd_Prog:mM D _)
abbrev amr:=(aJ cI awR:mM D _)
abbrev al4:=(aJ cI aA2:mM D _)
theorem aBm:∃j,Tryz.prog.info? 48=some j/\j.size=2:=Qb3.1 (show(Tryz.prog.info? 48).map (·.size)=some 2 by kernel_rfl)
theorem aHY:liesAt Tryz.prog Tryz.prog.depth 48 (2 / Tryz.prog.cellsOf 48) 0 48 1=true:=by kernel_rfl
set_option maxHeartbeats 1000000 in
set_option maxRecDepth 100000 in
theorem U3 (b:Nat)(w:World)(d:w.cell? ⟨b,0,none⟩=some (.pointer (some ⟨b,0,none⟩))):
  Calls Tryz.prog 37 #[.pointer (some ⟨b,0,none⟩)] w fun e a=>e= .returned (.tuple #[])/\a=w:=by
 obtain⟨j,c,_⟩:=aBm
 go_enter func37,ntmps37
 go_wp2
 rw[Lib.run_neq_ptr_same w _ underlying45 c]
 go_wp2
 go_end0
 exact⟨rfl,rfl⟩
set_option maxHeartbeats 1000000 in
set_option maxRecDepth 100000 in
theorem Qo (b:Nat)(w:World)(h:w.cell? ⟨b,0,none⟩=some (.pointer none))(a:w.shape? b=some (48,2))(g:w.frozen? ⟨b,0,none⟩=false):
  Calls Tryz.prog 37 #[.pointer (some ⟨b,0,none⟩)] w fun e f=>e= .returned (.tuple #[])/\f=w.setCell ⟨b,0,none⟩ (.pointer (some ⟨b,0,none⟩)):=by
 obtain⟨j,d,c⟩:=aBm
 go_enter func37,ntmps37
 go_wp2
 rw[Lib.run_to_unsafe w ⟨b,0,none⟩ underlying45 underlying157 d (by rw[c];decide) a (Nat.zero_lt_succ 1)];simp only[Result.andThen];rw[Oper.upon_value]
 go_wp2
 rw[run_callFunc_extern func76 dM dM dM (e:=Extern.AbiNoEscape.same) dM];rw[Lib.run_noEscape];simp only[Result.andThen];rw[Oper.upon_value]
 go_wp2
 rw[Lib.run_from_unsafe w ⟨b,0,none⟩ underlying157 underlying45 d a aHY];simp only[Result.andThen];rw[Oper.upon_value]
 go_wp2
 go_end0
 exact⟨rfl,rfl⟩
theorem alP {D:Type}{S:Sh D}:CtOk Tryz.prog S 37 (L9 48):=aiq (enters_of func37 dM dM) U3 Qo
theorem ahc:CtOk Tryz.prog (TN Tryz.prog fun _=>none) 109 (oM 2 16 198):=tu dM func109 ntmps109 aj dM dM (fun r a=>by kernel_rfl)
set_option maxHeartbeats 1000000 in
set_option maxRecDepth 100000 in
theorem VY (s:ByteArray)(c:Int)(w:World):
  Calls Tryz.prog 182 #[.string s, .int .u8 c] w fun e a=>e= .returned (.int .i64 (Lib.indexByte s.data.toList c.toNat.toUInt8))/\a=w:=by
 go_enter func182,ntmps182
 go_wp2
 rw[run_callFunc_extern func252 dM dM dM (e:=Extern.BytealgIndexByte.indexByte) dM,Lib.run_indexByteString];simp only[Result.andThen];rw[Oper.upon_value]
 go_wp2
 go_ret
 exact⟨rfl,rfl⟩
theorem OG {D:Type}{S:Sh D}:CtOk Tryz.prog S 182 (zC xy):=TC (enters_of func182 dM dM) VY
set_option maxHeartbeats 1000000 in
set_option maxRecDepth 100000 in
theorem count_walk (s:ByteArray)(c:UInt8)(w:World):
  Calls Tryz.prog 235 #[.string s, .string ⟨#[c]⟩] w fun e a=>e= .returned (.int .i64 (Lib.countByte s.data.toList c))/\a=w:=by
 go_enter func235,ntmps235
 go_wp2
 rw[run_callFunc_extern func327 dM dM dM (e:=Extern.BytealgCount.count) dM,Lib.run_countString];simp only[Result.andThen];rw[Oper.upon_value]
 go_wp2
 go_ret
 exact⟨rfl,rfl⟩
theorem alp {D:Type}{S:Sh D}:CtOk Tryz.prog S 235 (zC WL):=aiA (enters_of func235 dM dM) count_walk
theorem ajm:CtOk Tryz.prog (TN Tryz.prog fun _=>none) 244 (oM 4 40 316):=tu dM func244 ntmps244 aj dM dM (fun r a=>by kernel_rfl)
theorem aid:CtOk Tryz.prog (TN Tryz.prog fun _=>none) 338 (oM 8 136 309):=tu dM func338 ntmps338 aj dM dM (fun r a=>by kernel_rfl)
theorem ai_:CtOk Tryz.prog (TN Tryz.prog fun _=>none) 426 (oM 7 128 73):=tu dM func426 ntmps426 aj dM dM (fun r a=>by kernel_rfl)
theorem akg:CtOk Tryz.prog (TN Tryz.prog fun _=>none) 454 (oM 14 256 341):=tu dM func454 ntmps454 aj dM dM (fun r a=>by kernel_rfl)
theorem ajK:CtOk Tryz.prog (TN Tryz.prog fun _=>none) 541 (oM 16 240 75):=tu dM func541 ntmps541 aj dM dM (fun r a=>by kernel_rfl)
def afQ:bi Z:=⟨37,L9 48,alP⟩
def PY:bi Z:=⟨182,zC xy,OG⟩
def azD:bi Z:=⟨235,zC WL,alp⟩
def zq:bi Z:=aHz Z [afQ] 15 func15 dM
def Nb:bi Z:=aHz Z [] 16 func16 dM
def aq1:List (Nat×Ct U):=[(37,L9 48),(109,oM 2 16 198),(182,zC xy),(235,zC WL),(244,oM 4 40 316),(338,oM 8 136 309),(426,oM 7 128 73),(454,oM 14 256 341),(541,oM 16 240 75)]
theorem VV:Tryz.prog.follows .mixedOrders=true:=by kernel_rfl
theorem aDX:∀p∈aq1,CtOk Tryz.prog (TN Tryz.prog fun _=>none) p.1 p.2:=Qbp.2 ⟨alP,Qbp.2 ⟨ahc,Qbp.2 ⟨OG,Qbp.2 ⟨alp,Qbp.2 ⟨ajm,Qbp.2 ⟨aid,Qbp.2 ⟨ai_,Qbp.2 ⟨akg,Qbp.2 ⟨ajK,fun _ h=>nomatch h⟩⟩⟩⟩⟩⟩⟩⟩⟩
def aHV:U:= .mk 5 [[.str [71,101,116], .str [77], .str [77], .int .i64 1, .dat (.mk 8 [])]]
def aGu:U:= .mk 8 [[.int .i64 1, .str [120], .str [], .int .i64 3, .int .i64 0, .int .i64 4, .int .i64 (-1), .int .i64 (-1)]]
def aBI:U:= .mk 8 [[.int .i64 1, .int .i64 4, .int .u64 5, .str [], .dat (.mk 7 []), .dat (.mk 14 []), .dat (.mk 8 []), .dat (.mk 4 [])]]
def asG:U:= .mk 3 [[.str [83], .dat aHV, .dat (.mk 8 [])]]
def auR:U:= .mk 3 [[.str [77], .dat aGu, .int .i64 0]]
def aGU:U:= .mk 16 [[.int .i64 1, .str [120], .int .i64 3, .int .i64 0, .int .i64 4, .str [], .str [], .bool false, .int .i64 0, .int .u64 0, .str [], .dat (.mk 7 []), .dat (.mk 14 []), .dat (.mk 8 []), .dat (.mk 4 []), .dat (.mk 8 [])]]
def atS:U:= .mk 5 [[.str [77], .dat aGU, .dat (.mk 2 []), .dat (.mk 1 []), .dat (.mk 8 [])]]
def aBu:List (Sl U):=[.one (.agg [.dat atS, .val (.slice none 0 0), .dat asG])]
def aBS:List (Bk U):=[]
def aCD:Res:=(.one (.lf (.val (.slice none 0 0))),[],[])
theorem aJd:qj (goU Tryz.prog aq1 60 93) aBu aBS aCD=true:=by kernel_rfl
def aqS:List (Nat×Ct U):=(93,aaR aBu aBS aCD)::aq1
theorem aFH:∀p∈aqS,CtOk Tryz.prog (TN Tryz.prog fun _=>none) p.1 p.2:=F7 VV Cj aDX aJd
def aBN:List (Sl U):=[.one (.agg [.dat auR, .val (.slice none 0 0)]), .one (.lf (.str [77])), .one (.agg [.int .i64 10, .int .u64 0, .str [], .val (.slice none 0 0), .val (.slice none 0 0), .val (.slice none 0 0), .val (.slice none 0 0)]), .one (.lf (.str [8,5])), .one (.agg [.int .i64 65536, .int .i64 16, .int .i64 4096, .int .i64 4096])]
def aCe:List (Bk U):=[]
def aCi:Res:=(.Dh [.agg [.int .i64 10, .int .u64 0, .str [], .val (.slice none 0 0), .val (.slice none 0 0), .own 0, .val (.slice none 0 0)], .lf (.int .i64 0)],[(0, .row 309 aBI)],[])
theorem aIZ:qj (goU Tryz.prog aqS 60 117) aBN aCe aCi=true:=by kernel_rfl
def aru:List (Nat×Ct U):=(117,aaR aBN aCe aCi)::aqS
theorem aEu:∀p∈aru,CtOk Tryz.prog (TN Tryz.prog fun _=>none) p.1 p.2:=F7 VV Cj aFH aIZ
def aCr:List (Sl U):=[.one (.agg [.dat auR, .val (.slice none 0 0)])]
def aBn:List (Bk U):=[]
def aBG:Res:=(.one (.lf (.int .i64 0)),[],[])
theorem aJf:qj (goU Tryz.prog aru 60 226) aCr aBn aBG=true:=by kernel_rfl
def awF:List (Nat×Ct U):=(226,aaR aCr aBn aBG)::aru
theorem aEb:∀p∈awF,CtOk Tryz.prog (TN Tryz.prog fun _=>none) p.1 p.2:=F7 VV Cj aEu aJf
def aBK:List (Sl U):=[.one (.agg [.dat auR, .val (.slice none 0 0)]), .one (.lf (.str [77])), .one (.agg [.int .i64 10, .int .u64 0, .str [], .dat (.mk 7 []), .dat (.mk 14 []), .dat aBI, .dat (.mk 4 [])])]
def aBB:List (Bk U):=[]
def aBy:Res:=(.Dh [.lf (.str [8,5]), .lf (.int .i64 0)],[],[])
theorem aI5:qj (goU Tryz.prog awF 60 97) aBK aBB aBy=true:=by kernel_rfl
def arF:List (Nat×Ct U):=(97,aaR aBK aBB aBy)::awF
theorem aD0:∀p∈arF,CtOk Tryz.prog (TN Tryz.prog fun _=>none) p.1 p.2:=F7 VV Cj aEb aI5
def aBJ:List (Sl U):=[.one (.agg [.dat atS, .val (.slice none 0 0), .dat asG]), .one (.agg [.str [83,47,71,101,116], .int .i64 1, .int .i64 0, .int .i64 0]), .one (.lf (.dat (.mk 1 [[.str [8,5]]])))]
def aB7:List (Bk U):=[]
def aBX:Res:=(.Dh [.lf (.own 0), .agg [.int .i64 0, .str []]],[(0, .row 9 (.mk 1 [[.str [8,5]]]))],[])
theorem aJc:qj (goU Tryz.prog arF 60 51) aBJ aB7 aBX=true:=by kernel_rfl
def awN:List (Nat×Ct U):=(51,aaR aBJ aB7 aBX)::arF
theorem aFD:∀p∈awN,CtOk Tryz.prog (TN Tryz.prog fun _=>none) p.1 p.2:=F7 VV Cj aD0 aJc
def aCm:List (Sl U):=[.one (.agg [.dat atS, .val (.slice none 0 0), .dat asG]), .one (.agg [.str [83,47,71,101,116], .dat (.mk 1 [[.str [8,5]]]), .dat (.mk 1 [[.str [8,5]]]), .int .i64 0, .str []])]
def aCu:List (Bk U):=[]
def aCA:Res:=(.one (.lf (.int .i64 0)),[],[])
theorem aI8:qj (goU Tryz.prog awN 60 12) aCm aCu aCA=true:=by kernel_rfl
def aCy:List (Nat×Ct U):=(12,aaR aCm aCu aCA)::awN
theorem aED:∀p∈aCy,CtOk Tryz.prog (TN Tryz.prog fun _=>none) p.1 p.2:=F7 VV Cj aFD aI8
theorem avc:qj (goU Tryz.prog aCy 60 8) [] [] (.one (.lf (.bool true)),[],[])=true:=by kernel_rfl
def az2:bi Z:=⟨8,ctB D true,aDR rfl (al9 VV Cj aED (G8 avc)) (UT avc) rfl⟩
theorem S9 {A:Type}{c:A->A->Bool}(d:yg c){l m:List A}(h:o_ c l m):l.Perm m:=by
 haveI:DecidableEq A:=fun a b=>Classical.propDecidable (a=b)
 refine List.perm_iff_count.2 fun a=> ?_;have e:∀n:List A,n.count a=(n.filter (A7 c a)).count a:=fun n=>(List.count_filter (d.rfl' a)).symm
 rw[e l,e m,h a]
def akh (x:Int):Pg Bool:=.ret (x !=x)
def acJ (x:Int):=(akh x).val
def atU:bi Z:=E0 [] [] hh5 hh2 [] func348 1 akh
def aFt (x:Int)(y:Int):Pg Int:=.lt (acJ y) fun a=> .br (acJ x) (.br a (.ret 0) (.ret (-1))) (.br a (.ret 1) (.br (decide (x < y)) (.ret (-1)) (.br (decide (y < x)) (.ret 1) (.ret 0))))
def GI (x:Int)(y:Int):=(aFt x y).val
def aaS:bi Z:=E0 [atU] [] abf jE [] func251 1 (u2 aFt)
theorem Bz (x y:Int):GI x y=if x < y then -1 else if y < x then 1 else 0:=by
 unfold GI aFt acJ akh;simp only[aT,aF,ay,bne_self_eq_false,Z8,Xh,Qbt,if_false]
theorem I5 (x y:Int):decide (GI x y < 0)=decide (x < y):=by
 grind [Bz]
def rwC (a:Raw)(b:Raw):Pg Int:=.ret (GI a.Num b.Num)
def Gs (a:Raw)(b:Raw):=(rwC a b).val
def Vl:bi Z:=E1 [aaS] [] (aCons (aAgg cd_Raw) aAK) jE [] func250 1 (u2 rwC) fun a=>True
theorem Bi:yg (ltOf Gs):=amn (fun a=>a.Num) fun a b=>I5 a.Num b.Num
def rwSw (a:Int)(b:Int)(n:Int)(l:List Raw):Pg (List Raw):=apM zf a b n l
theorem ayT (a:Int)(b:Int)(n:Int)(l:List Raw)(h:swQ a b n l.length):Is (rwSw a b n l):=
 aBT h
def aEg:bi Z:=ZY [Vl] [jS 1 (bD (fun b=>[s0 10, .row (pid (b 0)) 316]) XR)] aEN apr aoK [] func555 0 (fun a=>rwSw a.1.2.1 a.1.2.2.1 a.1.2.2.2.1 a.2) (fun a=>swQ a.1.2.1 a.1.2.2.1 a.1.2.2.2.1 a.2.length) fun a h=>ayT a.1.2.1 a.1.2.2.1 a.1.2.2.2.1 a.2 h
def rwRo (a:Int)(m:Int)(b:Int)(l:List Raw):Pg (List Raw):=aD_ zf a m b l
theorem azh (a:Int)(m:Int)(b:Int)(l:List Raw)(h:roQ a m b l.length):Is (rwRo a m b l):=
 aCn h
def aCW:bi Z:=ZY [Vl,aEg] [jS 2 (bD (fun b=>[s0 10, s0 11, .row (pid (b 0)) 316]) (aJ cI XR))] aEN apr aoK [] func518 0 (fun a=>rwRo a.1.2.1 a.1.2.2.1 a.1.2.2.2.1 a.2) (fun a=>roQ a.1.2.1 a.1.2.2.1 a.1.2.2.2.1 a.2.length) fun a h=>azh a.1.2.1 a.1.2.2.1 a.1.2.2.2.1 a.2 h
def rwIn (a:Int)(b:Int)(l:List Raw):Pg (List Raw):=aEt Gs (fun _ _=>True) zf a b l
def aHP (a:Int)(b:Int)(l:List Raw):=(rwIn a b l).val
theorem ayW (a:Int)(b:Int)(l:List Raw)(h:inQ (fun _ _=>True) a b l):Is (rwIn a b l):=
 aBP Bi h
def aEp:bi Z:=vP Z [Vl] [jS 1 (bD (fun b=>[s0 8, .row (pid (b 0)) 316]) XR),jS 4 (bD (fun b=>[s0 9, .row (pid (b 0)) 316]) XR)] (jG (aCons (aOwn 0) (aCons (aLf cI) (aCons (aLf cI) (a1 (aFn 250 []))))) apr) (qw (n:=53) rfl) aoK [] func459 ntmps459 dM 0 rfl (fun a=>rwIn (a.1.2.1) (a.1.2.2.1) (a.2)) (fun a=>some (inQ (fun _ _=>True) (a.1.2.1) (a.1.2.2.1) (a.2))) (fun a e _=>by kernel_rfl) (fun a=>aHP (a.1.2.1) (a.1.2.2.1) (a.2)) (fun a h=>⟨ayW (a.1.2.1) (a.1.2.2.1) (a.2) h,rfl⟩)
def aHp (c:Int->Int->Int->List Raw->List Raw)(Qg:Int->Int->Int->List Raw->Prop)(a:Int)(m:Int)(b:Int)(l:List Raw):Pg (List Raw):=axB Gs (fun _ _=>True) zf c Qg a m b l
def Qg (c:Nat)(a:Int)(m:Int)(b:Int)(l:List Raw):Prop:=XH Gs (fun _ _=>True) c a m b l
def aqr:Nat->(Int->Int->Int->(List Raw)->(List Raw))
 | 0=>(fun _ _ _ _=>default)
 | c+1=>(fun a m b l=>(aHp ((aqr c)) (Qg c) a m b l).val)
def alY (a:Int)(m:Int)(b:Int)(l:List Raw):List Raw:=(aqr ((b - a).toNat+1)) a m b l
theorem JX:∀(c:Nat) (a m b:Int) (l:List Raw),Qg c a m b l->mrg Gs a b l (aqr c a m b l)
 | 0,_,_,_,_,h=>Y8 h
 | c+1,_,_,_,_,h=>(aiW (IW:=aqr c) (MJ:=Qg c) (d:=zf) Bi (fun _ _ _ _ h=>h) (JX c) h).2
abbrev arC (a:Nat):=aHp ((aqr a)) (Qg a)
theorem ay2 (c:Nat)(a:Int)(m:Int)(b:Int)(l:List Raw)(h:Qg (c+1) a m b l):Is (arC c a m b l):=
 (aiW Bi (fun _ _ _ _ h=>h) (JX c) h).1
theorem ati:∀c,CtOk Z.P Z.S 460 (qQ (jG (aCons (aOwn 0) (aCons (aLf cI) (aCons (aLf cI) (aCons (aLf cI) (a1 (aFn 250 [])))))) (b1 (bRow 316 D.Raw prj_Raw))) (shr [.row 0 316] (l1 mQ)) 0 [] (fun a=>some (Qg c (a.1.2.1) (a.1.2.2.1) (a.1.2.2.2.1) (a.2))) (fun a=>(aqr c) (a.1.2.1) (a.1.2.2.1) (a.1.2.2.2.1) (a.2)))
 | 0=>iy func460 dM (fun a h=>Y8 h)
 | c+1=>by
  have d:=ati c;exact Rk [Vl,aCW,⟨460,_,d⟩] [jS 3 (bD (fun b=>[s0 10, s0 11]) (aJ cI (l1 cI))),jS 9 (bD (fun b=>[s0 13, .row (pid (b 0)) 316]) (aJ cI (l1 mQ))),jS 15 (bD (fun b=>[s0 14, s0 15]) (aJ cI (l1 cI))),jS 21 (bD (fun b=>[s0 17, .row (pid (b 0)) 316]) (aJ cI (l1 mQ))),jS 33 (bD (fun b=>[s0 20, s0 21]) (aJ cI (l1 cI))),jS 100008 (bD (fun b=>[s0 10]) (l1 cI)),jS 100012 (bD (fun b=>[.row (pid (b 0)) 316]) (l1 mQ)),jS 100020 (bD (fun b=>[s0 14]) (l1 cI)),jS 100024 (bD (fun b=>[.row (pid (b 0)) 316]) (l1 mQ)),jS 100032 (bD (fun b=>[s0 20, s0 21]) (aJ cI (l1 cI))),jS 100038 (bD (fun b=>[s0 20]) (l1 cI)),jS 100041 (bD (fun b=>[.row (pid (b 0)) 316]) (l1 mQ)),jS 100043 (bD (fun b=>[.row (pid (b 0)) 316]) (l1 mQ))] func460 ntmps460 (fun a=>arC c a.1.2.1 a.1.2.2.1 a.1.2.2.2.1 a.2) (fun a h=>⟨ay2 c a.1.2.1 a.1.2.2.1 a.1.2.2.2.1 a.2 h,rfl⟩) (qw (n:=220) rfl)
def aEY:bi Z:=⟨460,qQ (jG aEN apr) aoK 0 [] (fun a=>some (XH Gs (fun _ _=>True) (((a.1.2.2.2.1) - (a.1.2.1)).toNat+1) (a.1.2.1) (a.1.2.2.1) (a.1.2.2.2.1) (a.2))) (fun a=>alY (a.1.2.1) (a.1.2.2.1) (a.1.2.2.2.1) (a.2)),oh (fun n=>((ati n))) _ _ (fun a h=>⟨((a.1.2.2.2.1) - (a.1.2.1)).toNat+1,h,rfl⟩)⟩
def rwSt (n:Int)(l:List Raw):Pg (List Raw):=aGG Gs (fun _ _=>True) zf alY n l
def aGQ (n:Int)(l:List Raw):=(rwSt n l).val
theorem ayn (n:Int)(l:List Raw)(h:stQ (fun _ _=>True) n l):Is (rwSt n l):=
 (ajb (IW:=alY) Bi (fun a m b l h=>JX _ a m b l h) h).1
def aDt:bi Z:=ZY [Vl,aEp,aEY] [jS 2 (bD (fun b=>[s0 7, s0 8, .row (pid (b 0)) 316]) (aJ cI XR)),jS 7 (bD (fun b=>[s0 6, .row (pid (b 0)) 316]) XR),jS 9 (bD (fun b=>[s0 7, s0 8, .row (pid (b 0)) 316]) (aJ cI XR)),jS 100006 (bD (fun b=>[s0 7, .row (pid (b 0)) 316]) XR),jS 100013 (bD (fun b=>[s0 7, .row (pid (b 0)) 316]) XR)] (aCons (aOwn 0) (aCons (aLf cI) (a1 (aFn 250 [])))) apr aoK [] func347 0 (fun a=>rwSt a.1.2.1 a.2) (fun a=>stQ (fun _ _=>True) a.1.2.1 a.2) fun a h=>ayn a.1.2.1 a.2 h
def rwSo (l:List Raw):Pg (List Raw):=.ob (stQ (fun(x b:Raw)=>True) (↑l.length:Int) l) (.lt (aGQ (↑l.length:Int) l) fun a=> aL a (.ret a))
def lm (l:List Raw):=(rwSo l).val
theorem ayj (l:List Raw)(h:srtQ (fun _ _=>True) l):Is (rwSo l):=
 is_ob ((⟨h,rfl⟩)) (is_lt fun b a=>is_as fun _=>is_ret)
def aDc:bi Z:=ZY [Vl,aDt] [] (aCons (aOwn 0) (a1 (aFn 250 []))) apr aoK [] func249 0 (fun a=>rwSo a.2) (fun a=>srtQ (fun _ _=>True) a.2) fun a h=>ayj a.2 h
theorem PH (l:List Raw)(h:srtQ (fun _ _=>True) l):Sorted Gs l (lm l):=
 (ajb (q:=(fun _ _=>True)) (d:=zf) (IW:=alY) Bi (fun a m b l h=>JX _ a m b l h) ⟨h,rfl⟩).2
theorem ao0 {l:List Raw}(h:srtQ (fun _ _=>True) l):(lm l).Perm l:=(S9 Bi (PH l h).2.1).symm
theorem amR {l:List Raw}(h:l.length<=1048576):(lm l).Perm l:=ao0 ⟨by omega,fun _ _ _ _=>trivial⟩
def path (s:Str)(m:Str):Pg (List UInt8):=.ob (List.length s+1<=9223372036854775807) (.lt (s++[47]) fun(a:List UInt8)=> .ob (a.length+List.length m<=9223372036854775807) (.ret (a++m)))
def asA (s:Str)(m:Str):=(path s m).val
def aDa:bi Z:=E1 [] [] U7 Dp [] func55 1 (u2 path) fun a=>a.1.length+a.2.length<=1000000

def byteAt (s:Str)(p:Nat):Nat:=(s.getD p 0).toNat
def NM (s:Str)(p:Nat):Bool:=decide (p < s.length)
def kT (s:Str)(p:Nat):Bool:=NM s p && (decide (128<=byteAt s p) && decide (byteAt s p<=191))
def szN (a b1:Nat)(c d b e:Bool):Int:=
 if a < 128 then 1 else if 194<=a/\a<=223/\d=true then 2 else if a=224/\c=true/\160<=b1/\b1<=191/\b=true then 3
 else if a=237/\c=true/\128<=b1/\b1<=159/\b=true then 3 else if 225<=a/\a<=239/\a≠237/\d=true/\b=true then 3
 else if a=240/\c=true/\144<=b1/\b1<=191/\b=true/\e=true then 4 else if 241<=a/\a<=243/\d=true/\b=true/\e=true then 4
 else if a=244/\c=true/\128<=b1/\b1<=143/\b=true/\e=true then 4 else 0
def dcN (a b1 b d:Nat)(c e f:Bool):Nat×Nat:=
 if a < 128 then(a,1)
 else if a / 32==6 && c then(if (a % 32)*64+b1 % 64≥128 then((a % 32)*64+b1 % 64,2)else(65533,1))
 else if a / 16==14 && c && e then(if (a % 16)*4096+(b1 % 64)*64+b % 64≥2048 && Utf8.valid (((a % 16)*4096+(b1 % 64)*64+b % 64:Nat):Int)then((a % 16)*4096+(b1 % 64)*64+b % 64,3)else(65533,1))
 else if a / 8==30 && c && e && f then(if (a % 8)*262144+(b1 % 64)*4096+(b % 64)*64+d % 64≥65536 && Utf8.valid (((a % 8)*262144+(b1 % 64)*4096+(b % 64)*64+d % 64:Nat):Int)then((a % 8)*262144+(b1 % 64)*4096+(b % 64)*64+d % 64,4)else(65533,1))
 else(65533,1)
theorem QR (s:Str)(p:Nat):Utf8.decode ⟨s.toArray⟩ p=dcN (byteAt s p) (byteAt s (p+1)) (byteAt s (p+2)) (byteAt s (p+3)) (kT s (p+1)) (kT s (p+2)) (kT s (p+3)):=by
 have a:∀k,((ByteArray.mk s.toArray).get! (p+k)).toNat=byteAt s (p+k):=by
  intro k;unfold byteAt;have:(ByteArray.mk s.toArray).get! (p+k)=s.getD (p+k) 0:=by
   show s.toArray[p+k]! =_
   simp[List.getD,List.getElem!_eq_getElem?_getD];rfl
  rw[this]
 have c:∀k,(decide (p+k < (ByteArray.mk s.toArray).size) && byteAt s (p+k) / 64==2)=kT s (p+k):=by
  intro k;unfold kT NM;have b:(ByteArray.mk s.toArray).size=s.length:=by show s.toArray.size=_;simp
  rw[b];congr 1;rw[Qc9];simp only[Qbw,iZ,Xh];omega
 have d:=a 0;rw[XE]at d;unfold Utf8.decode dcN;simp only[a,c,Utf8.runeError];simp only[XE]
theorem aqf (n:Nat):Utf8.valid (n:Int)=true ↔ n < 55296\/(57344<=n/\n<=1114111):=by
 unfold Utf8.valid;simp only[Qbi,iZ,Xh];omega
set_option maxHeartbeats 4000000 in
theorem aGH (c b1 e g:Nat)(f a b d:Bool)(i:a=(f && (decide (128<=b1) && decide (b1<=191))))(j:b=true->128<=e/\e<=191)(k:d=true->128<=g/\g<=191)(m:c < 256):
  (szN c b1 f a b d=0->dcN c b1 e g a b d=(65533,1)/\¬(c=239/\b1=191/\e=189/\a=true/\b=true))/\
  (szN c b1 f a b d≠0->((dcN c b1 e g a b d).1=65533->c=239/\b1=191/\e=189/\a=true/\b=true)/\((dcN c b1 e g a b d).2:Int)=szN c b1 f a b d):=by
 have l:a=true ↔ f=true/\128<=b1/\b1<=191:=by
  rw[i];simp only[iZ,Xh]
 clear i;unfold szN dcN;cases a<;>cases b<;>cases d<;>cases f<;>simp only[Bool.and_true,Bool.and_false,Qbt,and_true,and_false,true_and,false_and,if_false,false_iff,true_iff,Qbw,ge_iff_le,iZ,aqf,Xh,forall_const,not_and,not_false_eq_true,implies_true,not_true_eq_false]at l j k⊢<;>(repeat' split)<;>simp only[Qbk,ne_eq,and_true,true_and,and_false,false_and,not_false_eq_true]<;>first | trivial | omega | exact⟨fun _ i j k=>by omega,fun h=>(h trivial).elim⟩
def abw (s:Str)(p:Str):Pg Bool:=.br (decide ((↑(List.length p):Int)<=(↑(List.length s):Int))) (.ob ((0:Int)<=0/\0<=(↑(List.length p):Int)/\(↑(List.length p):Int)<=(↑(List.length s):Int)) (.as (List.length s<=9223372036854775807) (.as (List.length p<=9223372036854775807) (.as (List.length p<=9223372036854775807) (.ret (List.take (List.length p) s==p)))))) (.as (List.length s<=9223372036854775807) (.as (List.length p<=9223372036854775807) (.ret false)))
def adM (s:Str)(p:Str):=(abw s p).val
def aqh:bi Z:=E0 [] [] U7 hh2 [] func328 1 (u2 abw)
def aix (s:Str)(p:Str):Pg Bool:=.ret (adM s p)
def Jt (s:Str)(p:Str):=(aix s p).val
def arq:bi Z:=E0 [aqh] [] U7 hh2 [] func237 1 (u2 aix)
def wrong (s:Str)(a:Int)(c:Int):Pg Bool:=.br (c==65533) (.ob (0<=a/\a<=(↑(List.length s):Int)/\(↑(List.length s):Int)<=(↑(List.length s):Int)) (.ret !Jt (List.drop a.toNat (List.take (List.length s) s)) [239,191,189])) (.ret false)
def WQ (s:Str)(a:Int)(c:Int):=(wrong s a c).val
def ayf:bi Z:=E1 [arq] [] (aCons (aLf cStr) (aCons (aLf cI) (a1 (aLf (cInt .i32))))) hh2 [] func173 1 (u3 wrong) fun a=>0<=a.2.1/\a.2.1<=a.1.length
def rbetween (s:Str)(i:Int)(a:Int)(b:Int):Pg Bool:=.br (decide (i < (↑(List.length s):Int))) (.ix i (List.length s) (.br (decide (a<=(↑(List.getD s i.toNat 0).toNat:Int))) (.ix i (List.length s) (.as (List.length s<=9223372036854775807) (.ret (decide ((↑(List.getD s i.toNat 0).toNat:Int)<=b))))) (.as (List.length s<=9223372036854775807) (.ret false)))) (.as (List.length s<=9223372036854775807) (.ret false))
def qN (s:Str)(i:Int)(a:Int)(b:Int):=(rbetween s i a b).val
def SK:bi Z:=E1 [] [] (aCons (aLf cStr) (aCons (aLf cI) (aCons (aLf (cInt .u8)) azK))) hh2 [] func262 1 (u4 rbetween) fun a=>0<=a.2.1
def rtail (s:Str)(i:Int)(n:Int):Pg Bool:=.cnt yc 0 n (fun b (c:Unit)=> .lt (aQ .i64 (i+b)) fun a=> .ob (0<=a) (.br (!qN s a 128 191) (.ret (.inr false)) (rl ()))) (fun b (c:Unit)=> .ret true) ()
def BU (s:Str)(i:Int)(n:Int):=(rtail s i n).val
def ay4:bi Z:=E1 [SK] [jS 2 (bD (fun b=>[s0 7]) iL)] (aCons (aLf cStr) abf) hh2 [] func261 1 (u3 rtail) fun a=>0<=a.2.1/\a.2.1<=a.1.length+1/\a.2.2<=3/\a.1.length<=9223372036854775700
def rsize (s:Str)(i:Int):Pg Int:=.ix i (List.length s) (.br (decide ((↑(List.getD s i.toNat 0).toNat:Int) < 128)) (.ret 1) (.lt (aQ .i64 (i+1)) fun a=> .cut (fun(g:Bool)=> .br g (.ret 2) (.lt (BU s (aQ .i64 (i+2)) 1) fun e=> .lt (aQ .i64 (i+2)) fun b=> .cut (fun(j:Bool)=> .br j (.ret 3) (.cut (fun(f:Bool)=> .br f (.ret 3) (.cut (fun(h:Bool)=> .br h (.ret 3) (.lt (BU s b 2) fun d=> .cut (fun(k:Bool)=> .br k (.ret 4) (.lt (qN s a 128 143) fun c=> .br (decide (241<=(↑(List.getD s i.toNat 0).toNat:Int))) (.br (decide ((↑(List.getD s i.toNat 0).toNat:Int)<=243)) (.ob (0<=a/\a<=(↑(List.length s):Int)+1/\(3:Int)<=3/\List.length s<=9223372036854775700) (.br (BU s a 3) (.ret 4) (.br ((↑(List.getD s i.toNat 0).toNat:Int)==244) (.ob (0<=a) (.br c (.ob (0<=b/\ b<=(↑(List.length s):Int)+1/\(2:Int)<=3/\List.length s<=9223372036854775700) (.br d (.ret 4) (.ret 0))) (.ret 0))) (.ret 0)))) (.br ((↑(List.getD s i.toNat 0).toNat:Int)==244) (.ob (0<=a) (.br c (.ob (0<=b/\ b<=(↑(List.length s):Int)+1/\(2:Int)<=3/\List.length s<=9223372036854775700) (.br d (.ret 4) (.ret 0))) (.ret 0))) (.ret 0))) (.br ((↑(List.getD s i.toNat 0).toNat:Int)==244) (.ob (0<=a) (.br c (.ob (0<=b/\ b<=(↑(List.length s):Int)+1/\(2:Int)<=3/\List.length s<=9223372036854775700) (.br d (.ret 4) (.ret 0))) (.ret 0))) (.ret 0)))) (.br ((↑(List.getD s i.toNat 0).toNat:Int)==240) (.ob (0<=a) (.br (qN s a 144 191) (.ob (0<=b/\b<=(↑(List.length s):Int)+1/\(2:Int)<=3/\List.length s<=9223372036854775700) (rl d)) (rl false))) (rl false)))) (.br (decide (225<=(↑(List.getD s i.toNat 0).toNat:Int))) (.br (decide ((↑(List.getD s i.toNat 0).toNat:Int)<=239)) (.br ((↑(List.getD s i.toNat 0).toNat:Int) !=237) (.ob (0<=a/\a<=(↑(List.length s):Int)+1/\(2:Int)<=3/\List.length s<=9223372036854775700) (rl (BU s a 2))) (rl false)) (rl false)) (rl false)))) (.br ((↑(List.getD s i.toNat 0).toNat:Int)==237) (.ob (0<=a) (.br (qN s a 128 159) (.ob (0<=b/\b<=(↑(List.length s):Int)+1/\(1:Int)<=3/\List.length s<=9223372036854775700) (rl e)) (rl false))) (rl false)))) (.br ((↑(List.getD s i.toNat 0).toNat:Int)==224) (.ob (0<=a) (.br (qN s a 160 191) (.ob (0<=b/\b<=(↑(List.length s):Int)+1/\(1:Int)<=3/\List.length s<=9223372036854775700) (rl e)) (rl false))) (rl false)))) (.br (decide (194<=(↑(List.getD s i.toNat 0).toNat:Int))) (.br (decide ((↑(List.getD s i.toNat 0).toNat:Int)<=223)) (.ob (0<=a/\a<=(↑(List.length s):Int)+1/\(1:Int)<=3/\List.length s<=9223372036854775700) (rl (BU s a 1))) (rl false)) (rl false))))
def zG (s:Str)(i:Int):=(rsize s i).val
def axz:bi Z:=E1 [ay4,SK] [jS 100005 (bD (fun b=>[s0 12]) oK),jS 100007 (bD (fun b=>[s0 25]) oK),jS 100009 (bD (fun b=>[s0 40]) oK),jS 100011 (bD (fun b=>[s0 55]) oK),jS 100013 (bD (fun b=>[s0 72]) oK)] (aCons (aLf cStr) hh5) jE [] func199 1 (u2 rsize) fun a=>0<=a.2/\a.2 < a.1.length/\a.1.length<=9223372036854775700
theorem OC (s:Str)(p:Nat)(a b:Nat):qN s (p:Int) (a:Int) (b:Int)=(NM s p && (decide (a<=byteAt s p) && decide (byteAt s p<=b))):=by
 unfold qN rbetween NM byteAt;simp_all
theorem af9 (s:Str)(p:Nat)(h:p+3 < 9223372036854775808):BU s (p:Int) 1=kT s p/\BU s (p:Int) 2=(kT s p && kT s (p+1))/\BU s (p:Int) 3=(kT s p && (kT s (p+1) && kT s (p+2))):=by
 have w:∀k:Nat,k < 3->aQ .i64 ((p:Int)+(k:Int))=((p+k:Nat):Int):=fun k g=>by
  rw[bn (k:= .i64) kM];omega
 have e:∀k:Nat,k < 3->qN s (aQ .i64 ((p:Int)+(k:Int))) 128 191=kT s (p+k):=fun k g=>by
  rw[w k g];exact OC s (p+k) 128 191
 have a:=e 0 aj;have b:=e 1 aj;have c:=e 2 aj;unfold BU rtail;simp only[lQ,aT,aV,aF,ay];simp only[show((0:Nat):Int)=0 from rfl,show((1:Nat):Int)=1 from rfl,show((2:Nat):Int)=2 from rfl]at a b c;have l:((1:Int) - 0).toNat=0+1:=rfl;have j:((2:Int) - 0).toNat=0+1+1:=rfl;have i:((3:Int) - 0).toNat=0+1+1+1:=rfl;have f:(0:Int)+1=1:=rfl;have d:(1:Int)+1=2:=rfl;refine⟨?_,?_,?_⟩
 ·rw[l];simp only[ET,Np,f,d,a,b,c];cases kT s p<;>rfl
 ·rw[j];simp only[ET,Np,f,d,a,b,c];cases kT s p<;>cases kT s (p+1)<;>rfl
 ·rw[i];simp only[ET,Np,f,d,a,b,c];cases kT s p<;>cases kT s (p+1)<;>cases kT s (p+2)<;>rfl
set_option maxHeartbeats 4000000 in
theorem asV (s:Str)(p:Nat)(h:p+10 < 9223372036854775808):zG s (p:Int)=szN (byteAt s p) (byteAt s (p+1)) (NM s (p+1)) (kT s (p+1)) (kT s (p+2)) (kT s (p+3)):=by
 have l:aQ .i64 ((p:Int)+1)=((p+1:Nat):Int):=by rw[bn (k:= .i64) kM];omega
 have o:aQ .i64 ((p:Int)+2)=((p+2:Nat):Int):=by rw[bn (k:= .i64) kM];omega
 obtain⟨a1,a2,j⟩:=af9 s (p+1) aj;obtain⟨d1,d2,_⟩:=af9 s (p+2) aj;have e:=fun t y=>OC s (p+1) t y
 have f:=e 160 191;have c:=e 128 159;have d:=e 144 191;have b:=e 128 143;simp only[show((160:Nat):Int)=160 from rfl,show((191:Nat):Int)=191 from rfl,show((128:Nat):Int)=128 from rfl,show((159:Nat):Int)=159 from rfl,show((144:Nat):Int)=144 from rfl,show((143:Nat):Int)=143 from rfl]at f c d b;unfold zG rsize;simp only[di,aF,aV,aT,dn,ay,l,o,a1,a2,j,d1,d2,f,c,d,b,qA,<-byteAt.eq_1];generalize byteAt s p=a;generalize byteAt s (p+1)=b1;generalize NM s (p+1)=z;generalize kT s (p+1)=x;generalize kT s (p+2)=w;generalize kT s (p+3)=u;have r:∀n:Nat,((a:Int)==(n:Int))=decide (a=n):=fun n=>by grind
 have q:∀n:Nat,((a:Int) !=(n:Int))=decide (a≠n):=fun n=>by grind
 have g:∀n:Nat,decide ((a:Int) < (n:Int))=decide (a < n):=fun n=>by grind
 have i:∀n:Nat,decide ((a:Int)<=(n:Int))=decide (a<=n):=fun n=>by grind
 have m:∀n:Nat,decide ((n:Int)<=(a:Int))=decide (n<=a):=fun n=>by grind
 have v:=fun(n:Nat)=>g n
 simp only[show(128:Int)=((128:Nat):Int)from rfl,show(194:Int)=((194:Nat):Int)from rfl,show(223:Int)=((223:Nat):Int)from rfl,show(224:Int)=((224:Nat):Int)from rfl,show(237:Int)=((237:Nat):Int)from rfl,show(225:Int)=((225:Nat):Int)from rfl,
  show(239:Int)=((239:Nat):Int)from rfl,show(240:Int)=((240:Nat):Int)from rfl,show(241:Int)=((241:Nat):Int)from rfl,show(243:Int)=((243:Nat):Int)from rfl,show(244:Int)=((244:Nat):Int)from rfl,r,q,g,i,m,ah3,eP,cond_true,lL]
 unfold szN;clear a1 a2 j d1 d2 l o e f c d b r q g i m v h;cases x<;>cases w<;>cases u<;>cases z<;>simp only[Bool.true_and,Bool.false_and,Bool.and_false,Bool.and_true,Bool.and_self,cond_true,lL,Bool.cond_self,Bool.cond_decide,Qbt,and_true,and_false,true_and,false_and,if_false,<-Bool.decide_and]<;>(repeat' split)<;>first | rfl | omega
theorem ano (s:Str)(p:Nat)(n:p<=s.length):Jt (List.drop p (List.take (List.length s) s)) [239,191,189]=true ↔ byteAt s p=239/\byteAt s (p+1)=191/\byteAt s (p+2)=189/\p+2 < s.length:=by
 unfold Jt aix adM abw;simp only[ay,aF,aV,dW,Gv];unfold byteAt;have f:∀k,s.getD (p+k) 0=(s.drop p).getD k 0:=fun k=>by grind
 have g:=f 0;have l:=f 1;have m:=f 2;rw[XE]at g;rw[g,l,m];have a:(s.drop p).length=s.length - p:=Qca;generalize s.drop p=r at*;have e:∀b:UInt8,b.toNat=239 ↔ b=239:=fun b=>⟨fun h=>Qb5.1 h,fun h=>by rw[h];rfl⟩
 have c:∀b:UInt8,b.toNat=191 ↔ b=191:=fun b=>⟨fun h=>Qb5.1 h,fun h=>by rw[h];rfl⟩
 have d:∀b:UInt8,b.toNat=189 ↔ b=189:=fun b=>⟨fun h=>Qb5.1 h,fun h=>by rw[h];rfl⟩
 rw[e,c,d];rcases r with _ | ⟨x,_ | ⟨y,_ | ⟨z,r⟩⟩⟩
 ·simp[List.getD]at a⊢
 ·simp[List.getD]at a⊢
 ·simp[List.getD]at a⊢
 ·have i:p+2 < s.length:=by simp at a;omega
  simp only[JV,Qa7,Qck,Qds,i,and_true,Qci,Qch];have j:decide (((0+1+1+1:Nat):Int)<=((r.length+1+1+1:Nat):Int))=true:=by simp;omega
  rw[j,cond_true,Qbw];simp
theorem Wy (s:Str)(p:Nat)(u:p < s.length)(t:s.length<=9223372036854775700):
  (zG s (p:Int)=0->WQ s (p:Int) (Ak s p)=true)/\(zG s (p:Int)≠0->WQ s (p:Int) (Ak s p)=false/\(BG s p:Int)=zG s (p:Int)/\1<=BG s p/\BG s p<=4):=by
 have a:∀q,kT s q=true->128<=byteAt s q/\byteAt s q<=191:=fun q c=>by
  unfold kT at c
  grind
 have b:=aGH (byteAt s p) (byteAt s (p+1)) (byteAt s (p+2)) (byteAt s (p+3)) (NM s (p+1)) (kT s (p+1)) (kT s (p+2)) (kT s (p+3)) rfl (a _) (a _) (UInt8.toNat_lt _);have d:=ano s p aj;have o:∀q,kT s q=true->q < s.length:=fun q c=>by
  unfold kT NM at c
  grind
 have i:WQ s (p:Int) (Ak s p)=(decide ((dcN (byteAt s p) (byteAt s (p+1)) (byteAt s (p+2)) (byteAt s (p+3)) (kT s (p+1)) (kT s (p+2)) (kT s (p+3))).1=65533) && !Jt (List.drop p (List.take (List.length s) s)) [239,191,189]):=by
  unfold WQ wrong Ak;rw[QR];generalize (dcN _ _ _ _ _ _ _).1=n;simp only[aF,aV,ay,qA]
  grind
 rw[asV s p aj,i];refine⟨fun h=> ?_,fun h=> ?_⟩
 ·obtain⟨g,e⟩:=b.1 h;rw[g];have:¬Jt (List.drop p (List.take (List.length s) s)) [239,191,189]=true:=fun m=>by
   obtain⟨l,k,j,r⟩:=d.1 m;refine e ⟨l,k,j,?_,?_⟩
   ·unfold kT NM;grind
   ·unfold kT NM;grind
  grind
 ·obtain⟨g,e⟩:=b.2 h;have f:(BG s p:Int)=szN (byteAt s p) (byteAt s (p+1)) (NM s (p+1)) (kT s (p+1)) (kT s (p+2)) (kT s (p+3)):=by
   unfold BG;rw[QR];exact e
  refine⟨?_,f,?_⟩
  ·grind
  ·have v:szN (byteAt s p) (byteAt s (p+1)) (NM s (p+1)) (kT s (p+1)) (kT s (p+2)) (kT s (p+3))<=4/\0<=szN (byteAt s p) (byteAt s (p+1)) (NM s (p+1)) (kT s (p+1)) (kT s (p+2)) (kT s (p+3)):=by
    unfold szN;omega
   omega
def rbad (s:Str):Pg Int:=.wh (s.length+1) default (fun(a:Int)=> .as (List.length s<=9223372036854775807) (.br (decide (a < (↑(List.length s):Int))) (.ob (0<=a/\a < (↑(List.length s):Int)/\List.length s<=9223372036854775700) (.lt (zG s a) fun b=> .br (b==0) (.ret (.inr a)) (rl (aQ .i64 (a+b))))) (.ret (.inr (-1))))) 0
def aem (s:Str):=(rbad s).val
theorem aza (s:Str)(h:s.length<=9223372036854775700):Is (rbad s):=
 by
 refine DL (fun x=>0<=x/\x<=s.length+4) (fun x=>s.length - x.toNat) ⟨by omega,by omega⟩ aj (fun x j=>⟨is_as fun _=>is_brd (fun _=>is_ob aj (is_lt fun m i=>is_beq iR iR)) iR,fun o c=> ?_⟩);revert c;simp only[dW,aF,aV,aT,ay];by_cases b:x < (s.length:Int)
 ·obtain⟨p,rfl⟩:∃p:Nat,x=p:=⟨x.toNat,by omega⟩;have d:=Wy s p aj h;by_cases a:zG s (p:Int)=0
  ·simp[b,a]
  ·obtain⟨_,f,n,l⟩:=d.2 a;have g:(zG s (p:Int)==0)=false:=by simpa using a
   simp only[b,decide_true,cond_true,g,lL];intro e;injection e with e
   rw[<-f,bn (k:= .i64) kM]at e;omega
 ·simp[b]
def aFC:bi Z:=E1 [axz] [jS 2 (bD (fun b=>[s0 3]) iL)] hh1 jE [] func133 1 rbad (fun a=>a.length<=9223372036854775700) fun a h=>aza a h
def bad (s:Str):Pg Int:=.wh (s.length+1) default (fun(a:List UInt8×Int)=> .br (decide (a.2.toNat < a.1.length)) (.ob (0<=(↑a.2.toNat:Int)/\(↑a.2.toNat:Int)<=(↑(List.length s):Int)) (.br (WQ s (↑a.2.toNat:Int) (Ak a.1 a.2.toNat)) (.ret (.inr (↑a.2.toNat:Int))) (rl (a.1,(↑(a.2.toNat+BG a.1 a.2.toNat):Int))))) (.ret (.inr (-1)))) (s,0)
theorem bad_eq (s:Str)(h:s.length<=9223372036854775700):(bad s).val=aem s:=by
 unfold bad aem rbad;rw[qx,qx]
 suffices a:∀(n p:Nat),Dy _ default n (s,(p:Int))=Dy _ default n (p:Int)from a (s.length+1) 0
 intro n;induction n with
 | zero=>intro p;rfl
 | succ n f=>
  intro p;simp only[Dy,dW,aF,aV,aT,ay,qA];by_cases c:p < s.length
  ·have d:(p:Int) < (s.length:Int):=by omega
   have e:=Wy s p c h;simp only[c,d,decide_true,cond_true];by_cases b:zG s (p:Int)=0
   ·grind
   ·obtain⟨g,i,m,l⟩:=e.2 b;have j:(zG s (p:Int)==0)=false:=by simpa using b
    rw[g,j];simp only[lL];rw[<-i,bn (k:= .i64) kM];exact f (p+BG s p)
  grind
theorem aFB (s:Str)(h:s.length<=9223372036854775700):Is (bad s):=
 by
 refine DL (fun x=>x.1=s/\0<=x.2) (fun x=>s.length - x.2.toNat) ⟨rfl,by omega⟩ aj (fun x c=>⟨is_brd (fun d=>is_ob dm (is_br iR iR)) iR,fun f a=> ?_⟩);obtain⟨t,x⟩:=x;obtain⟨rfl,g⟩:=c;revert a;simp only[aF,aV,ay];by_cases b:x.toNat < t.length
 ·have e:=Wy t x.toNat b h
  grind
 ·simp[b]
def aHw:bi Z:=E2 [ayf] [jS 2 (bD (fun b=>[.iter (pid (b 6))]) (l1 (df cStr cI)))] hh1 jE [] func116 1 bad (fun a=>some (a.length<=9223372036854775700)) (fun a=>aem a) fun a h=>⟨aFB a h,bad_eq a h⟩
def awv (s:Str):Pg Bool:=.ob (List.length s<=9223372036854775700) (.lt (aem s) fun a=> .ret (decide (a < 0)))
def EX (s:Str):=(awv s).val
def DF:bi Z:=E1 [aHw] [] hh1 hh2 [] func63 1 awv fun a=>a.length<=9223372036854775700
def rvalid (s:Str):Pg Bool:=.ob (List.length s<=9223372036854775700) (.lt (aem s) fun a=> .ret (decide (a < 0)))
def FX (s:Str):=(rvalid s).val
def D8:bi Z:=E1 [aFC] [] hh1 hh2 [] func78 1 rvalid fun a=>a.length<=9223372036854775700
def isU64 (u:Int):Prop:=0<=u/\u < 18446744073709551616
theorem u8_or:∀y,y < 256->y ||| 128=y % 128+128:=by decide+kernel
theorem VA (x:Nat)(a:x < 18446744073709551616):orI .u8 (aQ .u8 (x:Int)) 128=((x % 128+128:Nat):Int):=by
 rw[ab7 (k:= .u8) rfl];refine(Ry (k:= .u8) rfl (y:=128) (Qc7 _ dH) dH).trans ?_;rw[show(2:Nat) ^ IntKind.u8.bits=256 from rfl,u8_or _ (Qc7 _ dH)];congr 2;omega
theorem anu (x:Nat)(a:x < 18446744073709551616):aQ .u8 (aQ .u64 ((x:Int).tmod 128+128))=((x % 128+128:Nat):Int):=by
 have e:(x:Int).tmod 128+128=((x % 128+128:Nat):Int):=by
  rfl
 rw[e,kE (k:= .u64) rfl (Qbg (show x % 128+128 < 256 by omega) dH),kE (k:= .u8) rfl (show x % 128+128 < 2 ^ 8 by omega)]
theorem ry (x:Nat):lN .u64 (x:Int) 7=((x / 128:Nat):Int):=EJ (k:= .u64) x 7 dH
theorem aql (x:Nat)(a:x < 18446744073709551616):aQ .u64 ((x:Int).tdiv 128)=((x / 128:Nat):Int):=by
 rw[show(x:Int).tdiv 128=((x / 128:Nat):Int)from adc x 128];exact kE (k:= .u64) rfl (show x / 128 < 2 ^ 64 by omega)
theorem ayS (x:Nat)(h:x < 128):aQ .u8 (x:Int)=(x:Int):=kE (k:= .u8) rfl (show x < 2 ^ 8 by omega)
def avQ (X:Int×List Int):Prop:=∃x:Nat,X.1=(x:Int)/\X.2.length<=9/\x < 2 ^ (64 - 7*X.2.length)
theorem WX {x:Nat}{b:List Int}{v:Int}(a:b.length<=9)(d:x < 2 ^ (64 - 7*b.length))(c:128<=x):avQ (((x / 128:Nat):Int),b++[v]):=by
 refine⟨x / 128,rfl,?_,?_⟩
 ·grind
 ·show x / 128 < 2 ^ (64 - 7*(b++[v]).length)
  rw[uX,Qb8];rcases(by omega:b.length=9\/b.length<=8)with h | h
  ·grind
  ·have e:64 - 7*b.length=(64 - 7*(b.length+1))+7:=by omega
   grind
theorem azX {x k:Nat}(h:x < 2 ^ (64 - 7*k)):x < 18446744073709551616:=Qbg h (show 2 ^ (64 - 7*k)<=2 ^ 64 from Qcx dH aj)
def vput (u:Int):Pg (List UInt8):=.wh (u.toNat+1) default (fun(a:Int×List Int)=> .br (decide (128<=a.1)) (.ob (bG (a.2.length+1) 1) (.ob ((0:Int)<=7) (rl (lN .u64 a.1 7,a.2++[orI .u8 (aQ .u8 a.1) 128])))) (.ob (bG (a.2.length+1) 1) (.lt (a.2++[aQ .u8 a.1]) fun(b:List Int)=> .ob (BQ (fun(i:Nat)=>true) b.length=true) (.ret (.inr (Jo b)))))) (u,[])
def cZ (u:Int):=(vput u).val
theorem az8 (u:Int)(h:isU64 u):Is (vput u):=
 by
 have h:0<=u/\u < 18446744073709551616:=h;obtain⟨x,rfl⟩:∃x:Nat,u=(x:Int):=⟨u.toNat,by omega⟩;have f:x < 18446744073709551616:=by omega
 refine DL avQ (fun X=>X.1.toNat) ⟨x,rfl,Gw _,f⟩ aj (fun X e=> ?_);obtain⟨i,b⟩:=X;obtain⟨x,rfl,d,c⟩:=e;dsimp only at d c⊢;rw[ry,VA x (azX c)];refine⟨is_brd (fun _=>is_ob (room_of aj aj) (is_ob aj is_ret)) (fun _=>is_ob (room_of aj aj) (is_lt fun j g=>is_ob (oL (fun _=>rfl) _) is_ret)),fun k a=> ?_⟩;revert a;simp only[aF,aV,aT,ay,Z8,Xh]
 grind [WX]
def aav:bi Z:=E1 [] [jS 2 (bD (fun b=>[s0 0, .slot 3 false [some 5]]) (aJ (cInt .u64) (l1 Ul)))] Qw Dp [] func71 1 vput (fun a=>isU64 a) fun a h=>az8 a h
theorem L6 (x:Nat)(c:x < 18446744073709551616):cZ (x:Int)=Jo ((Qv 10 x).map Int.ofNat):=by
 have e:∀(k n x:Nat) (b:List Int),x < n->x < 128 ^ k->1<=k->x < 18446744073709551616->Dy (fun(a:Int×List Int)=>(bif decide (128<=a.1)then(Sum.inl (lN .u64 a.1 7,a.2++[orI .u8 (aQ .u8 a.1) 128]):(Int×List Int)⊕List UInt8)else .inr (Jo (a.2++[aQ .u8 a.1])))) default n ((x:Int),b)=Jo (b++(Qv k x).map Int.ofNat):=by
  intro k;induction k with
  | zero=>omega
  | succ k f=>
   intro n x b g d _ c;obtain⟨n,rfl⟩:∃m,n=m+1:=⟨n - 1,by omega⟩;unfold Dy Qv;by_cases h:x < 128
   ·grind [ayS]
   ·rw[uU h,wz (show(128:Int)<=(x:Int) by omega)];simp only[cond_true,ry,VA x c];rw[Qc8]at d;rw[f n (x / 128) _ aj aj dm aj,Yt];rfl
 exact e 10 ((x:Int).toNat+1) x [] aj (Qbg c dH) dH c
theorem amy:∀(k x:Nat),(Qv k x).length<=k
 | 0,x=>pJ _
 | k+1,x=>by
  unfold Qv;split
  ·simp
  ·simp only[JV];have:=amy k (x / 128);omega
theorem iI (u:Int)(h:0<=u/\u < 18446744073709551616):(cZ u).length<=10:=by
 obtain⟨x,rfl⟩:∃x:Nat,u=(x:Int):=⟨u.toNat,by omega⟩
 grind [amy,L6,qp]
def Nj (u i:Nat)(t:Nat×Nat×Int):Int×Int×Int:=if t.2.2=0 then(((u+2 ^ (7*i)*t.1:Nat):Int),((i+t.2.1:Nat):Int),0)else(0,0,t.2.2)
theorem atY {u i c:Nat}(d:u < 2 ^ (7*i))(a:i<=8\/i=9/\c<=1)(f:c < 128):c*2 ^ (7*i) < 2 ^ 64/\u ||| (c*2 ^ (7*i))=u+2 ^ (7*i)*c/\u+2 ^ (7*i)*c < 2 ^ 64:=by
 have b:u ||| (c*2 ^ (7*i))=u+2 ^ (7*i)*c:=by
  rw[Nat.or_comm,Qby,<-Qcl d,Qdt]
 rw[b];rcases a with a | ⟨rfl,e⟩
 ·have g:2 ^ (7*i)<=2 ^ 56:=Qcx dH aj;generalize 2 ^ (7*i)=p at*;have h:c*p<=127*p:=Qce p aj
  grind
 omega
theorem aEr (c:UInt8):aQ .u64 (nT .u8 (c.toNat:Int) 127)=((c.toNat % 128:Nat):Int):=by
 have a:=c.toNat_lt;have e:nT .u8 (c.toNat:Int) 127=((c.toNat &&& 127:Nat):Int):=Am (k:= .u8) rfl (y:=127) a dH;rw[e,show c.toNat &&& 127=c.toNat % 128 from Qc3 _ 7];exact kE (k:= .u64) rfl (Qdv (Qc7 _ dH) (by decide:128 < 2 ^ 64))
theorem azO (u i:Nat)(c:UInt8)(e:u < 2 ^ (7*i))(d:i<=8\/i=9/\c.toNat<=1):orI .u64 (u:Int) (Tv .u64 (aQ .u64 (nT .u8 (c.toNat:Int) 127)) (aQ .i64 (7*(i:Int))))=((u+2 ^ (7*i)*(c.toNat % 128):Nat):Int):=by
 have f:c.toNat % 128 < 128:=Qc7 _ dH;obtain⟨b,g,j⟩:=atY e (d.imp id fun h=>⟨h.1,by omega⟩) f;have w:aQ .i64 (7*(i:Int))=((7*i:Nat):Int):=by rw[bn (k:= .i64) kM];omega
 rw[aEr,w,adq (k:= .u64) rfl (show 7*i<=64 by omega) b];have a:u < 2 ^ 64:=by omega
 rw[Ry (k:= .u64) rfl a b,g]
theorem drop_at {s:Str}{i:Nat}(h:i < s.length):s.drop i=s.getD i 0::s.drop (i+1):=by
 simp_all
theorem afj (u i:Nat)(c:UInt8)(r:Str)(b:¬(i=9/\1 < c.toNat))(a:¬c.toNat < 128):Nj u i (jB i (c::r))=Nj (u+2 ^ (7*i)*(c.toNat % 128)) (i+1) (jB (i+1) r):=by
 conv=>lhs;unfold jB
 rw[uU b,uU a];generalize jB (i+1) r=t;obtain⟨v,n,e⟩:=t;dsimp only;by_cases d:e=0
 ·subst d;unfold Nj
  grind
 ·unfold Nj
  grind
def vtake (s:Str):Pg (Int×Int×Int):=.wh (11) default (fun(a:Int×Int)=> .as (List.length s<=9223372036854775807) (.br (a.2==(↑(List.length s):Int)) (.ret (.inr (0,0,4))) (.ix a.2 (List.length s) (.cut (fun(e:Unit)=> .lt (aQ .i64 (7*a.2)) fun b=> .ob (0<=b) (.lt (orI .u64 a.1 (Tv .u64 (aQ .u64 (nT .u8 (↑(List.getD s a.2.toNat 0).toNat:Int) 127)) b)) fun c=> .lt (aQ .i64 (a.2+1)) fun d=> .br (decide ((↑(List.getD s a.2.toNat 0).toNat:Int) < 128)) (.ret (.inr (c,d,0))) (rl (c,d)))) (.br (a.2==9) (.br (decide (1 < (↑(List.getD s a.2.toNat 0).toNat:Int))) (.ret (.inr (.inr (0,0,6)))) (rl ())) (rl ())))))) (0,0)
def nI (s:Str):=(vtake s).val
theorem atF (s:Str):Is (vtake s):=
 by
 refine DL (fun X=>0<=X.2/\X.2<=9/\X.2<=s.length) (fun X=>(10 - X.2).toNat) ⟨by decide,by decide,by simp⟩ dH (fun X f=> ?_);obtain⟨u,n⟩:=X;obtain⟨b,e,g⟩:=f;dsimp only at b e g⊢;have w:aQ .i64 (7*n)=7*n:=bn (k:= .i64) kM;have c:aQ .i64 (n+1)=n+1:=bn (k:= .i64) kM;rw[w,c];refine⟨is_as fun _=>is_beq iR (fun j=>is_ix aj aj (is_cut (is_beq (fun _=>is_brd iR iR) iR) (fun y q=>is_lt fun t i=>is_ob aj (is_lt fun o l=>is_lt fun r m=>is_brd iR iR)))),fun p a=> ?_⟩;revert a;simp only[dW,aF,di,dn,aT,aV,ay,Z8,Xh,Qbw];by_cases d:n=(s.length:Int)
 ·grind
 rw[uU d];by_cases h:n=9
 ·rw[vJ h];by_cases v:(1:Int) < ((s.getD n.toNat 0).toNat:Int)
  ·simp_all
  grind [eP]
 grind [eP]
def SC:bi Z:=E0 [] [jS 3 (bD (fun b=>[s0 5, s0 6]) aAH),jS 100008 (bD (fun b=>[]) l0)] hh1 aBo [] func100 3 vtake fun a=>atF a
theorem aGw {u i c:Nat}(a:u < 2 ^ (7*i)):u+2 ^ (7*i)*(c % 128) < 2 ^ (7*(i+1)):=by
 rw[show 7*(i+1)=7*i+7 by omega,Nat.pow_add];have b:c % 128 < 128:=Qc7 _ dH;generalize 2 ^ (7*i)=p at*;have d:p*(c % 128)<=p*127:=Qcy p aj;omega
theorem akS (u i:Nat):Nj u i (jB i [])=(0,0,4):=rfl
theorem ak6 (u i:Nat)(c:UInt8)(r:Str)(a:i=9/\1 < c.toNat):Nj u i (jB i (c::r))=(0,0,6):=by
 unfold jB;rw[vJ a];rfl
theorem alJ (u i:Nat)(c:UInt8)(r:Str)(b:¬(i=9/\1 < c.toNat))(a:c.toNat < 128):Nj u i (jB i (c::r))=(((u+2 ^ (7*i)*(c.toNat % 128):Nat):Int),((i+1:Nat):Int),0):=by
 unfold jB;rw[uU b,vJ a,Qc4 a];rfl
theorem DY (s:Str):nI s=Nj 0 0 (jB 0 s):=by
 have b:∀(m i u:Nat),i<=9->i<=s.length->u < 2 ^ (7*i)->10 - i < m->Dy (fun(a:Int×Int)=>bif a.2==(s.length:Int)then(Sum.inr (0,0,4):(Int×Int)⊕(Int×Int×Int))else thenS (bif a.2==9 then(bif decide ((1:Int) < ((s.getD a.2.toNat 0).toNat:Int))then(Sum.inr (.inr (0,0,6)):Unit⊕((Int×Int)⊕(Int×Int×Int)))else .inl ())else .inl ()) fun _=>bif decide (((s.getD a.2.toNat 0).toNat:Int) < 128)then Sum.inr (orI .u64 a.1 (Tv .u64 (aQ .u64 (nT .u8 ((s.getD a.2.toNat 0).toNat:Int) 127)) (aQ .i64 (7*a.2))),aQ .i64 (a.2+1),0)else .inl (orI .u64 a.1 (Tv .u64 (aQ .u64 (nT .u8 ((s.getD a.2.toNat 0).toNat:Int) 127)) (aQ .i64 (7*a.2))),aQ .i64 (a.2+1))) default m ((u:Int),(i:Int))=Nj u i (jB i (s.drop i)):=by
  intro m;induction m with
  | zero=>omega
  | succ m g=>
   intro i u l h e n;unfold Dy;dsimp only;by_cases k:i=s.length
   ·grind [akS]
   ·have:((i:Int)==(s.length:Int))=false:=by grind
    rw[this,lL,qA,drop_at aj];generalize s.getD i 0=c;by_cases d:i=9/\1 < c.toNat
    ·rw[ak6 _ _ _ _ d];have j:((i:Int)==9)=true:=by rw[d.1];rfl
     have f:decide ((1:Int) < (c.toNat:Int))=true:=wz aj;simp_all
    grind [alJ,afj,aGw,azO,eP,h_]
 exact b 11 0 0 dH (Gw _) dH dH
theorem Es (s:Str):isU64 (nI s).1/\0<=(nI s).2.1/\(nI s).2.1<=s.length/\((nI s).2.2=0\/(nI s).2.2=4\/(nI s).2.2=6)/\((nI s).2.2=0->1<=(nI s).2.1):=by
 rw[DY];have d:∀(r:Str) (i:Nat),(jB i r).2.2=0\/(jB i r).2.2=4\/(jB i r).2.2=6:=by
  intro r;induction r with
  | nil=>intro i;exact .inr (.inl rfl)
  | cons c r k=>
   grind [jB]
 unfold Nj;by_cases h:(jB 0 s).2.2=0
 ·obtain⟨l,b,m,n,j,g,f,a⟩:=Xf s 0 dH h;have:=aAv b;rw[vJ h];have a:(jB 0 s).1 < 18446744073709551616:=a;rw[Bc,Bc,Nat.mul_zero,Nat.pow_zero,Nat.one_mul];dsimp only;exact⟨⟨by omega,by omega⟩,by omega,by omega, .inl rfl,fun _=>by omega⟩
 ·rw[uU h];dsimp only;exact⟨⟨N8 _,by decide⟩,N8 _,by omega,(d s 0),fun e=>absurd e h⟩
def aE5 (u:Int):Pg Int:=.ob ((0:Int)<=1) (.ret (mJ .i64 (aQ .i64 (lN .u64 u 1)) (aQ .i64 (-aQ .i64 (nT .u64 u 1)))))
def alv (u:Int):=(aE5 u).val
def aFR:bi Z:=E0 [] [] Qw jE [] func513 1 aE5
def ajh (c:ai):Pg Bool:=.br (decide (0<=c.At)) (.br (decide (c.At<=c.End)) (.as (List.length c.Data<=9223372036854775807) (.ret (decide (c.End<=(↑(List.length c.Data):Int))))) (.ret false)) (.ret false)
def FP (c:ai):=(ajh c).val
def VJ:bi Z:=E0 [] [] XC hh2 [] func329 1 ajh
def awE (c:ai):Pg Int:=.br (!FP c) (.ret 0) (.ret (aQ .i64 (c.End - c.At)))
def m_ (c:ai):=(awE c).val
def yT:bi Z:=E0 [VJ] [] XC jE [] func239 1 awE
def air (c:ai)(n:Int):Pg ai:=.ret (ai.mk c.Data (aQ .i64 (c.At+n)) c.End c.Depth c.Nodes c.Text)
def uC (c:ai)(n:Int):=(air c n).val
def LY:bi Z:=E0 [] [] Qq apX [] func438 1 (u2 air)
def okC (c:ai):Prop:=(0<=c.At/\c.At<=c.End/\c.End<=c.Data.length/\c.Data.length<=1048576)/\(0<=c.Depth/\c.Depth<=1048576)/\(0<=c.Nodes/\c.Nodes<=1099511627776)/\0<=c.Text/\c.Text<=1099511627776
def rC (c:ai):Str:=(c.Data.take c.End.toNat).drop c.At.toNat
theorem wG {c:ai}(h:okC c):((rC c).length:Int)=c.End - c.At:=by
 obtain⟨⟨a,d,e,b⟩,_⟩:=h;unfold rC
 grind
theorem F_ {c:ai}(h:okC c):FP c=true:=by
 obtain⟨⟨a,d,e,b⟩,_⟩:=h;unfold FP ajh;simp_all
theorem kZ {c:ai}(h:okC c):m_ c=c.End - c.At:=by
 have a:=F_ h;obtain⟨⟨b,e,f,d⟩,_⟩:=h;unfold m_ awE;simp only[aF,ay,a,Qbv,lL];exact bn (k:= .i64) kM
theorem FW {c:ai}(h:okC c){n:Int}(j:0<=n)(f:n<=c.End - c.At):uC c n=ai.mk c.Data (c.At+n) c.End c.Depth c.Nodes c.Text/\okC (uC c n):=by
 obtain⟨⟨i,g,b,a⟩,d⟩:=h;have e:uC c n=ai.mk c.Data (c.At+n) c.End c.Depth c.Nodes c.Text:=by
  unfold uC air;simp only[ay];rw[bn (k:= .i64) kM]
 rw[e];exact⟨rfl,⟨by grind,by grind,b,a⟩,d⟩
def cHead (c:ai)(n:Int):Pg (List UInt8):=.br (!FP c) (.ret []) (.lt (aQ .i64 (c.At+n)) fun a=> .ob (0<=c.At/\c.At<=min c.End a/\min c.End a<=(↑(List.length c.Data):Int)) (.ret (List.drop c.At.toNat (List.take (min c.End a).toNat c.Data))))
def vz (c:ai)(n:Int):=(cHead c n).val
theorem avW (c:ai)(n:Int)(h:okC c/\0<=n/\n<=1000):Is (cHead c n):=
 is_br iR (fun _=>is_ltw fun e a _=>is_ob (by obtain⟨⟨⟨b,i,j,f⟩,_⟩,d,g⟩:=h;omega) (is_ret))
def am1:bi Z:=E1 [VJ] [] Qq Dp [] func437 1 (u2 cHead) (fun a=>okC a.1/\0<=a.2/\a.2<=1000) fun a h=>avW a.1 a.2 h
theorem JE {c:ai}(h:okC c){n:Nat}(e:n<=1000):vz c n=(rC c).take n:=by
 have a:=F_ h;obtain⟨⟨b,f,g,d⟩,_⟩:=h;unfold vz cHead rC;simp only[aF,aT,aV,ay,a,Qbv,lL];rw[bn (k:= .i64) kM,List.take_drop]
 grind
def cByte (c:ai):Pg (Int×ai×Int):=.lt (m_ c) fun a=> .br (decide (a < 1)) (.ret (0,c,4)) (.ix c.At (List.length c.Data) (.ret ((↑(List.getD c.Data c.At.toNat 0).toNat:Int),uC c 1,0)))
def BL (c:ai):=(cByte c).val
theorem arM (c:ai)(h:okC c):Is (cByte c):=
 is_lt fun g a=>is_brd iR (fun b=>by rw[a,kZ h]at b;obtain⟨⟨i,f,e,d⟩,_⟩:=h;exact is_ix aj aj is_ret)
def ayF:bi Z:=E1 [yT,LY] [] XC (shr atw (aJ (cInt .u8) hh6)) [] func444 3 cByte (fun a=>okC a) fun a h=>arM a h
def cVarint (c:ai):Pg (Int×ai×Int):=.ob (okC c/\(0:Int)<=10/\(10:Int)<=1000) (.lt (nI (vz c 10)) fun a=> .br (a.2.2 !=0) (.ret (0,c,a.2.2)) (.ret (a.1,uC c a.2.1,0)))
def bP (c:ai):=(cVarint c).val
def zQ:bi Z:=E1 [SC,am1,LY] [] XC aAs [] func330 3 cVarint fun a=>okC a
def ai3 (c:ai)(n:Int):Pg (ai×Int):=.br (decide (n < 0)) (.ret (c,1)) (.br (decide (c.Nodes < n)) (.ret (c,3)) (.ret (ai.mk c.Data c.At c.End c.Depth (aQ .i64 (c.Nodes - n)) c.Text,0)))
def nO (c:ai)(n:Int):=(ai3 c n).val
def agC:bi Z:=E0 [] [] Qq apC [] func238 2 (u2 ai3)
def acM (c:ai)(n:Int):Pg (ai×Int):=.br (decide (n < 0)) (.ret (c,1)) (.lt (m_ c) fun a=> .br (decide (a < n)) (.ret (c,4)) (.br (decide (c.Depth < 1)) (.ret (c,17)) (.ret (ai.mk c.Data c.At (aQ .i64 (c.At+n)) (aQ .i64 (c.Depth - 1)) c.Nodes c.Text,0))))
def FI (c:ai)(n:Int):=(acM c n).val
def awK:bi Z:=E0 [yT] [] Qq apC [] func510 2 (u2 acM)
def ajJ (c:ai)(a:ai):Pg ai:=.br (!FP c) (.ret c) (.br (decide (a.End < c.At)) (.ret c) (.br (decide (c.End < a.End)) (.ret c) (.br (decide (a.Nodes < 0)) (.ret c) (.br (decide (c.Nodes < a.Nodes)) (.ret c) (.ret (ai.mk c.Data a.End c.End c.Depth a.Nodes c.Text))))))
def ER (c:ai)(a:ai):=(ajJ c a).val
def atT:bi Z:=E0 [VJ] [] awD apX [] func511 1 (u2 ajJ)
def yu (k:Int)(c d:ai):Prop:=okC d/\d.Data=c.Data/\d.End=c.End/\d.Depth=c.Depth/\d.Text=c.Text/\d.Nodes<=c.Nodes/\c.At+k<=d.At
theorem F9 {c:ai}(h:okC c){n k:Int}(b:0<=n)(a:n<=c.End - c.At)(d:k<=n):yu k c (uC c n):=by
 obtain⟨e,q⟩:=FW h b a;rw[e]at q⊢;exact⟨q,rfl,rfl,rfl,rfl,N8 _,by grind⟩
theorem f_ {a b:Int}{c d e:ai}(f:yu a c d)(p:yu b d e):yu (a+b) c e:=by
 obtain⟨_,o,j,h,k,r,s⟩:=f;obtain⟨l,i,g,m,n,q,t⟩:=p;exact⟨l,i.trans o,g.trans j,m.trans h,n.trans k,by omega,by omega⟩
theorem fM {a b:Int}{c d:ai}(h:yu a c d)(m:b<=a):yu b c d:=by
 obtain⟨g,k,i,e,j,f,l⟩:=h;exact⟨g,k,i,e,j,f,by omega⟩
theorem bU {a:Int}:(a !=0)=false ↔ a=0:=by simp
theorem iw {c:ai}(h:okC c):isU64 (bP c).1/\((bP c).2.2=0->yu 1 c (bP c).2.1/\(bP c).2.1.Nodes=c.Nodes):=by
 have k:=Es (vz c 10);have f:=wG h;have d:=JE h (n:=10) dH;unfold bP cVarint;simp only[aV,aT,aF,ay];cases e:(nI (vz c 10)).2.2 !=0 with
 | true=>
  refine⟨by show(0:Int)<=0/\(0:Int) < 18446744073709551616;decide,fun g=> ?_⟩
  grind
 | false=>
  have a:=bU.1 e;refine⟨k.1,fun _=> ?_⟩;have b:(vz c 10).length<=(rC c).length:=by
   grind
  refine⟨F9 h k.2.1 aj (k.2.2.2.2 a),rfl⟩
def vtfix (s:Str):Pg (Int×Int):=.br (decide ((↑(List.length s):Int) < 8)) (.ret (0,4)) (.cnt mg 0 8 (fun(a b:Int)=> .ix a (List.length s) (.lt (aQ .i64 (8*a)) fun c=> .ob (0<=c) (rl (orI .u64 b (Tv .u64 (aQ .u64 (↑(List.getD s a.toNat 0).toNat:Int)) c))))) (fun(a b:Int)=> .ret (b,0)) 0)
def zx (s:Str):=(vtfix s).val
def ay_:bi Z:=E0 [] [jS 5 (bD (fun b=>[s0 9, s0 4]) (aJ cI (l1 (cInt .u64))))] hh1 (shr aeR aAH) [] func514 2 vtfix
def cFixed (c:ai):Pg (Int×ai×Int):=.ob (okC c/\(0:Int)<=8/\(8:Int)<=1000) (.lt (zx (vz c 8)) fun a=> .br (a.2 !=0) (.ret (0,c,a.2)) (.ret (a.1,uC c 8,0)))
def uG (c:ai):=(cFixed c).val
def aek:bi Z:=E1 [am1,LY,ay_] [] XC aAs [] func450 3 cFixed fun a=>okC a
def cPiece (c:ai)(n:Int):Pg (List Int):=.lt (aQ .i64 (c.At+n)) fun a=> .ob (0<=c.At/\c.At<=a/\a<=(↑(List.length c.Data):Int)) (.ob (0<=n/\n=n/\n<=(↑(XD (List.drop c.At.toNat (List.take a.toNat c.Data))).length:Int)) (.ret (List.take n.toNat (XD (List.drop c.At.toNat (List.take a.toNat c.Data))))))
def Ja (c:ai)(n:Int):=(cPiece c n).val
theorem apA (c:ai)(n:Int)(h:okC c/\0<=n/\n<=c.End - c.At):Is (cPiece c n):=
 is_ltw fun j i _=>is_ob (by obtain⟨⟨⟨a,f,g,d⟩,_⟩,b,e⟩:=h;omega) (is_ob (by obtain⟨⟨⟨a,f,g,d⟩,_⟩,b,e⟩:=h;rw[v_,Qca,Iq];omega) (is_ret))
def av4:bi Z:=E1 [] [] Qq (R1 Ul) [] func551 1 (u2 cPiece) (fun a=>okC a.1/\0<=a.2/\a.2<=a.1.End - a.1.At) fun a h=>apA a.1 a.2 h
def cText (c:ai)(n:Int):Pg (List UInt8×ai×Int):=.br (decide (n < 0)) (.ret ([],c,1)) (.lt (m_ c) fun b=> .br (decide (b < n)) (.ret ([],c,4)) (.br (decide (c.Text < n)) (.ret ([],c,3)) (.br (n==0) (.ret ([],c,0)) (.ob (okC c/\0<=n/\n<=c.End - c.At) (.lt (Ja c n) fun a=> .ob (BQ (fun(i:Nat)=>true) a.length=true) (.ret (Jo a,uC c n,0)))))))
def zn (c:ai)(n:Int):=(cText c n).val
theorem auv (c:ai)(n:Int)(h:okC c):Is (cText c n):=
 is_brd iR (fun _=>is_lt fun d a=>is_brd iR (fun _=>is_brd iR (fun _=>is_beq iR (fun _=>is_ob ((⟨h,by omega,by rw[<-kZ h];omega⟩)) (is_lt fun e b=>is_ob (oL (fun _=>rfl) _) (is_ret))))))
def azp:bi Z:=E1 [yT,LY,av4] [] Qq arE [] func512 3 (u2 cText) (fun a=>okC a.1) fun a h=>auv a.1 a.2 h
theorem adm {c:ai}(h:okC c){v2:Int×ai×Int}(i:v2=bP c)(m:v2.2.2=0){d b a:Int}(e:d=aQ .u64 (m_ v2.2.1))(f:b=aQ .i64 v2.1)(j:a=aQ .i64 (v2.2.1.At+b))(n:¬d < v2.1):0<=v2.2.1.At/\v2.2.1.At<=a/\a<=(v2.2.1.Data.length:Int):=by
 obtain⟨l,k⟩:=iw h;rw[<-i]at l k;obtain⟨⟨g,_⟩,_⟩:=k m;have kl:=kZ g;obtain⟨⟨q,p,o,r⟩,_⟩:=g;obtain⟨s,u2⟩:=l;rw[kl,bn (k:= .u64) kM]at e;rw[bn (k:= .i64) kM]at f;rw[bn (k:= .i64) kM]at j;omega
def aq4 (c:ai):Pg (Int×Int×ai×Int):=.ob (okC c) (.lt (bP c) fun a=> .br (a.2.2 !=0) (.ret (0,0,c,a.2.2)) (.ob ((8:Int)≠0) (.br (a.1.tmod (8:Int)==7) (.ret (0,0,c,5)) (.ob ((8:Int)≠0) (.lt (aQ .u64 (a.1.tdiv 8)) fun b=> .br (decide (b < 1)) (.ret (0,0,c,6)) (.ob ((8:Int)≠0) (.br (decide (65535 < b)) (.ret (0,0,c,6)) (.ob ((8:Int)≠0) (.ob ((8:Int)≠0) (.ret (aQ .i64 b,aQ .i64 (a.1.tmod 8),a.2.1,0)))))))))))
def dJ (c:ai):=(aq4 c).val
def aic:bi Z:=E1 [zQ] [] XC aHn [] func240 4 aq4 fun a=>okC a
def uData (c:ai)(d:Int):Pg (List UInt8×ai×Int):=.ob (okC c) (.lt (bP c) fun a=> .br (a.2.2 !=0) (.ret ([],c,a.2.2)) (.cut (fun(f:Int)=> .lt (aQ .u64 (m_ a.2.1)) fun g=> .br (decide (g < a.1)) (.ret ([],c,4)) (.lt (aQ .i64 a.1) fun e=> .br (decide (f < e)) (.ret ([],c,3)) (.lt (aQ .i64 (a.2.1.At+e)) fun b=> .ob (0<=a.2.1.At/\a.2.1.At<=b/\b<=(↑(List.length a.2.1.Data):Int)) (.ret (List.drop a.2.1.At.toNat (List.take b.toNat a.2.1.Data), ai.mk a.2.1.Data b a.2.1.End a.2.1.Depth a.2.1.Nodes a.2.1.Text,0))))) (.br (d==3) (rl c.Text) (rl 65536))))
def zA (c:ai)(a:Int):=(uData c a).val
theorem aww (c:ai)(a:Int)(h:okC c):Is (uData c a):=
 is_ob (h) (is_lt fun m b=>is_bne iR (fun _=>is_cut (is_beq iR iR) (fun k g=>is_lt fun l d=>is_brd iR (fun _=>is_ltw fun j e _=>is_brd iR (fun _=>is_ltw fun i f _=>is_ob ((adm h b aj d e f aj)) (is_ret))))))
def axI:bi Z:=E1 [yT,zQ] [jS 100007 (bD (fun b=>[s0 10]) iL)] Qq arE [] func451 3 (u2 uData) (fun a=>okC a.1) fun a h=>aww a.1 a.2 h
theorem afB {s:Str}(h:(zx s).2=0):8<=s.length:=by
 rcases Qdu s.length 8 with a | a
 ·unfold zx vtfix at h;simp only[aF,ay]at h
  grind
 ·exact a
theorem Ti {c:ai}(h:okC c)(a:(uG c).2.2=0):yu 1 c (uG c).2.1/\(uG c).2.1.Nodes=c.Nodes:=by
 have g:=wG h;have d:=JE h (n:=8) dH;unfold uG cFixed at a⊢;simp only[aV,aT,aF,ay]at a⊢;cases e:(zx (vz c 8)).2 !=0 with
 | true=>
  grind
 | false=>
  have f:=afB (bU.1 e);have b:(vz c 8).length<=(rC c).length:=by
   grind
  exact⟨F9 h dH aj dH,rfl⟩
theorem apx {c:ai}(h:okC c){n:Int}(a:(zn c n).2.2=0):yu 0 c (zn c n).2.1/\(zn c n).2.1.Nodes=c.Nodes/\(0<=n/\n<=c.End - c.At)/\(zn c n).2.1.At=c.At+n:=by
 have f:=kZ h;unfold zn cText at a⊢;simp only[aV,aT,aF,ay]at a⊢;by_cases e:n < 0
 ·grind
 rw[pO e]at a⊢;by_cases d:m_ c < n
 ·grind
 rw[pO d]at a⊢;by_cases g:c.Text < n
 ·grind
 rw[pO g];rw[f]at d;cases b:n==0 with
 | true=>
  have b:n=0:=by simpa using b
  subst b;exact⟨⟨h,rfl,rfl,rfl,rfl,N8 _,by grind⟩,rfl,⟨N8 _,by omega⟩,by grind⟩
 | false=>
  grind [F9,FW]
theorem nV {c:ai}(h:okC c)(a:(dJ c).2.2.2=0):yu 1 c (dJ c).2.2.1/\(dJ c).2.2.1.Nodes=c.Nodes:=by
 obtain⟨_,k⟩:=iw h;unfold dJ aq4 at a⊢;simp only[aV,aT,aF,ay]at a⊢
 grind
theorem apg {c:ai}(h:okC c){a:Int}(b:(zA c a).2.2=0):yu 1 c (zA c a).2.1/\(zA c a).2.1.Nodes=c.Nodes:=by
 obtain⟨u,k⟩:=iw h;unfold zA uData at b⊢;simp only[aV,aT,aF,ay,dn]at b⊢;cases e:(bP c).2.2 !=0 with
 | true=>
  grind
 | false=>
  obtain⟨f,n⟩:=k (bU.1 e);have d:=f.1;have kl:=kZ d;have g:thenS (bif a==3 then(Sum.inl c.Text:Int⊕(Str×ai×Int))else Sum.inl 65536)=thenS (.inl (bif a==3 then c.Text else 65536)):=by grind
  rw[e]at b;simp only[lL]at b⊢;rw[g]at b⊢;simp only[eP]at b⊢;obtain⟨⟨x,w,l,j⟩,o⟩:=d;obtain⟨y,u2⟩:=u;rw[kl,bn (k:= .u64) kM]at b⊢;by_cases t:(bP c).2.1.End - (bP c).2.1.At < (bP c).1
  ·grind
  rw[pO t]at b⊢;rw[bn (k:= .i64) kM]at b⊢;by_cases p:(bif a==3 then c.Text else 65536) < (bP c).1
  ·grind
  rw[pO p];simp only[lL];rw[bn (k:= .i64) kM];obtain⟨_,q,i,m,s,r,v⟩:=f;exact⟨⟨⟨⟨by grind,by grind,l,j⟩,o⟩,q,i,m,s,r,by grind⟩,n⟩
def wM (c:ai)(f:Raw):Pg (ai×Int×Raw):=.cut (fun(e:Bool)=> .br e (.ob (okC c) (.lt (bP c) fun d=> .ret (d.2.1,d.2.2,Raw.mk f.Num f.fB d.1 f.Data))) (.br (f.fB==2) (.ob (okC c) (.lt (uG c) fun b=> .ret (b.2.1,b.2.2,Raw.mk f.Num f.fB b.1 f.Data))) (.ob (okC c) (.lt (zA c f.fB) fun a=> .ret (a.2.1,a.2.2,Raw.mk f.Num f.fB f.Bits a.1))))) (.br (f.fB==0) (rl (f.fB==0)) (rl (f.fB==1)))
def dU (c:ai)(f:Raw):=(wM c f).val
def afu:bi Z:=ZY [zQ,aek,axI] [jS 100006 (bD (fun b=>[s0 24]) oK)] (aCons (aAgg cd_Cursor) Dn) (b1 (bCells cd_Raw)) (shr [.slot 0 true (nn 6), s0 1, .cells 0 (nn 4)] (aJ cd_Cursor (aJ cI (l1 cd_Raw)))) [] func337 2 (u11 wM) fun a=>okC a.1.1
theorem ag7 {c:ai}(h:okC c){n:Int}(a:(nO c n).2=0):nO c n=(ai.mk c.Data c.At c.End c.Depth (c.Nodes - n) c.Text,0)/\0<=n/\n<=c.Nodes:=by
 obtain⟨g,f,⟨e,i⟩,j⟩:=h;unfold nO ai3 at a⊢;simp only[aF,ay]at a⊢;by_cases b:n < 0
 ·grind
 rw[pO b]at a⊢;by_cases d:c.Nodes < n
 ·grind
 rw[pO d];have w:aQ .i64 (c.Nodes - n)=c.Nodes - n:=bn (k:= .i64) kM
 grind
theorem jJ {c:ai}(h:okC c){n:Int}(i:(nO c n).2=0):yu 0 c (nO c n).1/\(nO c n).1.Nodes=c.Nodes - n/\(nO c n).1.At=c.At/\0<=n/\n<=c.Nodes:=by
 obtain⟨e,g,b⟩:=ag7 h i;obtain⟨d,a,⟨j,k⟩,f⟩:=h;rw[e];exact⟨⟨⟨d,a,⟨by grind,by grind⟩,f⟩,rfl,rfl,rfl,rfl,by grind,by grind⟩,rfl,rfl,g,b⟩
theorem G5 {c:ai}(h:okC c){f:Raw}(a:(dU c f).2.1=0):yu 1 c (dU c f).1/\(dU c f).1.Nodes=c.Nodes:=by
 have b:∀K:Bool->ai×Int×Raw,(thenS (bif f.fB==0 then(Sum.inl (f.fB==0):Bool⊕(ai×Int×Raw))else Sum.inl (f.fB==1)) K)=K (bif f.fB==0 then true else f.fB==1):=fun K=>by cases e:f.fB==0<;>rfl
 unfold dU wM at a⊢;simp only[aV,aT,aF,ay,dn]at a⊢
 grind [Ti,iw,apg]
def uNext (c:ai):Pg (Raw×ai×Int):=.ob (okC c) (.lt (dJ c) fun a=> .br (a.2.2.2 !=0) (.ret (Raw.mk 0 0 0 [],c,a.2.2.2)) (.lt (nO a.2.2.1 1) fun b=> .br (b.2 !=0) (.ret (Raw.mk 0 0 0 [],c,b.2)) (.ob (okC b.1) (.lt (dU b.1 (Raw.mk a.1 a.2.1 0 [])) fun d=> .br (d.2.1 !=0) (.ret (Raw.mk 0 0 0 [],c,d.2.1)) (.ret (d.2.2,d.1,0))))))
def j_ (c:ai):=(uNext c).val
theorem avw (c:ai)(h:okC c):Is (uNext c):=
 is_ob (h) (is_lt fun f a=>is_bne iR (fun _=>is_lt fun i d=>is_bne iR (fun _=>is_ob (by have k:=(nV h dm).1.1;rw[<-a]at k;have e:=(jJ k (n:=1) dm).1.1;grind) (is_lt fun g b=>is_bne iR iR))))
def azl:bi Z:=E1 [agC,aic,afu] [] XC ayJ [] func242 3 uNext (fun a=>okC a) fun a h=>avw a h
theorem ZN {c:ai}(h:okC c)(b:(j_ c).2.2=0):yu 2 c (j_ c).2.1:=by
 have k:=nV h;unfold j_ uNext at b⊢;simp only[aV,aT,aF,ay]at b⊢;generalize dJ c=a at*;cases e:a.2.2.2 !=0 with
 | true=>
  grind
 | false=>
  obtain⟨j,o⟩:=k (bU.1 e);rw[e]at b;simp only[lL]at b⊢;have s:=jJ j.1 (n:=1);generalize nO a.2.2.1 1=i at*;cases g:i.2 !=0 with
  | true=>
   grind
  | false=>
   obtain⟨d,_⟩:=s (bU.1 g);rw[g]at b;simp only[lL]at b⊢;have t:=G5 d.1 (f:=Raw.mk a.1 a.2.1 0 []);generalize dU i.1 (Raw.mk a.1 a.2.1 0 [])=l at*;cases m:l.2.1 !=0 with
   | true=>
    grind
   | false=>exact fM (f_ j (f_ d (t (bU.1 m)).1)) dH
end
end Go.Proofs.YtenjnekcoapajaaGreatDoor
