/- Server: the data. -/
import Derived.Test.YtmadgoehmjmlmaaGreatDoorProg
import Derived.Test.YtmadgoehmjmlmaaGreatDoorEng15
import Derived.Test.YtmadgoehmjmlmaaGreatDoorEng14
import Derived.Lib.Strings
import Derived.Lib.Slices
import Derived.Lib.Walk
import Derived.Lib.Bytealg
import Derived.Lib.Builder
namespace Go.Proofs.YtmadgoehmjmlmaaGreatDoor
noncomputable section
open Go.RowKit Go.Vc
open Tryz
set_option linter.unusedVariables false
set_option linter.unusedSimpArgs false
set_option maxRecDepth 100000
set_option maxHeartbeats 4000000
structure nH where
 From:Int
 To:Int
deriving DecidableEq
structure Raw where
 Num:Int
 eU:Int
 Bits:Int
 Data:Str
deriving DecidableEq
mutual
inductive af where
 | mk (Kind_:Int) (avp:Int) (avx:Str) (avt:_root_.List af) (avv:_root_.List Pair) (ai2:_root_.List Slot) (aIz:_root_.List Raw)
inductive Slot where
 | mk (aKv:Int) (aJP:af)
inductive Pair where
 | mk (aKu:af) (aJP:af)
end
def af.Kind (x:af):Int:=
 match x with
 | .mk a _ _ _ _ _ _=>a
def af.Bits (x:af):Int:=
 match x with
 | .mk _ a _ _ _ _ _=>a
def af.Text (x:af):Str:=
 match x with
 | .mk _ _ a _ _ _ _=>a
def af.List (x:af):_root_.List af:=
 match x with
 | .mk _ _ _ a _ _ _=>a
def af.Pairs (x:af):_root_.List Pair:=
 match x with
 | .mk _ _ _ _ a _ _=>a
def af.Slots (x:af):_root_.List Slot:=
 match x with
 | .mk _ _ _ _ _ a _=>a
def af.bJ (x:af):_root_.List Raw:=
 match x with
 | .mk _ _ _ _ _ _ a=>a
def af.re (x:af):af:=af.mk x.Kind x.Bits x.Text x.List x.Pairs x.Slots x.bJ
@[simp] theorem af.dK (x:af):af.re x=x:=by cases x;rfl
theorem af.eta (x:af):af.mk x.Kind x.Bits x.Text x.List x.Pairs x.Slots x.bJ=x:=by cases x;rfl
def Slot.Num (x:Slot):Int:=
 match x with
 | .mk a _=>a
def Slot.Val (x:Slot):af:=
 match x with
 | .mk _ a=>a
def Slot.re (x:Slot):Slot:=Slot.mk x.Num x.Val
@[simp] theorem Slot.dK (x:Slot):Slot.re x=x:=by cases x;rfl
theorem Slot.eta (x:Slot):Slot.mk x.Num x.Val=x:=by cases x;rfl
def Pair.Key (x:Pair):af:=
 match x with
 | .mk a _=>a
def Pair.Val (x:Pair):af:=
 match x with
 | .mk _ a=>a
def Pair.re (x:Pair):Pair:=Pair.mk x.Key x.Val
@[simp] theorem Pair.dK (x:Pair):Pair.re x=x:=by cases x;rfl
theorem Pair.eta (x:Pair):Pair.mk x.Key x.Val=x:=by cases x;rfl
structure Note where
 Name:Str
 Val:af
structure Item where
 Name:Str
 Num:Int
 Notes:_root_.List Note
structure dV where
 Name:Str
 Open:Bool
 Items:_root_.List Item
 Reserved:_root_.List nH
 Notes:_root_.List Note
structure eG where
 Name:Str
 In:Str
 Out:Str
 Shape:Int
 Notes:_root_.List Note
structure cO where
 Name:Str
 Methods:_root_.List eG
 Notes:_root_.List Note
structure ul where
 Kind:Int
 Name:Str
deriving DecidableEq
structure aJ where
 Num:Int
 Name:Str
 Card:Int
 Key:Int
 dZ:ul
 Union:Str
 dw:Bool
 Default:af
 Notes:_root_.List Note
structure bg where
 Name:Str
 Fields:_root_.List aJ
 Reserved:_root_.List nH
 Gone:_root_.List Str
 Notes:_root_.List Note
structure ay where
 Messages:_root_.List bg
 Enums:_root_.List dV
 jE:_root_.List cO
structure iZ where
 Kind:Int
 Key:Str
 Val:Str
 Num:Int
 nH:Int
deriving DecidableEq
structure di where
 Method:Str
 Kind:Int
 Num:Int
 avq:Int
deriving DecidableEq
structure dO where
 S:ay
 H:_root_.List di
 L:_root_.List iZ
 Most:Int
structure Trace where
 Method:Str
 Times:_root_.List Int
deriving DecidableEq
structure l_ where
 Key:Str
 Val:Str
deriving DecidableEq
structure Status where
 Code:Int
 Text:Str
deriving DecidableEq
structure fU where
 kL:Int
 Id:Int
 Method:Str
 eQ:_root_.List l_
 fA:Int
 In:_root_.List Str
 Ready:Int
 pK:_root_.List Str
 Status:Status
 mf:Bool
deriving DecidableEq
structure Server where
 Name:Str
 ay:ay
 Handlers:_root_.List di
 iV:_root_.List iZ
 Traces:_root_.List Trace
 Tasks:_root_.List fU
 Most:Int
 mX:Bool
structure Head where
 cO:Str
 Method:Str
 fA:Int
 eQ:_root_.List l_
deriving DecidableEq
structure dQ where
 Kind:Int
 Now:Int
 kL:Int
 Id:Int
 H:Head
 Shape:Int
 Data:Str
deriving DecidableEq
structure bn where
 conn:Int
 id:Int
 open_:Bool
deriving DecidableEq
structure Op where
 Num:Int
 Name:Str
 Alias:Str
 Card:Int
 Key:Int
 Kind:Int
 Target:Int
 Union:Int
deriving DecidableEq
structure bC where
 Name:Str
 Ops:_root_.List Op
 WO:Int
deriving DecidableEq
structure dD where
 a_:_root_.List bC
 Enums:_root_.List dV
structure dG where
 s:ay
 h:di
 m:eG
 DR:_root_.List af
 one:Bool
structure qP where
 Bytes:Int
 Depth:Int
 Nodes:Int
 Text:Int
deriving DecidableEq
structure ja where
 Def:Str
 Num:Int
 Err:Int
deriving DecidableEq
structure ax where
 MX:Str
 num:Int
 out:_root_.List ja
deriving DecidableEq
structure DC where
 key:Str
 val:Str
deriving DecidableEq
structure Dz where
 key:Str
 val:Str
deriving DecidableEq
structure FM where
 most:Int
deriving DecidableEq
structure Dy where
 most:Int
 span:Int
deriving DecidableEq
structure yz where
 span:Int
deriving DecidableEq
structure WM where
deriving DecidableEq
structure ai where
 p:dD
structure iK where
 e:Int
 code:Int
deriving DecidableEq
structure aN where
 Data:Str
 At:Int
 End:Int
 Depth:Int
 Nodes:Int
 Text:Int
deriving DecidableEq
structure ae where
 p:dD
 c:aN
structure aB where
 p:dD
structure gW where
 kind:Int
 targets:Int
deriving DecidableEq
structure ZQ where
 Kind:Int
 Bits:Int
 Text:Str
 List:_root_.List af
 Pairs:_root_.List Pair
 Slots:_root_.List Slot
 bJ:_root_.List Raw
structure P9 where
 slots:_root_.List Slot
 aKk:_root_.List Raw
inductive D where
 | bg (l:List bg)
 | dV (l:List dV)
 | cO (l:List cO)
 | di (l:List di)
 | iZ (l:List iZ)
 | dQ (l:List dQ)
 | Trace (l:List Trace)
 | fU (l:List fU)
 | bn (l:List bn)
 | l_ (l:List l_)
 | str (l:List Str)
 | Note (l:List Note)
 | af (l:List af)
 | Pair (l:List Pair)
 | Slot (l:List Slot)
 | Raw (l:List Raw)
 | aJ (l:List aJ)
 | nH (l:List nH)
 | eG (l:List eG)
 | ja (l:List ja)
 | bC (l:List bC)
 | aox (l:List (List Str))
 | Item (l:List Item)
 | Op (l:List Op)
 | iK (l:List iK)
 | i64 (l:List Int)
 | bool (l:List Bool)
 | u8 (l:List Int)
 | ZR (l:List (List af))
 | ZT (l:List (List Pair))
 | aow (l:List (List Raw))
 | amn (l:List Unit)
 | nU (l:List (Str×Bool))
 | jO (l:List (Str×gW))
def mZ (d:D):Option (List (Str×Bool)):=
 match d with
 | .nU l=>some l
 | _=>none
def kY:iW D (List (Str×Bool)):=as3 D.nU mZ
def ou (d:D):Option (List (Str×gW)):=
 match d with
 | .jO l=>some l
 | _=>none
def zG:iW D (List (Str×gW)):=as3 D.jO ou
def OD (d:D):Option (List Unit):=
 match d with
 | .amn l=>some l
 | _=>none
def wo (d:D):Option (List bg):=
 match d with
 | .bg l=>some l
 | _=>none
def sG:iW D (List bg):=qg D.bg wo []
def Ec (d:D):Option (List dV):=
 match d with
 | .dV l=>some l
 | _=>none
def gZ:iW D (List dV):=qg D.dV Ec []
def vX (d:D):Option (List cO):=
 match d with
 | .cO l=>some l
 | _=>none
def zx:iW D (List cO):=qg D.cO vX []
def vM (d:D):Option (List di):=
 match d with
 | .di l=>some l
 | _=>none
def vV:iW D (List di):=qg D.di vM []
def Aq (d:D):Option (List iZ):=
 match d with
 | .iZ l=>some l
 | _=>none
def qJ:iW D (List iZ):=qg D.iZ Aq []
def qW (d:D):Option (List dQ):=
 match d with
 | .dQ l=>some l
 | _=>none
def qU:iW D (List dQ):=qg D.dQ qW []
def xg (d:D):Option (List Trace):=
 match d with
 | .Trace l=>some l
 | _=>none
def jB:iW D (List Trace):=qg D.Trace xg []
def Eu (d:D):Option (List fU):=
 match d with
 | .fU l=>some l
 | _=>none
def AX:iW D (List fU):=qg D.fU Eu []
def oZ (d:D):Option (List bn):=
 match d with
 | .bn l=>some l
 | _=>none
def lG:iW D (List bn):=qg D.bn oZ []
def Fh (d:D):Option (List l_):=
 match d with
 | .l_ l=>some l
 | _=>none
def tX:iW D (List l_):=qg D.l_ Fh []
def JP (d:D):Option (List Str):=
 match d with
 | .str l=>some l
 | _=>none
def dh:iW D (List Str):=qg D.str JP []
def FI (d:D):Option (List Note):=
 match d with
 | .Note l=>some l
 | _=>none
def lK:iW D (List Note):=qg D.Note FI []
def EC (d:D):Option (List af):=
 match d with
 | .af l=>some l
 | _=>none
def jd:iW D (List af):=qg D.af EC []
def oV (d:D):Option (List Pair):=
 match d with
 | .Pair l=>some l
 | _=>none
def dW:iW D (List Pair):=qg D.Pair oV []
def jD (d:D):Option (List Slot):=
 match d with
 | .Slot l=>some l
 | _=>none
def bD:iW D (List Slot):=qg D.Slot jD []
def kZ (d:D):Option (List Raw):=
 match d with
 | .Raw l=>some l
 | _=>none
def bF:iW D (List Raw):=qg D.Raw kZ []
def uK (d:D):Option (List aJ):=
 match d with
 | .aJ l=>some l
 | _=>none
def gp:iW D (List aJ):=qg D.aJ uK []
def EJ (d:D):Option (List nH):=
 match d with
 | .nH l=>some l
 | _=>none
def rq:iW D (List nH):=qg D.nH EJ []
def vT (d:D):Option (List eG):=
 match d with
 | .eG l=>some l
 | _=>none
def yO:iW D (List eG):=qg D.eG vT []
def vS (d:D):Option (List ja):=
 match d with
 | .ja l=>some l
 | _=>none
def sF:iW D (List ja):=qg D.ja vS []
def EK (d:D):Option (List bC):=
 match d with
 | .bC l=>some l
 | _=>none
def jo:iW D (List bC):=qg D.bC EK []
def EY (d:D):Option (List (List Str)):=
 match d with
 | .aox l=>some l
 | _=>none
def ar2:iW D (List (List Str)):=qg D.aox EY []
def Ey (d:D):Option (List Item):=
 match d with
 | .Item l=>some l
 | _=>none
def ig:iW D (List Item):=qg D.Item Ey []
def SV (d:D):Option (List Op):=
 match d with
 | .Op l=>some l
 | _=>none
def nR:iW D (List Op):=qg D.Op SV []
def vY (d:D):Option (List iK):=
 match d with
 | .iK l=>some l
 | _=>none
def afd:iW D (List iK):=qg D.iK vY []
def GM (d:D):Option (List Int):=
 match d with
 | .i64 l=>some l
 | _=>none
def BO:iW D (List Int):=qg D.i64 GM []
def oW (d:D):Option (List Bool):=
 match d with
 | .bool l=>some l
 | _=>none
def Ae:iW D (List Bool):=qg D.bool oW []
def VK (d:D):Option (List Int):=
 match d with
 | .u8 l=>some l
 | _=>none
def OU:iW D (List Int):=qg D.u8 VK []
def Bd (d:D):Option (List (List af)):=
 match d with
 | .ZR l=>some l
 | _=>none
def Zy:iW D (List (List af)):=qg D.ZR Bd []
def Ai (d:D):Option (List (List Pair)):=
 match d with
 | .ZT l=>some l
 | _=>none
def Zr:iW D (List (List Pair)):=qg D.ZT Ai []
def Fz (d:D):Option (List (List Raw)):=
 match d with
 | .aow l=>some l
 | _=>none
def aff:iW D (List (List Raw)):=qg D.aow Fz []
def RH:iW D nH:=kM (bH (fO .i64) (fO .i64)) (fun p=>nH.mk (p.1) (p.2)) (fun b=>(b.From,b.To))
def oq:iW D Raw:=kM (bH (fO .i64) (bH (fO .i64) (bH (fO .u64) cStr))) (fun p=>Raw.mk (p.1) (p.2.1) (p.2.2.1) (p.2.2.2)) (fun b=>(b.Num,b.eU,b.Bits,b.Data))
def aI:iW D af:=kM (bH (fO .i64) (bH (fO .u64) (bH cStr (bH jd (bH dW (bH bD bF)))))) (fun p=>af.mk (p.1) (p.2.1) (p.2.2.1) (p.2.2.2.1) (p.2.2.2.2.1) (p.2.2.2.2.2.1) (p.2.2.2.2.2.2)) (fun b=>(b.Kind,b.Bits,b.Text,b.List,b.Pairs,b.Slots,b.bJ))
def mV:iW D Slot:=kM (bH (fO .i64) aI) (fun p=>Slot.mk (p.1) (p.2)) (fun b=>(b.Num,b.Val))
def vz:iW D Pair:=kM (bH aI aI) (fun p=>Pair.mk (p.1) (p.2)) (fun b=>(b.Key,b.Val))
def GG:iW D Note:=kM (bH cStr aI) (fun p=>Note.mk (p.1) (p.2)) (fun b=>(b.Name,b.Val))
def lZ:iW D Item:=kM (bH cStr (bH (fO .i64) lK)) (fun p=>Item.mk (p.1) (p.2.1) (p.2.2)) (fun b=>(b.Name,b.Num,b.Notes))
def jJ:iW D dV:=kM (bH cStr (bH aH (bH ig (bH rq lK)))) (fun p=>dV.mk (p.1) (p.2.1) (p.2.2.1) (p.2.2.2.1) (p.2.2.2.2)) (fun b=>(b.Name,b.Open,b.Items,b.Reserved,b.Notes))
def p_:iW D eG:=kM (bH cStr (bH cStr (bH cStr (bH (fO .i64) lK)))) (fun p=>eG.mk (p.1) (p.2.1) (p.2.2.1) (p.2.2.2.1) (p.2.2.2.2)) (fun b=>(b.Name,b.In,b.Out,b.Shape,b.Notes))
def rQ:iW D cO:=kM (bH cStr (bH yO lK)) (fun p=>cO.mk (p.1) (p.2.1) (p.2.2)) (fun b=>(b.Name,b.Methods,b.Notes))
def vH:iW D ul:=kM (bH (fO .i64) cStr) (fun p=>ul.mk (p.1) (p.2)) (fun b=>(b.Kind,b.Name))
def d_:iW D aJ:=kM (bH (fO .i64) (bH cStr (bH (fO .i64) (bH (fO .i64) (bH vH (bH cStr (bH aH (bH aI lK)))))))) (fun p=>aJ.mk (p.1) (p.2.1) (p.2.2.1) (p.2.2.2.1) (p.2.2.2.2.1) (p.2.2.2.2.2.1) (p.2.2.2.2.2.2.1) (p.2.2.2.2.2.2.2.1) (p.2.2.2.2.2.2.2.2)) (fun b=>(b.Num,b.Name,b.Card,b.Key,b.dZ,b.Union,b.dw,b.Default,b.Notes))
def gQ:iW D bg:=kM (bH cStr (bH gp (bH rq (bH dh lK)))) (fun p=>bg.mk (p.1) (p.2.1) (p.2.2.1) (p.2.2.2.1) (p.2.2.2.2)) (fun b=>(b.Name,b.Fields,b.Reserved,b.Gone,b.Notes))
def bI:iW D ay:=kM (bH sG (bH gZ zx)) (fun p=>ay.mk (p.1) (p.2.1) (p.2.2)) (fun b=>(b.Messages,b.Enums,b.jE))
def xO:iW D iZ:=kM (bH (fO .i64) (bH cStr (bH cStr (bH (fO .i64) (fO .i64))))) (fun p=>iZ.mk (p.1) (p.2.1) (p.2.2.1) (p.2.2.2.1) (p.2.2.2.2)) (fun b=>(b.Kind,b.Key,b.Val,b.Num,b.nH))
def jr:iW D di:=kM (bH cStr (bH (fO .i64) (bH (fO .i64) (fO .i64)))) (fun p=>di.mk (p.1) (p.2.1) (p.2.2.1) (p.2.2.2)) (fun b=>(b.Method,b.Kind,b.Num,b.avq))
def qm:iW D dO:=kM (bH bI (bH vV (bH qJ (fO .i64)))) (fun p=>dO.mk (p.1) (p.2.1) (p.2.2.1) (p.2.2.2)) (fun b=>(b.S,b.H,b.L,b.Most))
def Es:iW D Trace:=kM (bH cStr BO) (fun p=>Trace.mk (p.1) (p.2)) (fun b=>(b.Method,b.Times))
def L8:iW D l_:=kM (bH cStr cStr) (fun p=>l_.mk (p.1) (p.2)) (fun b=>(b.Key,b.Val))
def jC:iW D Status:=kM (bH (fO .i64) cStr) (fun p=>Status.mk (p.1) (p.2)) (fun b=>(b.Code,b.Text))
def F_:iW D fU:=kM (bH (fO .i64) (bH (fO .i64) (bH cStr (bH tX (bH (fO .i64) (bH dh (bH (fO .i64) (bH dh (bH jC aH))))))))) (fun p=>fU.mk (p.1) (p.2.1) (p.2.2.1) (p.2.2.2.1) (p.2.2.2.2.1) (p.2.2.2.2.2.1) (p.2.2.2.2.2.2.1) (p.2.2.2.2.2.2.2.1) (p.2.2.2.2.2.2.2.2.1) (p.2.2.2.2.2.2.2.2.2)) (fun b=>(b.kL,b.Id,b.Method,b.eQ,b.fA,b.In,b.Ready,b.pK,b.Status,b.mf))
def fK:iW D Server:=kM (bH cStr (bH bI (bH vV (bH qJ (bH jB (bH AX (bH (fO .i64) aH))))))) (fun p=>Server.mk (p.1) (p.2.1) (p.2.2.1) (p.2.2.2.1) (p.2.2.2.2.1) (p.2.2.2.2.2.1) (p.2.2.2.2.2.2.1) (p.2.2.2.2.2.2.2)) (fun b=>(b.Name,b.ay,b.Handlers,b.iV,b.Traces,b.Tasks,b.Most,b.mX))
def qC:iW D Head:=kM (bH cStr (bH cStr (bH (fO .i64) tX))) (fun p=>Head.mk (p.1) (p.2.1) (p.2.2.1) (p.2.2.2)) (fun b=>(b.cO,b.Method,b.fA,b.eQ))
def wS:iW D dQ:=kM (bH (fO .u8) (bH (fO .i64) (bH (fO .i64) (bH (fO .i64) (bH qC (bH (fO .i64) cStr)))))) (fun p=>dQ.mk (p.1) (p.2.1) (p.2.2.1) (p.2.2.2.1) (p.2.2.2.2.1) (p.2.2.2.2.2.1) (p.2.2.2.2.2.2)) (fun b=>(b.Kind,b.Now,b.kL,b.Id,b.H,b.Shape,b.Data))
def J3:iW D bn:=kM (bH (fO .i64) (bH (fO .i64) aH)) (fun p=>bn.mk (p.1) (p.2.1) (p.2.2)) (fun b=>(b.conn,b.id,b.open_))
def ji:iW D Op:=kM (bH (fO .i64) (bH cStr (bH cStr (bH (fO .i64) (bH (fO .i64) (bH (fO .i64) (bH (fO .i64) (fO .i64)))))))) (fun p=>Op.mk (p.1) (p.2.1) (p.2.2.1) (p.2.2.2.1) (p.2.2.2.2.1) (p.2.2.2.2.2.1) (p.2.2.2.2.2.2.1) (p.2.2.2.2.2.2.2)) (fun b=>(b.Num,b.Name,b.Alias,b.Card,b.Key,b.Kind,b.Target,b.Union))
def iG:iW D bC:=kM (bH cStr (bH nR (fO .i64))) (fun p=>bC.mk (p.1) (p.2.1) (p.2.2)) (fun b=>(b.Name,b.Ops,b.WO))
def dX:iW D dD:=kM (bH jo gZ) (fun p=>dD.mk (p.1) (p.2)) (fun b=>(b.a_,b.Enums))
def eu:iW D dG:=kM (bH bI (bH jr (bH p_ (bH jd aH)))) (fun p=>dG.mk (p.1) (p.2.1) (p.2.2.1) (p.2.2.2.1) (p.2.2.2.2)) (fun b=>(b.s,b.h,b.m,b.DR,b.one))
def Am:iW D qP:=kM (bH (fO .i64) (bH (fO .i64) (bH (fO .i64) (fO .i64)))) (fun p=>qP.mk (p.1) (p.2.1) (p.2.2.1) (p.2.2.2)) (fun b=>(b.Bytes,b.Depth,b.Nodes,b.Text))
def UM:iW D ja:=kM (bH cStr (bH (fO .i64) (fO .i64))) (fun p=>ja.mk (p.1) (p.2.1) (p.2.2)) (fun b=>(b.Def,b.Num,b.Err))
def aQ:iW D ax:=kM (bH cStr (bH (fO .i64) sF)) (fun p=>ax.mk (p.1) (p.2.1) (p.2.2)) (fun b=>(b.MX,b.num,b.out))
def Jf:iW D DC:=kM (bH cStr cStr) (fun p=>DC.mk (p.1) (p.2)) (fun b=>(b.key,b.val))
def IW:iW D Dz:=kM (bH cStr cStr) (fun p=>Dz.mk (p.1) (p.2)) (fun b=>(b.key,b.val))
def KH:iW D FM:=kM (fO .i64) (fun p=>FM.mk p) (fun b=>(b.most))
def Jo:iW D Dy:=kM (bH (fO .i64) (fO .i64)) (fun p=>Dy.mk (p.1) (p.2)) (fun b=>(b.most,b.span))
def DJ:iW D yz:=kM (fO .i64) (fun p=>yz.mk p) (fun b=>(b.span))
def KW:iW D WM:=kM ac5 (fun _=>⟨⟩) (fun _=>())
def fJ:iW D ai:=kM dX (fun p=>ai.mk p) (fun b=>(b.p))
def Uu:iW D iK:=kM (bH (fO .i64) (fO .i64)) (fun p=>iK.mk (p.1) (p.2)) (fun b=>(b.e,b.code))
def dN:iW D aN:=kM (bH cStr (bH (fO .i64) (bH (fO .i64) (bH (fO .i64) (bH (fO .i64) (fO .i64)))))) (fun p=>aN.mk (p.1) (p.2.1) (p.2.2.1) (p.2.2.2.1) (p.2.2.2.2.1) (p.2.2.2.2.2)) (fun b=>(b.Data,b.At,b.End,b.Depth,b.Nodes,b.Text))
def aW:iW D ae:=kM (bH dX dN) (fun p=>ae.mk (p.1) (p.2)) (fun b=>(b.p,b.c))
def jk:iW D aB:=kM dX (fun p=>aB.mk p) (fun b=>(b.p))
def abJ:iW D gW:=kM (bH (fO .i64) (fO .i64)) (fun p=>gW.mk (p.1) (p.2)) (fun b=>(b.kind,b.targets))
def aa7:iW D ZQ:=kM (bH (fO .i64) (bH (fO .u64) (bH cStr (bH jd (bH dW (bH bD bF)))))) (fun p=>ZQ.mk (p.1) (p.2.1) (p.2.2.1) (p.2.2.2.1) (p.2.2.2.2.1) (p.2.2.2.2.2.1) (p.2.2.2.2.2.2)) (fun b=>(b.Kind,b.Bits,b.Text,b.List,b.Pairs,b.Slots,b.bJ))
def Tc:iW D P9:=kM (bH bD bF) (fun p=>P9.mk (p.1) (p.2)) (fun b=>(b.slots,b.aKk))
def Fq:nH:=nH.mk 0 0
def pz:Raw:=Raw.mk 0 0 0 []
def fQ:af:=af.mk 0 0 [] [] [] [] []
def bK:Slot:=Slot.mk 0 fQ
def gJ:Pair:=Pair.mk fQ fQ
def Np:Note:=Note.mk [] fQ
def o5:Item:=Item.mk [] 0 []
def nO:dV:=dV.mk [] false [] [] []
def xn:eG:=eG.mk [] [] [] 0 []
def AY:cO:=cO.mk [] [] []
def av7:ul:=ul.mk 0 []
def aK:aJ:=aJ.mk 0 [] 0 0 av7 [] false fQ []
def jb:bg:=bg.mk [] [] [] [] []
def uk:iZ:=iZ.mk 0 [] [] 0 0
def nT:di:=di.mk [] 0 0 0
def jT:Trace:=Trace.mk [] []
def Oi:l_:=l_.mk [] []
def aqi:Status:=Status.mk 0 []
def bz:fU:=fU.mk 0 0 [] [] 0 [] 0 [] aqi false
def aE3:Head:=Head.mk [] [] 0 []
def mO:dQ:=dQ.mk 0 0 0 0 aE3 0 []
def bY:bn:=bn.mk 0 0 false
def AQ:Op:=Op.mk 0 [] [] 0 0 0 0 0
def bW:bC:=bC.mk [] [] 0
def aot:ja:=ja.mk [] 0 0
def fH:iK:=iK.mk 0 0
def afO:gW:=gW.mk 0 0
def VS:El D:=⟨bg,gQ,jb,D.bg,wo⟩
def ajM:El D:=⟨dV,jJ,nO,D.dV,Ec⟩
def Uk:El D:=⟨cO,rQ,AY,D.cO,vX⟩
def Wh:El D:=⟨di,jr,nT,D.di,vM⟩
def aeS:El D:=⟨iZ,xO,uk,D.iZ,Aq⟩
def KD:El D:=⟨dQ,wS,mO,D.dQ,qW⟩
def ac8:El D:=⟨Trace,Es,jT,D.Trace,xg⟩
def alb:El D:=⟨fU,F_,bz,D.fU,Eu⟩
def La:El D:=⟨bn,J3,bY,D.bn,oZ⟩
def akT:El D:=⟨l_,L8,Oi,D.l_,Fh⟩
def au7:El D:=⟨Str,cStr,[],D.str,JP⟩
def ak7:El D:=⟨Note,GG,Np,D.Note,FI⟩
def al0:El D:=⟨af,aI,fQ,D.af,EC⟩
def al1:El D:=⟨Pair,vz,gJ,D.Pair,oV⟩
def ajW:El D:=⟨Slot,mV,bK,D.Slot,jD⟩
def apu:El D:=⟨Raw,oq,pz,D.Raw,kZ⟩
def YM:El D:=⟨aJ,d_,aK,D.aJ,uK⟩
def akw:El D:=⟨nH,RH,Fq,D.nH,EJ⟩
def VX:El D:=⟨eG,p_,xn,D.eG,vT⟩
def Vk:El D:=⟨ja,UM,aot,D.ja,vS⟩
def al9:El D:=⟨bC,iG,bW,D.bC,EK⟩
def akE:El D:=⟨List Str,dh,[],D.aox,EY⟩
def ak4:El D:=⟨Item,lZ,o5,D.Item,Ey⟩
def aA9:El D:=⟨Op,ji,AQ,D.Op,SV⟩
def VQ:El D:=⟨iK,Uu,fH,D.iK,vY⟩
def ao5:El D:=⟨Int,(fO .i64),0,D.i64,GM⟩
def alJ:El D:=⟨Bool,aH,false,D.bool,oW⟩
def aAn:El D:=⟨Int,(fO .u8),0,D.u8,VK⟩
def afz:El D:=⟨List af,jd,[],D.ZR,Bd⟩
def afs:El D:=⟨List Pair,dW,[],D.ZT,Ai⟩
def alr:El D:=⟨List Raw,bF,[],D.aow,Fz⟩
def SX:El D:=⟨Unit,ac5,(),D.amn,OD⟩
def view (d:D):Vw D:=
 match d with
 | .bg l=>⟨VS,l⟩
 | .dV l=>⟨ajM,l⟩
 | .cO l=>⟨Uk,l⟩
 | .di l=>⟨Wh,l⟩
 | .iZ l=>⟨aeS,l⟩
 | .dQ l=>⟨KD,l⟩
 | .Trace l=>⟨ac8,l⟩
 | .fU l=>⟨alb,l⟩
 | .bn l=>⟨La,l⟩
 | .l_ l=>⟨akT,l⟩
 | .str l=>⟨au7,l⟩
 | .Note l=>⟨ak7,l⟩
 | .af l=>⟨al0,l⟩
 | .Pair l=>⟨al1,l⟩
 | .Slot l=>⟨ajW,l⟩
 | .Raw l=>⟨apu,l⟩
 | .aJ l=>⟨YM,l⟩
 | .nH l=>⟨akw,l⟩
 | .eG l=>⟨VX,l⟩
 | .ja l=>⟨Vk,l⟩
 | .bC l=>⟨al9,l⟩
 | .aox l=>⟨akE,l⟩
 | .Item l=>⟨ak4,l⟩
 | .Op l=>⟨aA9,l⟩
 | .iK l=>⟨VQ,l⟩
 | .i64 l=>⟨ao5,l⟩
 | .bool l=>⟨alJ,l⟩
 | .u8 l=>⟨aAn,l⟩
 | .ZR l=>⟨afz,l⟩
 | .ZT l=>⟨afs,l⟩
 | .aow l=>⟨alr,l⟩
 | .amn l=>⟨SX,l⟩
 | .nU _=>⟨SX,[]⟩
 | .jO _=>⟨SX,[]⟩
def Dn:=(kvS false pvB false)
def pM:=(kvS true (ajS (pvP (pvI .i64) (pvI .i64)) (fun p=>gW.mk (p.1) (p.2)) (fun b=>(b.kind,b.targets))) afO)
def Bh (d:D):Option (Mp D):=
 match d with
 | .nU l=>some (Uy Dn D.nU l)
 | .jO l=>some (Uy pM D.jO l)
 | _=>none
def H9:TypeId->Option D:=lk [(157,D.nU []),(431,D.jO [])]
def apR:List (Nat×El D):=[(90,VS),(162,ajM),(93,Uk),(67,Wh),(117,aeS),(51,KD),(278,ac8),(58,alb),(53,La),(354,akT),(9,au7),(244,ak7),(84,al0),(333,al1),(261,ajW),(268,apu),(86,YM),(240,akw),(71,VX),(211,Vk),(190,al9),(56,akE),(220,ak4),(236,aA9),(206,VQ),(3,ao5),(4,alJ),(5,aAn),(79,afz),(80,afs),(82,alr)]
def oQ:TypeId->Option (El D):=lk apR
def rowOf (e:TypeId)(s:List UInt8):Option D:=if Nat.beq e 5 then some (D.u8 (Vx s))else none
def alT:List (Nat×D):=[(0,D.iK [⟨0,0⟩,⟨23,3⟩,⟨21,6⟩,⟨22,7⟩,⟨3,7⟩,⟨17,7⟩,⟨10,4⟩,⟨9,5⟩,⟨20,8⟩,⟨24,9⟩,⟨25,13⟩,⟨11,11⟩,⟨19,11⟩])]
def S:Sh D:=uI view oQ (lk alT) rowOf Bh H9
theorem AC (d:D)(a:List (Str×Bool))(h:mZ d=some a):d=D.nU a:=by
 cases d<;>simp[mZ]at h
 subst h;rfl
instance aoI:bM S kY:=ajk AC
instance azU:jy S (ahj D.nU mZ):=akU AC
theorem uy (d:D)(a:List (Str×gW))(h:ou d=some a):d=D.jO a:=by
 cases d<;>simp[ou]at h
 subst h;rfl
instance af8:bM S zG:=ajk uy
instance amf:jy S (ahj D.jO ou):=akU uy
theorem BF (d:D)(a:List Unit)(h:OD d=some a):d=D.amn a:=by
 cases d<;>simp[OD]at h
 subst h;rfl
theorem xK (d:D)(a:List bg)(h:wo d=some a):d=D.bg a:=by
 cases d<;>simp[wo]at h
 subst h;rfl
instance avE:bM S sG:=iJ xK rfl
instance aFl {e:TypeId}:jy S (iq e D.bg wo):=iI xK
theorem Fg (d:D)(a:List dV)(h:Ec d=some a):d=D.dV a:=by
 cases d<;>simp[Ec]at h
 subst h;rfl
instance aBz:bM S gZ:=iJ Fg rfl
instance aJd {e:TypeId}:jy S (iq e D.dV Ec):=iI Fg
theorem x9 (d:D)(a:List cO)(h:vX d=some a):d=D.cO a:=by
 cases d<;>simp[vX]at h
 subst h;rfl
instance avG:bM S zx:=iJ x9 rfl
instance aFo {e:TypeId}:jy S (iq e D.cO vX):=iI x9
theorem yc (d:D)(a:List di)(h:vM d=some a):d=D.di a:=by
 cases d<;>simp[vM]at h
 subst h;rfl
instance avD:bM S vV:=iJ yc rfl
instance aFk {e:TypeId}:jy S (iq e D.di vM):=iI yc
theorem CW (d:D)(a:List iZ)(h:Aq d=some a):d=D.iZ a:=by
 cases d<;>simp[Aq]at h
 subst h;rfl
instance azY:bM S qJ:=iJ CW rfl
instance aIA {e:TypeId}:jy S (iq e D.iZ Aq):=iI CW
theorem uO (d:D)(a:List dQ)(h:qW d=some a):d=D.dQ a:=by
 cases d<;>simp[qW]at h
 subst h;rfl
instance OX:bM S qU:=iJ uO rfl
instance azV {e:TypeId}:jy S (iq e D.dQ qW):=iI uO
theorem BU (d:D)(a:List Trace)(h:xg d=some a):d=D.Trace a:=by
 cases d<;>simp[xg]at h
 subst h;rfl
instance az1:bM S jB:=iJ BU rfl
instance aID {e:TypeId}:jy S (iq e D.Trace xg):=iI BU
theorem FH (d:D)(a:List fU)(h:Eu d=some a):d=D.fU a:=by
 cases d<;>simp[Eu]at h
 subst h;rfl
instance aBG:bM S AX:=iJ FH rfl
instance aJn {e:TypeId}:jy S (iq e D.fU Eu):=iI FH
theorem uG (d:D)(a:List bn)(h:oZ d=some a):d=D.bn a:=by
 cases d<;>simp[oZ]at h
 subst h;rfl
instance aoz:bM S lG:=iJ uG rfl
instance azW {e:TypeId}:jy S (iq e D.bn oZ):=iI uG
theorem Fj (d:D)(a:List l_)(h:Fh d=some a):d=D.l_ a:=by
 cases d<;>simp[Fh]at h
 subst h;rfl
instance aBD:bM S tX:=iJ Fj rfl
instance aJh {e:TypeId}:jy S (iq e D.l_ Fh):=iI Fj
theorem Iu (d:D)(a:List Str)(h:JP d=some a):d=D.str a:=by
 cases d<;>simp[JP]at h
 subst h;rfl
instance ai5:bM S dh:=iJ Iu rfl
instance aJT {e:TypeId}:jy S (iq e D.str JP):=iI Iu
theorem EZ (d:D)(a:List Note)(h:FI d=some a):d=D.Note a:=by
 cases d<;>simp[FI]at h
 subst h;rfl
instance af5:bM S lK:=iJ EZ rfl
instance aJi {e:TypeId}:jy S (iq e D.Note FI):=iI EZ
theorem EU (d:D)(a:List af)(h:EC d=some a):d=D.af a:=by
 cases d<;>simp[EC]at h
 subst h;rfl
instance af4:bM S jd:=iJ EU rfl
instance aJc {e:TypeId}:jy S (iq e D.af EC):=iI EU
theorem Ei (d:D)(a:List Pair)(h:oV d=some a):d=D.Pair a:=by
 cases d<;>simp[oV]at h
 subst h;rfl
instance af6:bM S dW:=iJ Ei rfl
instance aJj {e:TypeId}:jy S (iq e D.Pair oV):=iI Ei
theorem Ea (d:D)(a:List Slot)(h:jD d=some a):d=D.Slot a:=by
 cases d<;>simp[jD]at h
 subst h;rfl
instance aBF:bM S bD:=iJ Ea rfl
instance aJl {e:TypeId}:jy S (iq e D.Slot jD):=iI Ea
theorem Jg (d:D)(a:List Raw)(h:kZ d=some a):d=D.Raw a:=by
 cases d<;>simp[kZ]at h
 subst h;rfl
instance ai4:bM S bF:=iJ Jg rfl
instance aJR {e:TypeId}:jy S (iq e D.Raw kZ):=iI Jg
theorem zU (d:D)(a:List aJ)(h:uK d=some a):d=D.aJ a:=by
 cases d<;>simp[uK]at h
 subst h;rfl
instance avY:bM S gp:=iJ zU rfl
instance aFS {e:TypeId}:jy S (iq e D.aJ uK):=iI zU
theorem EQ (d:D)(a:List nH)(h:EJ d=some a):d=D.nH a:=by
 cases d<;>simp[EJ]at h
 subst h;rfl
instance af7:bM S rq:=iJ EQ rfl
instance aJm {e:TypeId}:jy S (iq e D.nH EJ):=iI EQ
theorem xB (d:D)(a:List eG)(h:vT d=some a):d=D.eG a:=by
 cases d<;>simp[vT]at h
 subst h;rfl
instance avC:bM S yO:=iJ xB rfl
instance aFj {e:TypeId}:jy S (iq e D.eG vT):=iI xB
theorem xZ (d:D)(a:List ja)(h:vS d=some a):d=D.ja a:=by
 cases d<;>simp[vS]at h
 subst h;rfl
instance avF:bM S sF:=iJ xZ rfl
instance aFm {e:TypeId}:jy S (iq e D.ja vS):=iI xZ
theorem Ej (d:D)(a:List bC)(h:EK d=some a):d=D.bC a:=by
 cases d<;>simp[EK]at h
 subst h;rfl
instance aBE:bM S jo:=iJ Ej rfl
instance aJk {e:TypeId}:jy S (iq e D.bC EK):=iI Ej
theorem D5 (d:D)(a:List (List Str))(h:EY d=some a):d=D.aox a:=by
 cases d<;>simp[EY]at h
 subst h;rfl
instance aBC:bM S ar2:=iJ D5 rfl
instance aJg {e:TypeId}:jy S (iq e D.aox EY):=iI D5
theorem FK (d:D)(a:List Item)(h:Ey d=some a):d=D.Item a:=by
 cases d<;>simp[Ey]at h
 subst h;rfl
instance aBA:bM S ig:=iJ FK rfl
instance aJe {e:TypeId}:jy S (iq e D.Item Ey):=iI FK
theorem NM (d:D)(a:List Op)(h:SV d=some a):d=D.Op a:=by
 cases d<;>simp[SV]at h
 subst h;rfl
instance aFT:bM S nR:=iJ NM rfl
instance aKo {e:TypeId}:jy S (iq e D.Op SV):=iI NM
theorem yj (d:D)(a:List iK)(h:vY d=some a):d=D.iK a:=by
 cases d<;>simp[vY]at h
 subst h;rfl
instance avH:bM S afd:=iJ yj rfl
instance aFp {e:TypeId}:jy S (iq e D.iK vY):=iI yj
theorem Jq (d:D)(a:List Int)(h:GM d=some a):d=D.i64 a:=by
 cases d<;>simp[GM]at h
 subst h;rfl
instance aFs:bM S BO:=iJ Jq rfl
instance aJS {e:TypeId}:jy S (iq e D.i64 GM):=iI Jq
theorem Eh (d:D)(a:List Bool)(h:oW d=some a):d=D.bool a:=by
 cases d<;>simp[oW]at h
 subst h;rfl
instance aBH:bM S Ae:=iJ Eh rfl
instance aJo {e:TypeId}:jy S (iq e D.bool oW):=iI Eh
theorem Oo (d:D)(a:List Int)(h:VK d=some a):d=D.u8 a:=by
 cases d<;>simp[VK]at h
 subst h;rfl
instance aFU:bM S OU:=iJ Oo rfl
instance aKp {e:TypeId}:jy S (iq e D.u8 VK):=iI Oo
theorem CX (d:D)(a:List (List af))(h:Bd d=some a):d=D.ZR a:=by
 cases d<;>simp[Bd]at h
 subst h;rfl
instance azZ:bM S Zy:=iJ CX rfl
instance aIB {e:TypeId}:jy S (iq e D.ZR Bd):=iI CX
theorem Cb (d:D)(a:List (List Pair))(h:Ai d=some a):d=D.ZT a:=by
 cases d<;>simp[Ai]at h
 subst h;rfl
instance az0:bM S Zr:=iJ Cb rfl
instance aIC {e:TypeId}:jy S (iq e D.ZT Ai):=iI Cb
theorem D_ (d:D)(a:List (List Raw))(h:Fz d=some a):d=D.aow a:=by
 cases d<;>simp[Fz]at h
 subst h;rfl
instance aBB:bM S aff:=iJ D_ rfl
instance aJf {e:TypeId}:jy S (iq e D.aow Fz):=iI D_
instance WW:bM S RH:=dS inferInstance fun _=>rfl
instance ZW:bM S oq:=dS inferInstance fun _=>rfl
instance WP:bM S aI:=dS inferInstance fun _=>rfl
instance WV:bM S mV:=dS inferInstance fun _=>rfl
instance WU:bM S vz:=dS inferInstance fun _=>rfl
instance WT:bM S GG:=dS inferInstance fun _=>rfl
instance WR:bM S lZ:=dS inferInstance fun _=>rfl
instance WQ:bM S jJ:=dS inferInstance fun _=>rfl
instance Ik:bM S p_:=dS inferInstance fun _=>rfl
instance Io:bM S rQ:=dS inferInstance fun _=>rfl
instance aBy:bM S vH:=dS inferInstance fun _=>rfl
instance MW:bM S d_:=dS inferInstance fun _=>rfl
instance z_:bM S gQ:=dS inferInstance fun _=>rfl
instance acR:bM S bI:=dS inferInstance fun _=>rfl
instance Qg:bM S xO:=dS inferInstance fun _=>rfl
instance Il:bM S jr:=dS inferInstance fun _=>rfl
instance amg:bM S qm:=dS inferInstance fun _=>rfl
instance af9:bM S Es:=dS inferInstance fun _=>rfl
instance WS:bM S L8:=dS inferInstance fun _=>rfl
instance az4:bM S jC:=dS inferInstance fun _=>rfl
instance ai7:bM S F_:=dS inferInstance fun _=>rfl
instance az3:bM S fK:=dS inferInstance fun _=>rfl
instance aFr:bM S qC:=dS inferInstance fun _=>rfl
instance DD:bM S wS:=dS inferInstance fun _=>rfl
instance Qv:bM S J3:=dS inferInstance fun _=>rfl
instance avI:bM S ji:=dS inferInstance fun _=>rfl
instance ai6:bM S iG:=dS inferInstance fun _=>rfl
instance aFt:bM S dX:=dS inferInstance fun _=>rfl
instance ami:bM S eu:=dS inferInstance fun _=>rfl
instance az2:bM S Am:=dS inferInstance fun _=>rfl
instance XO:bM S UM:=dS inferInstance fun _=>rfl
instance oM:bM S aQ:=dS inferInstance fun _=>rfl
instance ac1:bM S Jf:=dS inferInstance fun _=>rfl
instance ac0:bM S IW:=dS inferInstance fun _=>rfl
instance aga:bM S KH:=dS inferInstance fun _=>rfl
instance acZ:bM S Jo:=dS inferInstance fun _=>rfl
instance XQ:bM S DJ:=dS inferInstance fun _=>rfl
instance af_:bM S KW:=dS inferInstance fun _=>rfl
instance agk:bM S fJ:=dS inferInstance fun _=>rfl
instance XP:bM S Uu:=dS inferInstance fun _=>rfl
instance azX:bM S dN:=dS inferInstance fun _=>rfl
instance agj:bM S aW:=dS inferInstance fun _=>rfl
instance agi:bM S jk:=dS inferInstance fun _=>rfl
instance aoJ:bM S abJ:=dS inferInstance fun _=>rfl
instance aoK:bM S aa7:=dS inferInstance fun _=>rfl
instance amh:bM S Tc:=dS inferInstance fun _=>rfl
theorem aCo:avy S view oQ:=by
 refine⟨fun e E h l=> ?_,fun d l=> ?_,fun d d2 l2 h=> ?_,fun d=> ?_⟩
 ·have:=IQ h;simp only[apR,xI,Xg,Qb,or_false]at this;rcases this with⟨_,rfl⟩ | ⟨_,rfl⟩ | ⟨_,rfl⟩ | ⟨_,rfl⟩ | ⟨_,rfl⟩ | ⟨_,rfl⟩ | ⟨_,rfl⟩ | ⟨_,rfl⟩ | ⟨_,rfl⟩ | ⟨_,rfl⟩ | ⟨_,rfl⟩ | ⟨_,rfl⟩ | ⟨_,rfl⟩ | ⟨_,rfl⟩ | ⟨_,rfl⟩ | ⟨_,rfl⟩ | ⟨_,rfl⟩ | ⟨_,rfl⟩ | ⟨_,rfl⟩ | ⟨_,rfl⟩ | ⟨_,rfl⟩ | ⟨_,rfl⟩ | ⟨_,rfl⟩ | ⟨_,rfl⟩ | ⟨_,rfl⟩ | ⟨_,rfl⟩ | ⟨_,rfl⟩ | ⟨_,rfl⟩ | ⟨_,rfl⟩ | ⟨_,rfl⟩ | ⟨_,rfl⟩<;>rfl
 ·cases d<;>rfl
 ·cases d
  ·rw[xK d2 l2 h];rfl
  ·rw[Fg d2 l2 h];rfl
  ·rw[x9 d2 l2 h];rfl
  ·rw[yc d2 l2 h];rfl
  ·rw[CW d2 l2 h];rfl
  ·rw[uO d2 l2 h];rfl
  ·rw[BU d2 l2 h];rfl
  ·rw[FH d2 l2 h];rfl
  ·rw[uG d2 l2 h];rfl
  ·rw[Fj d2 l2 h];rfl
  ·rw[Iu d2 l2 h];rfl
  ·rw[EZ d2 l2 h];rfl
  ·rw[EU d2 l2 h];rfl
  ·rw[Ei d2 l2 h];rfl
  ·rw[Ea d2 l2 h];rfl
  ·rw[Jg d2 l2 h];rfl
  ·rw[zU d2 l2 h];rfl
  ·rw[EQ d2 l2 h];rfl
  ·rw[xB d2 l2 h];rfl
  ·rw[xZ d2 l2 h];rfl
  ·rw[Ej d2 l2 h];rfl
  ·rw[D5 d2 l2 h];rfl
  ·rw[FK d2 l2 h];rfl
  ·rw[NM d2 l2 h];rfl
  ·rw[yj d2 l2 h];rfl
  ·rw[Jq d2 l2 h];rfl
  ·rw[Eh d2 l2 h];rfl
  ·rw[Oo d2 l2 h];rfl
  ·rw[CX d2 l2 h];rfl
  ·rw[Cb d2 l2 h];rfl
  ·rw[D_ d2 l2 h];rfl
  ·rw[BF d2 l2 h];rfl
  ·rw[BF d2 l2 h];rfl
  ·rw[BF d2 l2 h];rfl
 ·cases d
  ·exact z_
  ·exact WQ
  ·exact Io
  ·exact Il
  ·exact Qg
  ·exact DD
  ·exact af9
  ·exact ai7
  ·exact Qv
  ·exact WS
  ·exact ach
  ·exact WT
  ·exact WP
  ·exact WU
  ·exact WV
  ·exact ZW
  ·exact MW
  ·exact WW
  ·exact Ik
  ·exact XO
  ·exact ai6
  ·exact ai5
  ·exact WR
  ·exact avI
  ·exact XP
  ·exact(zq _)
  ·exact Wu
  ·exact(zq _)
  ·exact af4
  ·exact af6
  ·exact ai4
  ·exact J6
  ·exact J6
  ·exact J6
theorem aEZ:avu S view oQ S.OY S.text Bh H9 where
 inj:=fun d l=>by cases d<;>rfl
 el:=fun e E h l=>by
  have:=IQ h;simp only[apR,xI,Xg,Qb,or_false]at this;rcases this with⟨_,rfl⟩ | ⟨_,rfl⟩ | ⟨_,rfl⟩ | ⟨_,rfl⟩ | ⟨_,rfl⟩ | ⟨_,rfl⟩ | ⟨_,rfl⟩ | ⟨_,rfl⟩ | ⟨_,rfl⟩ | ⟨_,rfl⟩ | ⟨_,rfl⟩ | ⟨_,rfl⟩ | ⟨_,rfl⟩ | ⟨_,rfl⟩ | ⟨_,rfl⟩ | ⟨_,rfl⟩ | ⟨_,rfl⟩ | ⟨_,rfl⟩ | ⟨_,rfl⟩ | ⟨_,rfl⟩ | ⟨_,rfl⟩ | ⟨_,rfl⟩ | ⟨_,rfl⟩ | ⟨_,rfl⟩ | ⟨_,rfl⟩ | ⟨_,rfl⟩ | ⟨_,rfl⟩ | ⟨_,rfl⟩ | ⟨_,rfl⟩ | ⟨_,rfl⟩ | ⟨_,rfl⟩<;>rfl
 txt:=fun e s d h=>by
  have h:rowOf e s=some d:=h;unfold rowOf at h;split at h
  ·injection h with h
   subst h;rfl
  ·cases h
 OY:=fun i d h=>by
  have h:lk alT i=some d:=h;have:=IQ h;simp only[alT,xI,Xg,Qb,or_false]at this;rcases this with⟨_,rfl⟩<;>rfl
 size:=fun d m h=>by
  cases d<;>first
   | (cases h;done)
   | (have h2:=Qc1 h;subst h2;exact⟨rfl,rfl,aj2 (aqy aFM) (fun _=>rfl) _⟩)
   | (have h2:=Qc1 h;subst h2;exact⟨rfl,rfl,aj2 (aqy (aoR (aFN (hc:=(avW .i64)) (hd:=(avW .i64))) (fun _=>rfl))) (fun _=>rfl) _⟩)
 new:=fun t d h=>by
  have:=IQ h;simp only[xI,Xg,Qb,or_false]at this;rcases this with⟨_,rfl⟩ | ⟨_,rfl⟩<;>exact⟨_,rfl,rfl⟩
theorem am5:jf S:=asa aCo (fun e s d h=>by
 unfold rowOf at h;split at h
 ·injection h with h
  subst h;exact⟨rfl,zF s,fun i _=>Qc5 (Lf.int .u8) (asX s i)⟩
 ·cases h) aEZ
def tys:List (Nat×Ty):=
 [(3,⟨23,false,1,8,[.int .i64 0],[],none,[],false,none,false,none⟩),
  (4,⟨1,false,1,1,[.bool false],[],none,[],false,none,false,none⟩),
  (5,⟨24,false,1,1,[.int .u8 0],[],none,[],false,none,false,none⟩),
  (9,⟨3,false,1,16,[.string ⟨#[]⟩],[],none,[],false,none,false,none⟩),
  (20,⟨0,false,1,16,[.nilIface],[],none,[],false,none,false,none⟩),
  (21,⟨22,false,1,4,[.int .i32 0],[],none,[],false,none,false,none⟩),
  (22,⟨4,false,1,24,[.slice none 0 0],[],some 90,[],false,none,false,none⟩),
  (23,⟨4,false,1,24,[.slice none 0 0],[],some 162,[],false,none,false,none⟩),
  (24,⟨4,false,1,24,[.slice none 0 0],[],some 93,[],false,none,false,none⟩),
  (26,⟨5,true,3,72,[.slice none 0 0, .slice none 0 0, .slice none 0 0],[(0,1,false),(1,1,false),(2,1,false)],none,[],false,none,true,none⟩),
  (27,⟨4,false,1,24,[.slice none 0 0],[],some 67,[],false,none,false,none⟩),
  (28,⟨4,false,1,24,[.slice none 0 0],[],some 117,[],false,none,false,none⟩),
  (30,⟨5,true,6,128,[.slice none 0 0, .slice none 0 0, .slice none 0 0, .slice none 0 0, .slice none 0 0, .int .i64 0],[(0,3,true),(3,1,false),(4,1,false),(5,1,false)],none,[],false,none,true,none⟩),
  (31,⟨4,false,1,24,[.slice none 0 0],[],some 51,[],false,none,false,none⟩),
  (34,⟨4,false,1,24,[.slice none 0 0],[],some 278,[],true,none,false,none⟩),
  (35,⟨4,false,1,24,[.slice none 0 0],[],some 58,[],false,none,false,none⟩),
  (37,⟨5,true,10,200,[.string ⟨#[]⟩, .slice none 0 0, .slice none 0 0, .slice none 0 0, .slice none 0 0, .slice none 0 0, .slice none 0 0, .slice none 0 0, .int .i64 0, .bool false],[(0,1,false),(1,3,true),(4,1,false),(5,1,false),(6,1,false),(7,1,false),(8,1,false),(9,1,false)],none,[],false,none,true,none⟩),
  (38,⟨23,false,1,8,[.int .i64 0],[],none,[],false,none,false,none⟩),
  (42,⟨4,false,1,24,[.slice none 0 0],[],some 53,[],false,none,false,none⟩),
  (44,⟨5,true,2,24,[.int .i64 0, .string ⟨#[]⟩],[(0,1,false),(1,1,false)],none,[2,3],false,none,true,none⟩),
  (47,⟨4,false,1,24,[.slice none 0 0],[],some 354,[],true,none,false,none⟩),
  (49,⟨5,true,4,64,[.string ⟨#[]⟩, .string ⟨#[]⟩, .int .i64 0, .slice none 0 0],[(0,1,false),(1,1,false),(2,1,false),(3,1,false)],none,[],false,none,true,none⟩),
  (51,⟨5,true,10,120,[.int .u8 0, .int .i64 0, .int .i64 0, .int .i64 0, .string ⟨#[]⟩, .string ⟨#[]⟩, .int .i64 0, .slice none 0 0, .int .i64 0, .string ⟨#[]⟩],[(0,1,false),(1,1,false),(2,1,false),(3,1,false),(4,4,true),(8,1,false),(9,1,false)],none,[],false,none,true,none⟩),
  (53,⟨5,true,3,24,[.int .i64 0, .int .i64 0, .bool false],[(0,1,false),(1,1,false),(2,1,false)],none,[2,2,1],false,none,true,none⟩),
  (56,⟨4,false,1,24,[.slice none 0 0],[],some 9,[],false,none,false,none⟩),
  (58,⟨5,true,11,152,[.int .i64 0, .int .i64 0, .string ⟨#[]⟩, .slice none 0 0, .int .i64 0, .slice none 0 0, .int .i64 0, .slice none 0 0, .int .i64 0, .string ⟨#[]⟩, .bool false],[(0,1,false),(1,1,false),(2,1,false),(3,1,false),(4,1,false),(5,1,false),(6,1,false),(7,1,false),(8,2,true),(10,1,false)],none,[],false,none,true,none⟩),
  (64,⟨7,false,1,8,[.nilFunc],[],none,[],false,none,false,none⟩),
  (67,⟨5,true,4,40,[.string ⟨#[]⟩, .int .i64 0, .int .i64 0, .int .i64 0],[(0,1,false),(1,1,false),(2,1,false),(3,1,false)],none,[3,2,2,2],false,none,true,none⟩),
  (69,⟨4,false,1,24,[.slice none 0 0],[],some 244,[],false,none,false,none⟩),
  (71,⟨5,true,5,80,[.string ⟨#[]⟩, .string ⟨#[]⟩, .string ⟨#[]⟩, .int .i64 0, .slice none 0 0],[(0,1,false),(1,1,false),(2,1,false),(3,1,false),(4,1,false)],none,[],false,none,true,none⟩),
  (77,⟨5,true,2,24,[.int .i64 0, .string ⟨#[]⟩],[(0,1,false),(1,1,false)],none,[2,3],false,none,true,none⟩),
  (78,⟨27,false,1,8,[.int .u64 0],[],none,[],false,none,false,none⟩),
  (79,⟨4,false,1,24,[.slice none 0 0],[],some 84,[],false,none,false,none⟩),
  (80,⟨4,false,1,24,[.slice none 0 0],[],some 333,[],false,none,false,none⟩),
  (81,⟨4,false,1,24,[.slice none 0 0],[],some 261,[],false,none,false,none⟩),
  (82,⟨4,false,1,24,[.slice none 0 0],[],some 268,[],false,none,false,none⟩),
  (84,⟨5,true,7,128,[.int .i64 0, .int .u64 0, .string ⟨#[]⟩, .slice none 0 0, .slice none 0 0, .slice none 0 0, .slice none 0 0],[(0,1,false),(1,1,false),(2,1,false),(3,1,false),(4,1,false),(5,1,false),(6,1,false)],none,[],false,none,true,none⟩),
  (86,⟨5,true,16,240,[.int .i64 0, .string ⟨#[]⟩, .int .i64 0, .int .i64 0, .int .i64 0, .string ⟨#[]⟩, .string ⟨#[]⟩, .bool false, .int .i64 0, .int .u64 0, .string ⟨#[]⟩, .slice none 0 0, .slice none 0 0, .slice none 0 0, .slice none 0 0, .slice none 0 0],[(0,1,false),(1,1,false),(2,1,false),(3,1,false),(4,2,true),(6,1,false),(7,1,false),(8,7,true),(15,1,false)],none,[],false,none,true,none⟩),
  (87,⟨4,false,1,24,[.slice none 0 0],[],some 86,[],false,none,false,none⟩),
  (88,⟨4,false,1,24,[.slice none 0 0],[],some 240,[],false,none,false,none⟩),
  (90,⟨5,true,5,112,[.string ⟨#[]⟩, .slice none 0 0, .slice none 0 0, .slice none 0 0, .slice none 0 0],[(0,1,false),(1,1,false),(2,1,false),(3,1,false),(4,1,false)],none,[],false,none,true,none⟩),
  (91,⟨4,false,1,24,[.slice none 0 0],[],some 71,[],false,none,false,none⟩),
  (93,⟨5,true,3,64,[.string ⟨#[]⟩, .slice none 0 0, .slice none 0 0],[(0,1,false),(1,1,false),(2,1,false)],none,[],false,none,true,none⟩),
  (110,⟨4,false,1,24,[.slice none 0 0],[],some 211,[],false,none,false,none⟩),
  (117,⟨5,true,5,56,[.int .i64 0, .string ⟨#[]⟩, .string ⟨#[]⟩, .int .i64 0, .int .i64 0],[(0,1,false),(1,1,false),(2,1,false),(3,1,false),(4,1,false)],none,[2,3,3,2,2],false,none,true,none⟩),
  (124,⟨4,false,1,24,[.slice none 0 0],[],some 190,[],false,none,false,none⟩),
  (126,⟨5,true,2,48,[.slice none 0 0, .slice none 0 0],[(0,1,false),(1,1,false)],none,[],false,none,true,none⟩),
  (130,⟨5,true,14,224,[.slice none 0 0, .slice none 0 0, .slice none 0 0, .string ⟨#[]⟩, .int .i64 0, .int .i64 0, .int .i64 0, .string ⟨#[]⟩, .string ⟨#[]⟩, .string ⟨#[]⟩, .int .i64 0, .slice none 0 0, .slice none 0 0, .bool false],[(0,3,true),(3,4,true),(7,5,true),(12,1,false),(13,1,false)],none,[],false,none,true,none⟩),
  (134,⟨5,true,4,32,[.int .i64 0, .int .i64 0, .int .i64 0, .int .i64 0],[(0,1,false),(1,1,false),(2,1,false),(3,1,false)],none,[2,2,2,2],false,none,true,none⟩),
  (136,⟨7,false,1,8,[.nilFunc],[],none,[],false,none,false,none⟩),
  (146,⟨7,false,1,8,[.nilFunc],[],none,[],false,none,false,none⟩),
  (149,⟨6,false,1,8,[.pointer none],[],none,[],false,none,false,some (151,151)⟩),
  (151,⟨5,true,3,48,[.string ⟨#[]⟩, .int .i64 0, .slice none 0 0],[(0,1,false),(1,1,false),(2,1,false)],none,[],false,none,true,none⟩),
  (152,⟨0,true,3,72,[.slice none 0 0, .slice none 0 0, .slice none 0 0],[],none,[],true,some (56,3),true,none⟩),
  (157,⟨0,false,1,8,[.map none],[],none,[],false,none,false,some (9,4)⟩),
  (160,⟨4,false,1,24,[.slice none 0 0],[],some 220,[],false,none,false,none⟩),
  (162,⟨5,true,5,96,[.string ⟨#[]⟩, .bool false, .slice none 0 0, .slice none 0 0, .slice none 0 0],[(0,1,false),(1,1,false),(2,1,false),(3,1,false),(4,1,false)],none,[],false,none,true,none⟩),
  (170,⟨7,false,1,8,[.nilFunc],[],none,[],false,none,false,none⟩),
  (173,⟨5,true,2,32,[.string ⟨#[]⟩, .string ⟨#[]⟩],[(0,1,false),(1,1,false)],none,[3,3],false,none,true,none⟩),
  (174,⟨5,true,2,32,[.string ⟨#[]⟩, .string ⟨#[]⟩],[(0,1,false),(1,1,false)],none,[3,3],false,none,true,none⟩),
  (177,⟨5,true,1,8,[.int .i64 0],[(0,1,false)],none,[2],false,none,true,none⟩),
  (180,⟨5,true,2,16,[.int .i64 0, .int .i64 0],[(0,1,false),(1,1,false)],none,[2,2],false,none,true,none⟩),
  (182,⟨5,true,1,8,[.int .i64 0],[(0,1,false)],none,[2],false,none,true,none⟩),
  (184,⟨5,true,0,0,[],[],none,[],false,none,true,none⟩),
  (188,⟨4,false,1,24,[.slice none 0 0],[],some 236,[],false,none,false,none⟩),
  (190,⟨5,true,3,48,[.string ⟨#[]⟩, .slice none 0 0, .int .i64 0],[(0,1,false),(1,1,false),(2,1,false)],none,[],false,none,true,none⟩),
  (200,⟨5,true,2,48,[.slice none 0 0, .slice none 0 0],[(0,2,true)],none,[],false,none,true,none⟩),
  (206,⟨5,true,2,16,[.int .i64 0, .int .i64 0],[(0,1,false),(1,1,false)],none,[2,2],false,none,true,none⟩),
  (207,⟨0,true,26,208,[.int .i64 0, .int .i64 0, .int .i64 0, .int .i64 0, .int .i64 0, .int .i64 0, .int .i64 0, .int .i64 0, .int .i64 0, .int .i64 0, .int .i64 0, .int .i64 0, .int .i64 0, .int .i64 0, .int .i64 0, .int .i64 0, .int .i64 0, .int .i64 0, .int .i64 0, .int .i64 0, .int .i64 0, .int .i64 0, .int .i64 0, .int .i64 0, .int .i64 0, .int .i64 0],[],none,[],false,some (206,13),true,none⟩),
  (211,⟨5,true,3,32,[.string ⟨#[]⟩, .int .i64 0, .int .i64 0],[(0,1,false),(1,1,false),(2,1,false)],none,[3,2,2],false,none,true,none⟩),
  (220,⟨5,true,3,48,[.string ⟨#[]⟩, .int .i64 0, .slice none 0 0],[(0,1,false),(1,1,false),(2,1,false)],none,[],false,none,true,none⟩),
  (222,⟨7,false,1,8,[.nilFunc],[],none,[],false,none,false,none⟩),
  (227,⟨7,false,1,8,[.nilFunc],[],none,[],false,none,false,none⟩),
  (230,⟨7,false,1,8,[.nilFunc],[],none,[],false,none,false,none⟩),
  (232,⟨7,false,1,8,[.nilFunc],[],none,[],false,none,false,none⟩),
  (236,⟨5,true,8,80,[.int .i64 0, .string ⟨#[]⟩, .string ⟨#[]⟩, .int .i64 0, .int .i64 0, .int .i64 0, .int .i64 0, .int .i64 0],[(0,1,false),(1,1,false),(2,1,false),(3,1,false),(4,1,false),(5,1,false),(6,1,false),(7,1,false)],none,[2,3,3,2,2,2,2,2],false,none,true,none⟩),
  (240,⟨5,true,2,16,[.int .i64 0, .int .i64 0],[(0,1,false),(1,1,false)],none,[2,2],false,none,true,none⟩),
  (244,⟨5,true,8,144,[.string ⟨#[]⟩, .int .i64 0, .int .u64 0, .string ⟨#[]⟩, .slice none 0 0, .slice none 0 0, .slice none 0 0, .slice none 0 0],[(0,1,false),(1,7,true)],none,[],false,none,true,none⟩),
  (246,⟨5,true,6,56,[.string ⟨#[]⟩, .int .i64 0, .int .i64 0, .int .i64 0, .int .i64 0, .int .i64 0],[(0,1,false),(1,1,false),(2,1,false),(3,1,false),(4,1,false),(5,1,false)],none,[3,2,2,2,2,2],false,none,true,none⟩),
  (249,⟨6,false,1,8,[.pointer none],[],none,[],false,none,false,some (251,251)⟩),
  (251,⟨5,true,8,104,[.slice none 0 0, .slice none 0 0, .string ⟨#[]⟩, .int .i64 0, .int .i64 0, .int .i64 0, .int .i64 0, .int .i64 0],[(0,2,true),(2,6,true)],none,[],false,none,true,none⟩),
  (256,⟨7,false,1,8,[.nilFunc],[],none,[],false,none,false,none⟩),
  (261,⟨5,true,8,136,[.int .i64 0, .int .i64 0, .int .u64 0, .string ⟨#[]⟩, .slice none 0 0, .slice none 0 0, .slice none 0 0, .slice none 0 0],[(0,1,false),(1,7,true)],none,[],false,none,true,none⟩),
  (264,⟨5,true,2,48,[.slice none 0 0, .slice none 0 0],[(0,2,true)],none,[],false,none,true,none⟩),
  (268,⟨5,true,4,40,[.int .i64 0, .int .i64 0, .int .u64 0, .string ⟨#[]⟩],[(0,1,false),(1,1,false),(2,1,false),(3,1,false)],none,[2,2,2,3],false,none,true,none⟩),
  (276,⟨4,false,1,24,[.slice none 0 0],[],some 3,[],false,none,false,none⟩),
  (278,⟨5,true,2,40,[.string ⟨#[]⟩, .slice none 0 0],[(0,1,false),(1,1,false)],none,[],false,none,true,none⟩),
  (281,⟨7,false,1,8,[.nilFunc],[],none,[],false,none,false,none⟩),
  (286,⟨0,true,26,416,[.string ⟨#[]⟩, .string ⟨#[]⟩, .string ⟨#[]⟩, .string ⟨#[]⟩, .string ⟨#[]⟩, .string ⟨#[]⟩, .string ⟨#[]⟩, .string ⟨#[]⟩, .string ⟨#[]⟩, .string ⟨#[]⟩, .string ⟨#[]⟩, .string ⟨#[]⟩, .string ⟨#[]⟩, .string ⟨#[]⟩, .string ⟨#[]⟩, .string ⟨#[]⟩, .string ⟨#[]⟩, .string ⟨#[]⟩, .string ⟨#[]⟩, .string ⟨#[]⟩, .string ⟨#[]⟩, .string ⟨#[]⟩, .string ⟨#[]⟩, .string ⟨#[]⟩, .string ⟨#[]⟩, .string ⟨#[]⟩],[],none,[3,3,3,3,3,3,3,3,3,3,3,3,3,3,3,3,3,3,3,3,3,3,3,3,3,3],false,some (9,26),true,none⟩),
  (292,⟨7,false,1,8,[.nilFunc],[],none,[],false,none,false,none⟩),
  (298,⟨7,false,1,8,[.nilFunc],[],none,[],false,none,false,none⟩),
  (300,⟨7,false,1,8,[.nilFunc],[],none,[],false,none,false,none⟩),
  (303,⟨27,false,1,8,[.int .u64 0],[],none,[],false,none,false,none⟩),
  (307,⟨0,true,256,256,(List.replicate 256 (.bool false)),[],none,(List.replicate 256 1),false,some (4,256),true,none⟩),
  (311,⟨6,false,1,8,[.pointer none],[],none,[],false,none,false,some (307,307)⟩),
  (314,⟨7,false,1,8,[.nilFunc],[],none,[],false,none,false,none⟩),
  (331,⟨7,false,1,8,[.nilFunc],[],none,[],false,none,false,none⟩),
  (333,⟨5,true,14,256,[.int .i64 0, .int .u64 0, .string ⟨#[]⟩, .slice none 0 0, .slice none 0 0, .slice none 0 0, .slice none 0 0, .int .i64 0, .int .u64 0, .string ⟨#[]⟩, .slice none 0 0, .slice none 0 0, .slice none 0 0, .slice none 0 0],[(0,7,true),(7,7,true)],none,[],false,none,true,none⟩),
  (338,⟨7,false,1,8,[.nilFunc],[],none,[],false,none,false,none⟩),
  (340,⟨7,false,1,8,[.nilFunc],[],none,[],false,none,false,none⟩),
  (342,⟨6,false,1,8,[.pointer none],[],none,[],false,none,false,some (345,345)⟩),
  (343,⟨4,false,1,24,[.slice none 0 0],[],some 5,[],true,none,false,none⟩),
  (345,⟨5,true,2,32,[.pointer none, .slice none 0 0],[(0,1,false),(1,1,false)],none,[],true,none,true,none⟩),
  (349,⟨0,false,1,16,[.nilIface],[],none,[],false,none,false,none⟩),
  (354,⟨5,true,2,32,[.string ⟨#[]⟩, .string ⟨#[]⟩],[(0,1,false),(1,1,false)],none,[3,3],false,none,true,none⟩),
  (357,⟨7,false,1,8,[.nilFunc],[],none,[],false,none,false,none⟩),
  (381,⟨7,false,1,8,[.nilFunc],[],none,[],false,none,false,none⟩),
  (386,⟨7,false,1,8,[.nilFunc],[],none,[],false,none,false,none⟩),
  (389,⟨6,false,1,8,[.pointer none],[],none,[],false,none,false,some (268,268)⟩),
  (391,⟨7,false,1,8,[.nilFunc],[],none,[],false,none,false,none⟩),
  (393,⟨5,true,1,8,[.nilFunc],[(0,1,false)],none,[],false,none,true,none⟩),
  (405,⟨7,false,1,8,[.nilFunc],[],none,[],false,none,false,none⟩),
  (407,⟨7,false,1,8,[.nilFunc],[],none,[],false,none,false,none⟩),
  (409,⟨7,false,1,8,[.nilFunc],[],none,[],false,none,false,none⟩),
  (411,⟨7,false,1,8,[.nilFunc],[],none,[],false,none,false,none⟩),
  (413,⟨7,false,1,8,[.nilFunc],[],none,[],false,none,false,none⟩),
  (416,⟨4,false,1,24,[.slice none 0 0],[],some 4,[],false,none,false,none⟩),
  (422,⟨6,false,1,8,[.pointer none],[],none,[],false,none,false,some (5,5)⟩),
  (429,⟨5,true,2,16,[.int .i64 0, .int .i64 0],[(0,1,false),(1,1,false)],none,[2,2],false,none,true,none⟩),
  (431,⟨0,false,1,8,[.map none],[],none,[],false,none,false,some (9,429)⟩),
  (456,⟨7,false,1,8,[.nilFunc],[],none,[],false,none,false,none⟩),
  (457,⟨7,false,1,8,[.nilFunc],[],none,[],false,none,false,none⟩),
  (486,⟨5,true,7,128,[.int .i64 0, .int .u64 0, .string ⟨#[]⟩, .slice none 0 0, .slice none 0 0, .slice none 0 0, .slice none 0 0],[(0,1,false),(1,1,false),(2,1,false),(3,1,false),(4,1,false),(5,1,false),(6,1,false)],none,[],false,none,true,none⟩),
  (487,⟨4,false,1,24,[.slice none 0 0],[],some 84,[],false,none,false,none⟩),
  (489,⟨4,false,1,24,[.slice none 0 0],[],some 333,[],false,none,false,none⟩),
  (492,⟨5,true,2,48,[.slice none 0 0, .slice none 0 0],[(0,1,false),(1,1,false)],none,[],false,none,true,none⟩),
  (498,⟨4,false,1,24,[.slice none 0 0],[],some 79,[],false,none,false,none⟩),
  (500,⟨4,false,1,24,[.slice none 0 0],[],some 80,[],false,none,false,none⟩),
  (502,⟨4,false,1,24,[.slice none 0 0],[],some 82,[],false,none,false,none⟩),
  (506,⟨7,false,1,8,[.nilFunc],[],none,[],false,none,false,none⟩)]
def T:TypeId->Option Ty:=lk tys
theorem afE:∀t ty,T t=some ty->fP Tryz.prog t ty:=by
 intro t ty h;have:=IQ h;simp only[tys,xI,Xg,Qb,or_false]at this;rcases this with⟨rfl,rfl⟩ | ⟨rfl,rfl⟩ | ⟨rfl,rfl⟩ | ⟨rfl,rfl⟩ | ⟨rfl,rfl⟩ | ⟨rfl,rfl⟩ | ⟨rfl,rfl⟩ | ⟨rfl,rfl⟩ | ⟨rfl,rfl⟩ | ⟨rfl,rfl⟩ | ⟨rfl,rfl⟩ | ⟨rfl,rfl⟩ | ⟨rfl,rfl⟩ | ⟨rfl,rfl⟩ | ⟨rfl,rfl⟩ | ⟨rfl,rfl⟩ | ⟨rfl,rfl⟩ | ⟨rfl,rfl⟩ | ⟨rfl,rfl⟩ | ⟨rfl,rfl⟩ | ⟨rfl,rfl⟩ | ⟨rfl,rfl⟩ | ⟨rfl,rfl⟩ | ⟨rfl,rfl⟩ | ⟨rfl,rfl⟩ | ⟨rfl,rfl⟩ | ⟨rfl,rfl⟩ | ⟨rfl,rfl⟩ | ⟨rfl,rfl⟩ | ⟨rfl,rfl⟩ | ⟨rfl,rfl⟩ | ⟨rfl,rfl⟩ | ⟨rfl,rfl⟩ | ⟨rfl,rfl⟩ | ⟨rfl,rfl⟩ | ⟨rfl,rfl⟩ | ⟨rfl,rfl⟩ | ⟨rfl,rfl⟩ | ⟨rfl,rfl⟩ | ⟨rfl,rfl⟩ | ⟨rfl,rfl⟩ | ⟨rfl,rfl⟩ | ⟨rfl,rfl⟩ | ⟨rfl,rfl⟩ | ⟨rfl,rfl⟩ | ⟨rfl,rfl⟩ | ⟨rfl,rfl⟩ | ⟨rfl,rfl⟩ | ⟨rfl,rfl⟩ | ⟨rfl,rfl⟩ | ⟨rfl,rfl⟩ | ⟨rfl,rfl⟩ | ⟨rfl,rfl⟩ | ⟨rfl,rfl⟩ | ⟨rfl,rfl⟩ | ⟨rfl,rfl⟩ | ⟨rfl,rfl⟩ | ⟨rfl,rfl⟩ | ⟨rfl,rfl⟩ | ⟨rfl,rfl⟩ | ⟨rfl,rfl⟩ | ⟨rfl,rfl⟩ | ⟨rfl,rfl⟩ | ⟨rfl,rfl⟩ | ⟨rfl,rfl⟩ | ⟨rfl,rfl⟩ | ⟨rfl,rfl⟩ | ⟨rfl,rfl⟩ | ⟨rfl,rfl⟩ | ⟨rfl,rfl⟩ | ⟨rfl,rfl⟩ | ⟨rfl,rfl⟩ | ⟨rfl,rfl⟩ | ⟨rfl,rfl⟩ | ⟨rfl,rfl⟩ | ⟨rfl,rfl⟩ | ⟨rfl,rfl⟩ | ⟨rfl,rfl⟩ | ⟨rfl,rfl⟩ | ⟨rfl,rfl⟩ | ⟨rfl,rfl⟩ | ⟨rfl,rfl⟩ | ⟨rfl,rfl⟩ | ⟨rfl,rfl⟩ | ⟨rfl,rfl⟩ | ⟨rfl,rfl⟩ | ⟨rfl,rfl⟩ | ⟨rfl,rfl⟩ | ⟨rfl,rfl⟩ | ⟨rfl,rfl⟩ | ⟨rfl,rfl⟩ | ⟨rfl,rfl⟩ | ⟨rfl,rfl⟩ | ⟨rfl,rfl⟩ | ⟨rfl,rfl⟩ | ⟨rfl,rfl⟩ | ⟨rfl,rfl⟩ | ⟨rfl,rfl⟩ | ⟨rfl,rfl⟩ | ⟨rfl,rfl⟩ | ⟨rfl,rfl⟩ | ⟨rfl,rfl⟩ | ⟨rfl,rfl⟩ | ⟨rfl,rfl⟩ | ⟨rfl,rfl⟩ | ⟨rfl,rfl⟩ | ⟨rfl,rfl⟩ | ⟨rfl,rfl⟩ | ⟨rfl,rfl⟩ | ⟨rfl,rfl⟩ | ⟨rfl,rfl⟩ | ⟨rfl,rfl⟩ | ⟨rfl,rfl⟩ | ⟨rfl,rfl⟩ | ⟨rfl,rfl⟩ | ⟨rfl,rfl⟩ | ⟨rfl,rfl⟩ | ⟨rfl,rfl⟩ | ⟨rfl,rfl⟩ | ⟨rfl,rfl⟩ | ⟨rfl,rfl⟩ | ⟨rfl,rfl⟩ | ⟨rfl,rfl⟩ | ⟨rfl,rfl⟩ | ⟨rfl,rfl⟩ | ⟨rfl,rfl⟩ | ⟨rfl,rfl⟩ | ⟨rfl,rfl⟩ | ⟨rfl,rfl⟩ | ⟨rfl,rfl⟩<;>(clear h;show _=_;kernel_rfl)
theorem mixed:Tryz.prog.follows .mixedOrders=true:=by kernel_rfl
@[reducible] noncomputable def Z:Seat D:=⟨Tryz.prog,S,T,mixed,afE,am5⟩
def action (x:iZ):Pg (Option mY):=.br (x.Kind==1) (.ret (some (mY.mk 173 true [Pv.str x.Key,Pv.str x.Val]))) (.br (x.Kind==2) (.ret (some (mY.mk 177 true [Pv.int .i64 x.Num]))) (.br (x.Kind==3) (.ret (some (mY.mk 180 true [Pv.int .i64 x.Num,Pv.int .i64 x.nH]))) (.br (x.Kind==4) (.ret (some (mY.mk 174 true [Pv.str x.Key,Pv.str x.Val]))) (.br (x.Kind==5) (.ret (some (mY.mk 182 true [Pv.int .i64 x.Num]))) (.br (x.Kind==6) (.ret (some (mY.mk 184 true []))) (.ret none))))))
def rH (x:iZ):=(action x).val
def Uf:aS Z:=E0 [] [] (a1 (aF xO)) (R1 ayo) [] func68 1 action
def within (n:Int)(lo:Int)(hi:Int):Pg Bool:=.br (decide (lo<=n)) (.ret (decide (n<=hi))) (.ret false)
def Q4 (n:Int)(lo:Int)(hi:Int):=(within n lo hi).val
def ao0:aS Z:=E0 [] [] (aj (bu cI) (aj (bu cI) (a1 (bu cI)))) (R1 aH) [] func70 1 (u3 within)
def bare (x:iZ)(key:Bool)(num:Bool)(span:Bool):Pg Bool:=.br key (.br num (.br span (.ret true) (.ret (x.nH==0))) (.br (x.Num==0) (.br span (.ret true) (.ret (x.nH==0))) (.ret false))) (.br (x.Key==[]) (.br (x.Val==[]) (.br num (.br span (.ret true) (.ret (x.nH==0))) (.br (x.Num==0) (.br span (.ret true) (.ret (x.nH==0))) (.ret false))) (.ret false)) (.ret false))
def ajm (x:iZ)(key:Bool)(num:Bool)(span:Bool):=(bare x key num span).val
def aET:aS Z:=E0 [] [] (aj (aF xO) (aj (bu aH) (aj (bu aH) (a1 (bu aH))))) (R1 aH) [] func69 1 (u4 bare)
theorem yu (x:iZ):mY.ok (rH x) 173 true [Value.string (ByteArray.mk #[]),Value.string (ByteArray.mk #[])]=true/\mY.ok (rH x) 174 true [Value.string (ByteArray.mk #[]),Value.string (ByteArray.mk #[])]=true/\mY.ok (rH x) 177 true [Value.int IntKind.i64 0]=true/\
  mY.ok (rH x) 180 true [Value.int IntKind.i64 0,Value.int IntKind.i64 0]=true/\mY.ok (rH x) 182 true [Value.int IntKind.i64 0]=true/\mY.ok (rH x) 184 true []=true:=by
 unfold rH action;simp only[bV,aV];cases x.Kind==1<;>cases x.Kind==2<;>cases x.Kind==3<;>cases x.Kind==4<;>cases x.Kind==5<;>cases x.Kind==6<;>exact⟨rfl,rfl,rfl,rfl,rfl,rfl⟩
def formed (x:iZ):Pg Bool:=.lt (rH x) fun(v1:Option mY)=> .ob (mY.ok v1 173 true [Value.string (ByteArray.mk (Array.mk [])),Value.string (ByteArray.mk (Array.mk []))]=true) (.ob (mY.ok v1 174 true [Value.string (ByteArray.mk (Array.mk [])),Value.string (ByteArray.mk (Array.mk []))]=true) (.br (bif mY.is v1 173 then true else mY.is v1 174) (.ret (ajm x true false false)) (.ob (mY.ok v1 177 true [Value.int .i64 0]=true) (.lt (ajm x false true false) fun(v2:Bool)=> .br (mY.is v1 177) (.br v2 (.ret (Q4 x.Num 0 65536)) (.ret false)) (.ob (mY.ok v1 180 true [Value.int .i64 0,Value.int .i64 0]=true) (.br (mY.is v1 180) (.br (ajm x false true true) (.br (Q4 x.Num 1 1000) (.ret (Q4 x.nH 1 1099511627776)) (.ret false)) (.ret false)) (.ob (mY.ok v1 182 true [Value.int .i64 0]=true) (.br (mY.is v1 182) (.br v2 (.ret (Q4 x.Num 1 1099511627776)) (.ret false)) (.ob (mY.ok v1 184 true []=true) (.br (mY.is v1 184) (.ret (ajm x false false false)) (.ret false)))))))))))
def ax4 (x:iZ):=(formed x).val
theorem anu (x:iZ):Is (formed x):=
 dF fun v1 hv1=>aX ((hv1▸yu x).1) (aX ((hv1▸yu x).2.1) (dM iR (fun _=>aX ((hv1▸yu x).2.2.1) (dF fun v2 hv2=>dM (fun _=>dM iR iR) (fun _=>aX ((hv1▸yu x).2.2.2.1) (dM (fun _=>dM (fun _=>dM iR iR) iR) (fun _=>aX ((hv1▸yu x).2.2.2.2.1) (dM (fun _=>dM iR iR) (fun _=>aX ((hv1▸yu x).2.2.2.2.2) (dM iR iR))))))))))
def atQ:aS Z:=E0 [Uf,aET,ao0] [] (a1 (aF xO)) (R1 aH) [] func36 1 formed fun a=>anu a
def errText (e:Int):Pg (List UInt8):=.ob (26=26) (.br (decide (e < 0)) (.ret [117,110,107,110,111,119,110]) (.br (decide (26<=e)) (.ret [117,110,107,110,111,119,110]) (.ob (0<=e/\e < 26) (.ob (e.toNat < 26) (.ret ([[111,107],[97,114,103,117,109,101,110,116], [115,121,110,116,97,120], [108,105,109,105,116],[115,104,111,114,116], [102,111,114,109],[114,97,110,103,101], [117,116,102],[110,97,109,101], [116,119,105,99,101],[110,111,110,101], [111,114,100,101,114],[116,121,112,101], [119,105,114,101], [109,105,115,115,105,110,103], [117,110,105,111,110],[101,110,117,109], [100,101,112,116,104],[101,120,116,114,97], [99,121,99,108,101],[115,116,97,116,101], [100,101,110,105,101,100],[102,117,108,108], [108,97,116,101], [99,111,110,102,108,105,99,116], [115,117,109]].getD e.toNat []))))))
def aqa (e:Int):=(errText e).val
def anE:aS Z:=E0 [] [] (a1 (bu cI)) (R1 cStr) [] func89 1 errText
abbrev Qi:=[iK.mk 0 0,iK.mk 23 3,iK.mk 21 6,iK.mk 22 7, iK.mk 3 7,iK.mk 17 7,iK.mk 10 4,iK.mk 9 5, iK.mk 20 8,iK.mk 24 9,iK.mk 25 13,iK.mk 11 11, iK.mk 19 11]
def aBU (e:Int):Pg Status:=.cut (fun(y1:Int)=> .cut (fun(y4:Int)=> .br (e==0) (.ret (Status.mk 0 [])) (.ret (Status.mk y4 (aqa e)))) (.ob (13=13) (.cnt qi 0 13 (fun(i2 y3:Int)=> .ob (0<=i2/\i2 < 13) (.br ([(Qi.getD 0 fH).e, (Qi.getD 1 fH).e, (Qi.getD 2 fH).e, (Qi.getD 3 fH).e, (Qi.getD 4 fH).e, (Qi.getD 5 fH).e, (Qi.getD 6 fH).e, (Qi.getD 7 fH).e, (Qi.getD 8 fH).e, (Qi.getD 9 fH).e, (Qi.getD 10 fH).e, (Qi.getD 11 fH).e, (Qi.getD 12 fH).e].getD i2.toNat 0== e) (rl ([(Qi.getD 0 fH).code, (Qi.getD 1 fH).code, (Qi.getD 2 fH).code, (Qi.getD 3 fH).code, (Qi.getD 4 fH).code, (Qi.getD 5 fH).code, (Qi.getD 6 fH).code, (Qi.getD 7 fH).code, (Qi.getD 8 fH).code, (Qi.getD 9 fH).code, (Qi.getD 10 fH).code, (Qi.getD 11 fH).code, (Qi.getD 12 fH).code].getD i2.toNat 0)) (rl y3))) (fun(i2 y3:Int)=> rl y3) y1))) (.br (decide (0 < e)) (.br (decide (e<=25)) (rl 2) (rl 11)) (rl 11))
def Y8 (e:Int):=(aBU e).val
theorem azt (e:Int):Is (aBU e):=
 qM (gu (fun _=>gu iR iR) iR) (fun y1 hy1=>qM (aX au (TG au au (fun i2 y3 _ _=>aX au (oI iR iR)) (fun i2 y3 _ _=>aU))) (fun y4 hy4=>oI iR iR))
def agB:aS Z:=E0 [anE] [jS 5 (bU (fun sl=>[s0 13, s0 3]) (az cI (l1 cI))),jS 100004 (bU (fun sl=>[s0 3]) (l1 cI)),jS 100010 (bU (fun sl=>[s0 3]) (l1 cI))] (a1 (bu cI)) (shr [.slot 0 true [none,none]] (l1 jC)) [] func50 1 aBU fun a=>azt a
def message (l:List iZ)(n:Int):Pg Status:=aL l (.each false wB l uk (fun i1 a3 (y2:Unit)=> .ix i1 l.length (.lt (rH a3) fun(v4:Option mY)=> .ob (mY.ok v4 177 true [Value.int .i64 0]=true) (.br (mY.is v4 177) (.lt (Pv.gI (mY.get v4 177 0)) fun(v5:Int)=> .br (decide (v5 < n)) (.ret (.inr (Y8 3))) (rl ())) (rl ())))) (fun i1 (y2:Unit)=> .ret (Status.mk 0 [])) ())
def aqe (l:List iZ)(n:Int):=(message l n).val
theorem agO (l:List iZ)(n:Int):Is (message l n):=
 iL fun _=>iF (.inr au) (fun i1 y2 _ _=>dR au au (dF fun v4 hv4=>aX ((hv4▸(yu _).2.2.1)) (dM (fun _=>dF fun v5 hv5=>gu iR iR) iR))) (fun y2 _=>aU)
def anX:aS Z:=E0 [agB,Uf] [jS 2 (bU (fun sl=>[s0 11]) (l1 cI))] (aj (bu qJ) (a1 (bu cI))) (shr [.slot 0 true [none,none]] (l1 jC)) [] func48 1 (u2 message) fun a=>agO a.1 a.2
def aAq (h:Head)(key:Str):Pg (List UInt8×Bool):=aL h.eQ (.each false wB h.eQ Oi (fun i1 a3 (y2:Unit)=> .ix i1 h.eQ.length (.br (a3.Key==key) (.ret (.inr (a3.Val,true))) (rl ()))) (fun i1 (y2:Unit)=> .ret ([],false)) ())
def aEy (h:Head)(key:Str):=(aAq h key).val
def awg:aS Z:=E0 [] [jS 2 (bU (fun sl=>[s0 11]) (l1 cI))] (aj (aF qC) (a1 (bu cStr))) (shr [s0 0, s0 1] (az cStr (l1 aH))) [] func135 2 (u2 aAq)
def path (s:Str)(m:Str):Pg (List UInt8):=.ob (List.length s+1<=9223372036854775807) (.lt (s++[47]) fun(v1:List UInt8)=> .ob (v1.length+List.length m<=9223372036854775807) (.ret (v1++m)))
def earlier (a:Int)(b:Int):Pg Int:=.br (decide (a < 1)) (.br (decide (b < 1)) (.ret 0) (.br (decide (a < 1)) (.ret b) (.br (decide (b < 1)) (.ret a) (.ret (min a b))))) (.br (decide (a < 1)) (.ret b) (.br (decide (b < 1)) (.ret a) (.ret (min a b))))
def apO (a:Int)(b:Int):=(earlier a b).val
def aol:aS Z:=E0 [] [] (aj (bu cI) (a1 (bu cI))) (R1 cI) [] func138 1 (u2 earlier)
def after (a:Int)(b:Int):Pg Int:=.ret (min (dB .i64 (min (max a 0) 1099511627776+min (max b 0) 1099511627776)) 1099511627776)
def TP (a:Int)(b:Int):=(after a b).val
def ajr:aS Z:=E0 [] [] (aj (bu cI) (a1 (bu cI))) (R1 cI) [] func29 1 (u2 after)
set_option maxHeartbeats 1000000 in
set_option maxRecDepth 100000 in
theorem TM (s:ByteArray)(c:Int)(w:World):
  Calls Tryz.prog 167 #[.string s, .int .u8 c] w fun e w'=>e= .returned (.int .i64 (Lib.indexByte s.data.toList c.toNat.toUInt8))/\w'=w:=by
 go_enter func167,ntmps167
 go_wp2
 rw[run_callFunc_extern func245 dU dU dU (e:=Extern.BytealgIndexByte.indexByte) dU,Lib.run_indexByteString];simp only[Result.andThen];rw[Oper.upon_value]
 go_wp2
 go_ret
 exact⟨rfl,rfl⟩
theorem afj {D:Type}{S:Sh D}:fV Tryz.prog S 167 (Et BV):=U_ (enters_of func167 dU dU) TM
set_option maxHeartbeats 1000000 in
set_option maxRecDepth 100000 in
theorem count_walk (s:ByteArray)(c:UInt8)(w:World):
  Calls Tryz.prog 172 #[.string s, .string ⟨#[c]⟩] w fun e w'=>e= .returned (.int .i64 (Lib.countByte s.data.toList c))/\w'=w:=by
 go_enter func172,ntmps172
 go_wp2
 rw[run_callFunc_extern func249 dU dU dU (e:=Extern.BytealgCount.count) dU,Lib.run_countString];simp only[Result.andThen];rw[Oper.upon_value]
 go_wp2
 go_ret
 exact⟨rfl,rfl⟩
theorem azf {D:Type}{S:Sh D}:fV Tryz.prog S 172 (Et aa6):=agC (enters_of func172 dU dU) count_walk
theorem aAN:∃j,Tryz.prog.info? 345=some j/\j.size=2:=Qcr.1 (show(Tryz.prog.info? 345).map (·.size)=some 2 by kernel_rfl)
theorem aHf:liesAt Tryz.prog Tryz.prog.depth 345 (2 / Tryz.prog.cellsOf 345) 0 345 1=true:=by kernel_rfl
set_option maxHeartbeats 1000000 in
set_option maxRecDepth 100000 in
theorem Wp (b:Nat)(w:World)(h0:w.cell? ⟨b,0,none⟩=some (.pointer (some ⟨b,0,none⟩))):
  Calls Tryz.prog 331 #[.pointer (some ⟨b,0,none⟩)] w fun e w'=>e= .returned (.tuple #[])/\w'=w:=by
 obtain⟨j,hj,_⟩:=aAN
 go_enter func331,ntmps331
 go_wp2
 rw[Lib.run_neq_ptr_same w _ underlying342 hj]
 go_wp2
 go_end0
 exact⟨rfl,rfl⟩
set_option maxHeartbeats 1000000 in
set_option maxRecDepth 100000 in
theorem Qs (b:Nat)(w:World)(h0:w.cell? ⟨b,0,none⟩=some (.pointer none))(hsh:w.shape? b=some (345,2))(hfz:w.frozen? ⟨b,0,none⟩=false):
  Calls Tryz.prog 331 #[.pointer (some ⟨b,0,none⟩)] w fun e w'=>e= .returned (.tuple #[])/\w'=w.setCell ⟨b,0,none⟩ (.pointer (some ⟨b,0,none⟩)):=by
 obtain⟨j,hj,hjs⟩:=aAN
 go_enter func331,ntmps331
 go_wp2
 rw[Lib.run_to_unsafe w ⟨b,0,none⟩ underlying342 underlying471 hj (by rw[hjs];decide) hsh (Nat.zero_lt_succ 1)];simp only[Result.andThen];rw[Oper.upon_value]
 go_wp2
 rw[run_callFunc_extern func392 dU dU dU (e:=Extern.AbiNoEscape.same) dU];rw[Lib.run_noEscape];simp only[Result.andThen];rw[Oper.upon_value]
 go_wp2
 rw[Lib.run_from_unsafe w ⟨b,0,none⟩ underlying471 underlying342 hj hsh aHf];simp only[Result.andThen];rw[Oper.upon_value]
 go_wp2
 go_end0
 exact⟨rfl,rfl⟩
theorem axO {D:Type}{S:Sh D}:fV Tryz.prog S 331 (RF 345):=ain (enters_of func331 dU dU) Wp Qs
def Pe:aS Z:=⟨167,Et BV,afj⟩
def axx:aS Z:=⟨172,Et aa6,azf⟩
def adZ:aS Z:=⟨331,RF 345,axO⟩
def Ia:aS Z:=aGJ Z [adZ] 217 func217 dU
def Zd:aS Z:=aGJ Z [] 221 func221 dU
def byteAt (s:Str)(p:Nat):Nat:=(s.getD p 0).toNat
def aHb (s:Str)(p:Nat):Bool:=decide (p < s.length)
def as4 (s:Str)(p:Nat):Bool:=aHb s p && (decide (128<=byteAt s p) && decide (byteAt s p<=191))
def dcN (b0 b1 b2 b3:Nat)(c1 c2 c3:Bool):Nat×Nat:=
 if b0 < 0x80 then(b0,1)
 else if b0 / 32==6 && c1 then(if (b0 % 32)*64+b1 % 64≥0x80 then((b0 % 32)*64+b1 % 64,2)else(65533,1))
 else if b0 / 16==14 && c1 && c2 then(if (b0 % 16)*4096+(b1 % 64)*64+b2 % 64≥0x800 && Utf8.valid (((b0 % 16)*4096+(b1 % 64)*64+b2 % 64:Nat):Int)then((b0 % 16)*4096+(b1 % 64)*64+b2 % 64,3)else(65533,1))
 else if b0 / 8==30 && c1 && c2 && c3 then(if (b0 % 8)*262144+(b1 % 64)*4096+(b2 % 64)*64+b3 % 64≥0x10000 && Utf8.valid (((b0 % 8)*262144+(b1 % 64)*4096+(b2 % 64)*64+b3 % 64:Nat):Int)then((b0 % 8)*262144+(b1 % 64)*4096+(b2 % 64)*64+b3 % 64,4)else(65533,1))
 else(65533,1)
theorem aaQ (s:Str)(p:Nat):Utf8.decode ⟨s.toArray⟩ p=dcN (byteAt s p) (byteAt s (p+1)) (byteAt s (p+2)) (byteAt s (p+3)) (as4 s (p+1)) (as4 s (p+2)) (as4 s (p+3)):=by
 have hb:∀k,((ByteArray.mk s.toArray).get! (p+k)).toNat=byteAt s (p+k):=by
  intro k;unfold byteAt;have:(ByteArray.mk s.toArray).get! (p+k)=s.getD (p+k) 0:=by
   show s.toArray[p+k]! =_
   simp[List.getD,List.getElem!_eq_getElem?_getD];rfl
  rw[this]
 have hc:∀k,(decide (p+k < (ByteArray.mk s.toArray).size) && byteAt s (p+k) / 64==2)=as4 s (p+k):=by
  intro k;unfold as4 aHb;have hs:(ByteArray.mk s.toArray).size=s.length:=by show s.toArray.size=_;simp
  rw[hs];congr 1;rw[Qdg];simp only[Qc7,jR,Qbn];omega
 have h0:=hb 0;rw[Qm]at h0;unfold Utf8.decode dcN;simp only[hb,hc,Utf8.runeError];simp only[Qm]
def csK:Str:=[97,98,99,100,101,102,103,104,105,106,107,108,109,110,111,112,113,114,115,116,117,118,119,120,121,122,48,49,50,51,52,53,54,55,56,57,45]
def Td (c:Int)(a:List Bool):Pg Bool:=.ob (0<=c/\c < 256) (.ob (c.toNat < a.length) (.ret (a.getD c.toNat false)))
theorem Xn (c:Int)(a:List Bool)(h:0<=c/\c < 256/\a.length=256):Is (Td c a):=
 aX au (aX au (aU))
def Ls:aS Z:=Qq [] [] (aj (atT 0 1) (a1 (bu (fO .u8)))) (b1 (iq 307 D.bool oW)) (R1 aH) [0] func250 1 (fun a=>Td a.1.2 a.2) (fun a=>some (0<=a.1.2/\a.1.2 < 256/\a.2.length=256)) (fun a=>a.2.getD a.1.2.toNat false) fun a h=>⟨Xn a.1.2 a.2 h,rfl⟩
def acm (s:Str)(a:List Bool):Pg (List UInt8):=.wh (s.length+1) default (fun(x1:List UInt8)=> .br (decide (0 < (↑x1.length:Int))) (.ix 0 x1.length (.ob (0<=(↑(x1.getD 0 0).toNat:Int)/\(↑(x1.getD 0 0).toNat:Int) < 256/\a.length=256) (.br (!a.getD (x1.getD 0 0).toNat false) (.ret (.inr x1)) (.ob ((0:Int)<=1/\1<=(↑x1.length:Int)/\(↑x1.length:Int)<=(↑x1.length:Int)) (rl (List.drop 1 (List.take x1.length x1))))))) (.ret (.inr x1))) s
def ab7 (s:Str)(a:List Bool):Pg (List UInt8):=.wh (s.length+1) default (fun(x1:List UInt8)=> .br (decide (0 < (↑x1.length:Int))) (.lt (dB .i64 ((↑x1.length:Int) - 1)) fun(v2:Int)=> .ix v2 x1.length (.ob (0<=(↑(x1.getD v2.toNat 0).toNat:Int)/\(↑(x1.getD v2.toNat 0).toNat:Int) < 256/\a.length=256) (.br (!a.getD (x1.getD v2.toNat 0).toNat false) (.ret (.inr x1)) (.ob ((0:Int)<=0/\0<=v2/\v2<=(↑x1.length:Int)) (rl (List.take v2.toNat x1)))))) (.ret (.inr x1))) s
theorem anH (s:Str)(a:List Bool)(h:a.length=256):(acm s a).val=s.dropWhile fun c=>a.getD c.toNat false:=by
 unfold acm;rw[Ns]
 suffices key:∀(s:Str) (n:Nat),s.length < n->whN _ default n s=s.dropWhile fun c=>a.getD c.toNat false from key s _ (Qdb _)
 intro s;induction s with
 | nil=>
  intro n hn;cases n with
  | zero=>simp at hn
  | succ n=>rfl
 | cons c s ih=>
  intro n hn;cases n with
  | zero=>simp at hn
  | succ n=>
   have h0:(0:Int) < ((c::s).length:Int):=by simp only[yF];omega
   have hc:((c::s).getD 0 0).toNat=c.toNat:=rfl;simp only[whN,bV,jZ,dP,aV,h0,decide_true,Bo,hc,List.dropWhile_cons];cases hb:a.getD c.toNat false with
   | false=>simp[hb]
   | true=>
    simp only[hb,Qcn,pO,if_true];have:List.drop 1 (List.take (c::s).length (c::s))=s:=by simp
    rw[this];exact ih n (by simpa using hn)
theorem aoh (s:Str)(a:List Bool)(hh:a.length=256/\s.length<=9223372036854775807):(ab7 s a).val=(s.reverse.dropWhile fun c=>a.getD c.toNat false).reverse:=by
 unfold ab7;rw[Ns]
 suffices key:∀(r:Str) (n:Nat),r.length < n->r.length<=9223372036854775807->whN _ default n r.reverse=(r.dropWhile fun c=>a.getD c.toNat false).reverse by
  have:=key s.reverse (s.length+1) qa2 (by simpa using hh.2);rwa [List.reverse_reverse]at this
 intro r;induction r with
 | nil=>
  intro n hn _;cases n with
  | zero=>simp at hn
  | succ n=>rfl
 | cons c r ih=>
  intro n hn hm;cases n with
  | zero=>simp at hn
  | succ n=>
   have hlen:((c::r).reverse).length=r.length+1:=by simp
   have h0:(0:Int) < (((c::r).reverse).length:Int):=by rw[hlen];omega
   have hw:dB .i64 ((((c::r).reverse).length:Int) - 1)=(r.length:Int):=by
    rw[hlen,gz (k:= .i64) (by simp only[Cm];simp at hm;omega)];omega
   have hc:((c::r).reverse).getD ((r.length:Int)).toNat 0=c:=by simp[List.getD]
   have h2:List.take r.length (c::r).reverse=r.reverse:=by simp
   simp only[whN,bV,dJ,jZ,dP,aV,h0,decide_true,Bo,hw,ww]at hc h2⊢;simp only[hc,h2,List.dropWhile_cons];cases hb:a.getD c.toNat false with
   | false=>simp[hb]
   | true=>
    simp only[hb,Qcn,pO,if_true];exact ih n (by simpa using hn) (by simp at hm;omega)
theorem amV (s:Str)(a:List Bool)(h:a.length=256):Is (acm s a):=
 by
 refine JI (fun _=>True) List.length trivial (Qdb _) (fun x1 _=>⟨gu (fun _=>dR au au (aX ⟨by omega,by have:=Qet (x1.getD 0 0);omega,h⟩ (dM iR (fun _=>aX au (aU))))) iR,fun x' hx=>⟨trivial,?_⟩⟩);revert hx;simp only[bV,jZ,dP,aV];by_cases h0:(0:Int) < (x1.length:Int)
 ·simp only[h0,decide_true,Bo];generalize a.getD _ false=q;cases q<;>intro e<;>cases e
  simp only[Nk,uw,Nat.min_self];omega
 ·simp only[h0,decide_false,pO];intro e;cases e
def asL:aS Z:=Qq [Ls] [jS 1 (bU (fun sl=>[s0 0]) (l1 cStr))] (aj (bu cStr) (a1 (atT 0 1))) (b1 (iq 307 D.bool oW)) (R1 cStr) [0] func177 1 (u11 acm) (fun a=>some (a.2.length=256)) (fun a=>a.1.1.dropWhile fun c=>a.2.getD c.toNat false) fun a h=>⟨amV a.1.1 a.2 h,anH a.1.1 a.2 h⟩
theorem anL (s:Str)(a:List Bool)(h:a.length=256/\s.length<=9223372036854775807):Is (ab7 s a):=
 by
 refine JI (fun x=>x.length<=9223372036854775807) List.length h.2 (Qdb _) (fun x1 hx1=>⟨gu (fun _=>uj fun v2 hv2 _=>dR au au (aX ⟨by omega,by have:=Qet (x1.getD v2.toNat 0);omega,h.1⟩ (dM iR (fun _=>aX au (aU))))) iR,fun x' hx=> ?_⟩);revert hx;simp only[bV,dJ,jZ,dP,aV];by_cases h0:(0:Int) < (x1.length:Int)
 ·simp only[h0,decide_true,Bo];generalize a.getD _ false=q;cases q<;>intro e<;>cases e
  rw[gz (k:= .i64) BZ];simp only[uw];omega
 ·simp only[h0,decide_false,pO];intro e;cases e
def apy:aS Z:=Qq [Ls] [jS 1 (bU (fun sl=>[s0 0]) (l1 cStr))] (aj (bu cStr) (a1 (atT 0 1))) (b1 (iq 307 D.bool oW)) (R1 cStr) [0] func178 1 (u11 ab7) (fun a=>some (a.2.length=256/\a.1.1.length<=9223372036854775807)) (fun a=>(a.1.1.reverse.dropWhile fun(c:UInt8)=>a.2.getD c.toNat false).reverse) fun a h=>⟨anL a.1.1 a.2 h,aoh a.1.1 a.2 h⟩
def asu (s:Str):Pg (List Bool×Bool):=.each true qi s 0 (fun i1 a3 (y2:List Bool)=> .ix i1 (List.length s) (.br (decide (128<=(↑a3.toNat:Int))) (.ob (y2.length=256) (.ob (y2.length=256) (.ret (.inr (wE 256 false (wE 256 false y2),false))))) (.ob (0<=(↑a3.toNat:Int)/\(↑a3.toNat:Int) < 256) (.ob (a3.toNat < y2.length) (rl (y2.set a3.toNat true)))))) (fun i1 (y2:List Bool)=> .ob (y2.length=256) (.ob (y2.length=256) (.ret (wE 256 false (wE 256 false y2),true)))) (List.replicate 256 false)
def acs (s:Str):=(asu s).val
theorem aqw (s:Str):Is (asu s):=
 by
 refine TS (fun _ y=>y.length=256) Qc0 (.inl rfl) (fun i1 y2 _ _ hI=>⟨dR au au (gu (fun _=>aX hI (aX hI (aU))) (fun _=>aX (by have:=Qet (s.getD i1 0);omega) (aX (by have hI:y2.length=256:=hI;have:=Qet (s.getD i1 0);omega) (aU)))),fun y' hy=> ?_⟩) (fun y2 _ hI=>aX hI (aX hI (aU)));revert hy;simp only[bV,jZ,dP,aV];by_cases h0:(128:Int)<=↑(s.getD i1 0).toNat
 ·simp only[h0,decide_true,Bo];intro e;cases e
 ·simp only[h0,decide_false,pO];intro e;cases e;rw[Qbm];exact hI
def azN:aS Z:=E0 [] [jS 2 (bU (fun sl=>[s0 4, .row (pid (sl 2)) 307]) (az cI (l1 Ae)))] (a1 (bu cStr)) (shr [.slot 0 true (nn 256), s0 1] (az (Hm 256 false aH) (l1 aH))) [] func176 2 asu fun a=>aqw a
theorem akR:(acs csK).2=true:=by kernel_rfl
def afM (c:UInt8):Bool:=(97<=c && c<=122) || (48<=c && c<=57) || c==45
theorem amz:((List.range 256).all fun i=>(wE 256 false (acs csK).1).getD i false==afM (UInt8.ofNat i))=true:=by kernel_rfl
theorem azA (c:UInt8):(wE 256 false (acs csK).1).getD c.toNat false=afM c:=by
 have:=Nv.1 amz c.toNat (Qcu.2 c.toNat_lt);have h:=eq_of_beq this;rw[h];congr 1;exact UInt8.ofNat_toNat
def ak1 (s:Str):Pg (List UInt8):=.br (s==[]) (.ret s) (.cut (fun(y1:Unit)=> .ob (256=256) (.lt (acs csK) fun(v2:List Bool×Bool)=> .br v2.2 (.ob ((wE 256 false v2.1).length=256/\List.length s<=9223372036854775807) (.ob ((wE 256 false v2.1).length=256) (.ret (List.dropWhile (fun(c:UInt8)=>(wE 256 false v2.1).getD c.toNat false) (List.dropWhile (fun(c:UInt8)=>(wE 256 false v2.1).getD c.toNat false) (List.reverse s)).reverse)))) (.no default))) (rl ()))
theorem aps (s:Str)(h:s.length<=9223372036854775807):(ak1 s).val=((s.reverse.dropWhile afM).reverse).dropWhile afM:=by
 unfold ak1;simp only[bV,aV,nJ,dP,dJ,qE,akR,Bo];cases s with
 | nil=>rfl
 | cons c s=>
  have:((c::s)==[])=false:=rfl;simp only[this,pO,azA]
theorem au3 (s:Str)(h:s.length<=9223372036854775807):Is (ak1 s):=
 dM iR (fun _=>qM (aU) (fun y1 hy1=>aX rfl (dF fun v2 hv2=>dM (fun _=>aX ⟨by simp[wE],h⟩ (aX (by simp[wE]) (aU))) (fun hb=>by rw[hv2,akR]at hb;cases hb))))
def ayH:aS Z:=w_ Z [azN,asL,apy] [jS 100005 (bU (fun sl=>[]) l0)] (args (aj (bu cStr) (a1 (bu cStr)))) (kH (n:=43) rfl) (R1 cStr) [] func110 ntmps110 dU 1 rfl (fun a=>ak1 (a.1)) (fun a=>some ((a.2=csK)/\((a.1).length<=9223372036854775807))) (fun⟨s,cs⟩ e h=>by have hf0:cs=csK:=h.1;subst hf0;show _=_;kernel_rfl) (fun a=>(((a.1).reverse.dropWhile afM).reverse).dropWhile afM) (fun a h=>⟨au3 (a.1) h.2,aps (a.1) h.2⟩)
def akf (s:Str)(p:Str):Pg Bool:=.br (decide ((↑(List.length p):Int)<=(↑(List.length s):Int))) (.ob ((0:Int)<=0/\0<=(↑(List.length p):Int)/\(↑(List.length p):Int)<=(↑(List.length s):Int)) (.as (List.length s<=9223372036854775807) (.as (List.length p<=9223372036854775807) (.as (List.length p<=9223372036854775807) (.ret (List.take (List.length p) s==p)))))) (.as (List.length s<=9223372036854775807) (.as (List.length p<=9223372036854775807) (.ret false)))
def aqF (s:Str)(p:Str):=(akf s p).val
def an7:aS Z:=E0 [] [] (aj (bu cStr) (a1 (bu cStr))) (R1 aH) [] func346 1 (u2 akf)
def avn (s:Str)(p:Str):Pg Bool:=.ret (aqF s p)
def ayp (s:Str)(p:Str):=(avn s p).val
def arb:aS Z:=E0 [an7] [] (aj (bu cStr) (a1 (bu cStr))) (R1 aH) [] func253 1 (u2 avn)
def wrong (s:Str)(at_:Int)(c:Int):Pg Bool:=.br (c==65533) (.ob (0<=at_/\at_<=(↑(List.length s):Int)/\(↑(List.length s):Int)<=(↑(List.length s):Int)) (.ret !ayp (List.drop at_.toNat (List.take (List.length s) s)) [239,191,189])) (.ret false)
def aCw (s:Str)(at_:Int)(c:Int):=(wrong s at_ c).val
def awM:aS Z:=E1 [arb] [] (aj (bu cStr) (aj (bu cI) (a1 (bu (fO .i32))))) (R1 aH) [] func181 1 (u3 wrong) fun a=>0<=a.2.1/\a.2.1<=a.1.length
def bad (s:Str):Pg Int:=.wh (s.length+1) default (fun(x1:List UInt8×Int)=> .br (decide (x1.2.toNat < x1.1.length)) (.ob (0<=(↑x1.2.toNat:Int)/\(↑x1.2.toNat:Int)<=(↑(List.length s):Int)) (.br (aCw s (↑x1.2.toNat:Int) (DZ x1.1 x1.2.toNat)) (.ret (.inr (↑x1.2.toNat:Int))) (rl (x1.1,(↑(x1.2.toNat+NZ x1.1 x1.2.toNat):Int))))) (.ret (.inr (-1)))) (s,0)
def aJG (s:Str):=(bad s).val
theorem aup (s:Str)(p:Nat):1<=NZ s p/\NZ s p<=4:=by
 unfold NZ;rw[aaQ];unfold dcN;(repeat' split)<;>exact⟨by simp,by simp⟩
theorem aCd (s:Str)(h:s.length<=9223372036854775700):Is (bad s):=
 by
 refine JI (fun x=>x.1=s/\0<=x.2/\x.2<=s.length+4) (fun x=>s.length - x.2.toNat) ⟨rfl,by omega,by omega⟩ au (fun x hx=>⟨gu (fun hlt=>aX (by rw[hx.1]at*;omega) (dM iR iR)) iR,fun x' hx'=> ?_⟩);obtain⟨t,x⟩:=x;obtain⟨rfl,h2,h3⟩:=hx;have hd:=aup t x.toNat;revert hx';simp only[bV,dP,aV,Qc];(repeat' split)<;>intro e<;>cases e
 rename_i h0 _;simp only[Qbn]at h0;exact⟨⟨rfl,by omega,by omega⟩,by simp only[ww];omega⟩
def aGB:aS Z:=E1 [awM] [jS 2 (bU (fun sl=>[.iter (pid (sl 6))]) (l1 (bH cStr cI)))] (a1 (bu cStr)) (R1 cI) [] func111 1 bad (fun a=>a.length<=9223372036854775700) fun a h=>aCd a h
def arD (s:Str):Pg Bool:=.ob (List.length s<=9223372036854775700) (.lt (aJG s) fun(v1:Int)=> .ret (decide (v1 < 0)))
def BA (s:Str):=(arD s).val
def A8:aS Z:=E1 [aGB] [] (a1 (bu cStr)) (R1 aH) [] func72 1 arD fun a=>a.length<=9223372036854775700
def isKey (s:Str):Pg Bool:=.br (s !=[]) (.br (decide ((↑(List.length s):Int)<=40)) (.ob ([97,98,99,100,101,102,103,104,105,106,107, 108,109,110,111,112,113,114,115,116,117,118, 119,120,121,122,48,49,50,51,52,53,54, 55,56,57,45]= csK/\ List.length s<=9223372036854775807) (.ret (List.dropWhile afM (List.dropWhile afM (List.reverse s)).reverse==[]))) (.ret false)) (.ret false)
def aEX (s:Str):=(isKey s).val
theorem arz (s:Str)(h:s.length<=9223372036854775700):Is (isKey s):=
 dM (fun _=>gu (fun _=>aX ((⟨rfl,by omega⟩)) (aU)) iR) iR
def azL:aS Z:=E1 [ayH] [] (a1 (bu cStr)) (R1 aH) [] func71 1 isKey (fun a=>a.length<=9223372036854775700) fun a h=>arz a h
def entry (key:Str)(val:Str):Pg Int:=.ob (List.length key<=9223372036854775700) (.br (!aEX key) (.ret 8) (.br (decide (200 < (↑(List.length val):Int))) (.ret 3) (.ob (List.length val<=9223372036854775700) (.br (!BA val) (.ret 7) (.ret 0)))))
def asv (key:Str)(val:Str):=(entry key val).val
def ajt:aS Z:=E1 [azL,A8] [] (aj (bu cStr) (a1 (bu cStr))) (R1 cI) [] func37 1 (u2 entry) fun a=>a.1.length<=9223372036854775700
def check (l:List iZ):Pg Int:=.br (decide (8 < (↑l.length:Int))) (.ret 3) (aL l (.each false wB l uk (fun i1 a3 (y2:Unit)=> .ix i1 l.length (.br (!ax4 a3) (.ret (.inr 1)) (.lt (asv a3.Key a3.Val) fun(v4:Int)=> .br (a3.Kind==1) (.ob (List.length a3.Key<=9223372036854775700) (.br (v4 !=0) (.ret (.inr v4)) (rl ()))) (.br (a3.Kind==4) (.ob (List.length a3.Key<=9223372036854775700) (.br (v4 !=0) (.ret (.inr v4)) (rl ()))) (rl ()))))) (fun i1 (y2:Unit)=> .ret 0) ()))
def aCq (l:List iZ):=(check l).val
def IX (l:List iZ):Prop:=∀x∈l,x.Key.length<=1048576
theorem arE (l:List iZ)(h:IX l):Is (check l):=
 gu iR (fun _=>iL fun _=>iF (.inr au) (fun i1 y2 _ _=>dR au au (dM iR (fun _=>dF fun v4 hv4=>oI (fun _=>aX qcc (jQ iR iR)) (fun _=>oI (fun _=>aX qcc (jQ iR iR)) iR)))) (fun y2 _=>aU))
def azx:aS Z:=E1 [atQ,ajt] [jS 4 (bU (fun sl=>[s0 11]) (l1 cI))] (a1 (bu qJ)) (R1 cI) [] func17 1 check (fun a=>IX a) fun a h=>arE a h
def pcB (c:UInt8):Bool:=(decide (97<=c.toNat) && decide (c.toNat<=122)) || (decide (65<=c.toNat) && decide (c.toNat<=90))
def pnB (c:UInt8):Bool:=pcB c || (decide (48<=c.toNat) && decide (c.toNat<=57)) || decide (c.toNat=95)
theorem akF (c:UInt8):pcB c=true ↔ (97<=c.toNat/\c.toNat<=122)\/(65<=c.toNat/\c.toNat<=90):=by
 unfold pcB;simp only[Qbx,jR,Qbn]
theorem alp (c:UInt8):pnB c=true ↔ ((97<=c.toNat/\c.toNat<=122)\/(65<=c.toNat/\c.toNat<=90))\/(48<=c.toNat/\c.toNat<=57)\/c.toNat=95:=by
 unfold pnB;simp only[Qbx,jR,Qbn,akF,or_assoc]
theorem aju {s:Str}{p:Nat}(h:byteAt s p < 128):DZ s p=(byteAt s p:Int)/\NZ s p=1:=by
 unfold DZ NZ;rw[aaQ];unfold dcN;rw[mi h];exact⟨rfl,rfl⟩
theorem aqX {s:Str}{p:Nat}(h:128<=byteAt s p):128<=DZ s p:=by
 unfold DZ;rw[aaQ];unfold dcN;rw[lL au];have key:∀(a b:Prop) [Decidable a] [Decidable b] (x y z:Nat×Nat),128<=x.1->128<=y.1->128<=z.1->True:=fun _ _ _ _ _ _ _ _ _ _=>trivial
 (repeat' split)<;>simp_all<;>omega
def cls (c:Int):Pg Int:=.br (decide (97<=c)) (.br (decide (c<=122)) (.ret 1) (.br (decide (65<=c)) (.br (decide (c<=90)) (.ret 2) (.br (decide (48<=c)) (.br (decide (c<=57)) (.ret 3) (.br (c==95) (.ret 4) (.ret 0))) (.br (c==95) (.ret 4) (.ret 0)))) (.br (decide (48<=c)) (.br (decide (c<=57)) (.ret 3) (.br (c==95) (.ret 4) (.ret 0))) (.br (c==95) (.ret 4) (.ret 0))))) (.br (decide (65<=c)) (.br (decide (c<=90)) (.ret 2) (.br (decide (48<=c)) (.br (decide (c<=57)) (.ret 3) (.br (c==95) (.ret 4) (.ret 0))) (.br (c==95) (.ret 4) (.ret 0)))) (.br (decide (48<=c)) (.br (decide (c<=57)) (.ret 3) (.br (c==95) (.ret 4) (.ret 0))) (.br (c==95) (.ret 4) (.ret 0))))
def Xl (c:Int):=(cls c).val
def aGQ:aS Z:=E0 [] [] (a1 (bu (fO .i32))) (R1 cI) [] func64 1 cls
theorem axr (c:Int):Xl c=if 97<=c/\c<=122 then 1 else if 65<=c/\c<=90 then 2 else if 48<=c/\c<=57 then 3 else if c=95 then 4 else 0:=by
 unfold Xl cls;simp only[bV,aV,Qc,Qbn,Qc7];(repeat' split)<;>first | rfl | omega
theorem apL (s:Str)(p:Nat):(Xl (DZ s p)=0 ↔ pnB (s.getD p 0)=false)/\((Xl (DZ s p)=1\/Xl (DZ s p)=2) ↔ pcB (s.getD p 0)=true):=by
 have hp:=akF (s.getD p 0);have hn:=alp (s.getD p 0);rw[axr,Bool.eq_false_iff,ne_eq,hp,hn];have hb:byteAt s p=(s.getD p 0).toNat:=rfl;by_cases h:byteAt s p < 128
 ·rw[(aju h).1,hb];generalize (s.getD p 0).toNat=b;(repeat' split)<;>omega
 ·have:=aqX (s:=s) (p:=p) au;rw[hb]at h;generalize (s.getD p 0).toNat=b at*;generalize DZ s p=c at*;(repeat' split)<;>omega
theorem auB {s:Str}{p:Nat}(h:pnB (s.getD p 0)=true):NZ s p=1:=by
 have:=(alp _).1 h;exact(aju (s:=s) (p:=p) (by show(s.getD p 0).toNat < 128;omega)).2
def asQ (s:Str):Pg Bool:=.wh (s.length+1) default (fun(x1:List UInt8×Int)=> .br (decide (x1.2.toNat < x1.1.length)) (.lt (Xl (DZ x1.1 x1.2.toNat)) fun(v2:Int)=> .br (v2==0) (.ret (.inr false)) (.br ((↑x1.2.toNat:Int)==0) (.br (v2 !=1) (.br (v2 !=2) (.ret (.inr false)) (rl (x1.1,(↑(x1.2.toNat+NZ x1.1 x1.2.toNat):Int)))) (rl (x1.1,(↑(x1.2.toNat+NZ x1.1 x1.2.toNat):Int)))) (rl (x1.1,(↑(x1.2.toNat+NZ x1.1 x1.2.toNat):Int))))) (.br (decide (1<=(↑(List.length s):Int))) (.ret (.inr (decide ((↑(List.length s):Int)<=40)))) (.ret (.inr false)))) (s,0)
def ab4 (s:Str):=(asQ s).val
theorem apK (s:Str):Is (asQ s):=
 by
 refine JI (fun x=>x.1=s/\0<=x.2) (fun x=>s.length - x.2.toNat) ⟨rfl,by omega⟩ qa2 (fun x hx=>⟨gu (fun _=>dF fun v2 hv2=>oI iR (fun _=>oI (fun _=>jQ (fun _=>jQ iR iR) iR) iR)) (fun _=>gu iR iR),fun x' hx'=> ?_⟩);obtain⟨t,x⟩:=x;obtain⟨rfl,h2⟩:=hx;dsimp only at h2 hx'⊢;revert hx';simp only[bV,dJ,aV];by_cases h0:x.toNat < t.length
 ·rw[uu h0,Bo];by_cases h1:Xl (DZ t x.toNat)=0
  ·rw[h1];intro e;cases e
  ·have hp:pnB (t.getD x.toNat 0)=true:=by
    rw[<-Bool.not_eq_false];exact fun e=>h1 ((apL t x.toNat).1.2 e)
   have hw:=auB hp;have:(Xl (DZ t x.toNat)==0)=false:=by simpa using h1
   rw[this,pO,hw];intro e;have e2:x'=(t,((x.toNat+1:Nat):Int)):=by
    revert e;cases((x.toNat:Int)==0)<;>cases(Xl (DZ t x.toNat) !=1)<;>cases(Xl (DZ t x.toNat) !=2)<;>simp only[Bo,pO]<;>intro e<;>first | (cases e;rfl) | (cases e;done)
   subst e2;exact⟨⟨rfl,by omega⟩,by show t.length - (((x.toNat+1:Nat):Int)).toNat < _;omega⟩
 ·rw[qy h0,pO];intro e;revert e;cases decide ((1:Int)<=(t.length:Int))<;>intro e<;>cases e
def Q5:aS Z:=E0 [aGQ] [jS 2 (bU (fun sl=>[.iter (pid (sl 7))]) (l1 (bH cStr cI)))] (a1 (bu cStr)) (R1 aH) [] func34 1 asQ fun a=>apK a
def vO:Str:=[46]
def akX (s:Str):Pg Int:=.as (List.length vO<=9223372036854775807) (.br (vO==s) (.ret 0) (.ix 0 (List.length vO) (.ret (Lib.indexByte s (List.getD vO 0 0).toNat.toUInt8))))
def acr (s:Str):=(akX s).val
theorem auI (s:Str):Is (akX s):=
 iL fun _=>dM iR (fun _=>dR nG nG aU)
def aj7:aS Z:=w_ Z [Pe] [jS 15 (bU (fun sl=>[s0 8, s0 10]) (az cI (l1 cI)))] (args (aj (bu cStr) (a1 (bu cStr)))) (kH (n:=143) rfl) (R1 cI) [] func106 ntmps106 dU 1 rfl (fun a=>akX (a.1)) (fun a=>some (a.2=vO)) (fun⟨s,p⟩ e h=>by have hf0:p=vO:=h;subst hf0;show _=_;kernel_rfl) (fun a=>acr (a.1)) (fun a h=>⟨auI (a.1),rfl⟩)
theorem apf (s:Str):acr s=Lib.indexByte s 46:=by
 unfold acr akX;simp only[lh,nJ,bV,dP,aV];by_cases h:vO=s
 ·subst h;rfl
 ·have:(vO==s)=false:=by simpa using h
  rw[this];rfl
theorem acb:((List.length vO:Nat):Int)=1:=rfl
def aHJ (s:Str):Pg Int:=.ob (vO=vO) (.ret (acr s))
theorem ayE (s:Str):Is (aHJ s):=
 aX rfl aU
def aCK:aS Z:=w_ Z [aj7] [] (args (aj (bu cStr) (a1 (bu cStr)))) (kH (n:=8) rfl) (R1 cI) [] func173 ntmps173 dU 1 rfl (fun a=>aHJ (a.1)) (fun a=>some (a.2=vO)) (fun⟨s,p⟩ e h=>by have hf0:p=vO:=h;subst hf0;show _=_;kernel_rfl) (fun a=>Lib.indexByte (a.1) 46) (fun a h=>⟨ayE (a.1),apf (a.1)⟩)
def abB (i:Int)(y:List UInt8×List Str):(List UInt8×List Str)⊕((List UInt8×Int×List Str)⊕List Str):=
 bif decide (Lib.indexByte y.1 46 < 0)then .inr (.inl (y.1,i,y.2))else .inl (List.drop (dB .i64 (Lib.indexByte y.1 46+1)).toNat (List.take y.1.length y.1),y.2.set i.toNat (List.take (dB .i64 (Lib.indexByte y.1 46+0)).toNat y.1))
def aAt (i:Int)(y:List UInt8×List Str):(List UInt8×Int×List Str)⊕List Str:= .inl (y.1,i,y.2)
theorem ZA {r:Str}(hr:r.length<=4294967296)(h:0 < Lib.countByte r 46):∃m:Nat,Lib.indexByte r 46=(m:Int)/\m < r.length/\lJ 46 r=r.take m::lJ 46 (r.drop (m+1))/\Lib.countByte r 46=Lib.countByte (r.drop (m+1)) 46+1:=by
 have hge:=Lib.indexByte_ge r 46;by_cases h1:Lib.indexByte r 46= -1
 ·have:=(Jv h1).2;omega
 ·obtain⟨m,hm⟩:∃m:Nat,Lib.indexByte r 46=(m:Int):=⟨(Lib.indexByte r 46).toNat,by omega⟩;obtain⟨k1,k2,k3⟩:=I8 hm;exact⟨m,hm,k1,k2,k3⟩
theorem axQ {r:Str}{a:List Str}{i:Nat}(hr:r.length<=4294967296)(h:0 < Lib.countByte r 46):∃m:Nat,abB (i:Int) (r,a)= .inl (r.drop (m+1),a.set i (r.take m))/\lJ 46 r=r.take m::lJ 46 (r.drop (m+1))/\Lib.countByte r 46=Lib.countByte (r.drop (m+1)) 46+1:=by
 obtain⟨m,hm,k1,k2,k3⟩:=ZA hr h;refine⟨m,?_,k2,k3⟩;unfold abB;have w1:dB .i64 ((m:Int)+1)=((m+1:Nat):Int):=v_ au;have w2:dB .i64 ((m:Int)+0)=((m:Nat):Int):=by rw[Int.add_zero,gz (k:= .i64) BZ]
 rw[hm,w1,w2,qy (show ¬(m:Int) < 0 by omega),pO,Eo,ww,ww,ww]
theorem aaB:∀(n i:Nat) (r:Str) (a:List Str),Lib.countByte r 46=n->a.length=i+n+1->r.length<=4294967296->∃r' a',Hg abB aAt n (i:Int) (r,a)= .inl (r',((i+n:Nat):Int),a')/\a'.length=i+n+1/\a'.take (i+n)++[r']=a.take i++lJ 46 r
 | 0,i,r,a,hc,ha,hr=>by
  have h1:Lib.indexByte r 46= -1:=by
   have hge:=Lib.indexByte_ge r 46;by_cases h1:Lib.indexByte r 46= -1
   ·exact h1
   ·obtain⟨_,_,k3⟩:=I8 (s:=r) (c:=46) (m:=(Lib.indexByte r 46).toNat) au;omega
  exact⟨r,a,rfl,ha,by rw[(Jv h1).1];rfl⟩
 | n+1,i,r,a,hc,ha,hr=>by
  obtain⟨m,hb,k2,k3⟩:=axQ (a:=a) (i:=i) hr au;have hr1:(r.drop (m+1)).length<=4294967296:=by rw[Nk];omega
  obtain⟨r',a',h1,h2,h3⟩:=aaB n (i+1) (r.drop (m+1)) (a.set i (r.take m)) au qcd hr1;refine⟨r',a',?_,by omega,?_⟩
  ·unfold Hg;rw[hb];have e:((i:Int)+1)=((i+1:Nat):Int):=rfl;rw[e];simp only;rw[h1,show i+1+n=i+(n+1) by omega]
  ·rw[show i+(n+1)=i+1+n by omega,h3,k2];have:(a.set i (r.take m)).take (i+1)=a.take i++[r.take m]:=by
    rw[Qez,List.take_add_one,Xh au];have hlt:(a.take i).length=i:=by rw[uw];omega
    simp only[Option.toList_some];rw[Qed _ _ au,hlt,Qeq];rfl
   rw[this,Oy];rfl
theorem aIp (s:Str)(h:s.length<=4294967296):min (dB .i64 ((Lib.countByte s 46:Int)+1)) (dB .i64 ((s.length:Int)+1))=((Lib.countByte s 46+1:Nat):Int)/\dB .i64 (((Lib.countByte s 46+1:Nat):Int) - 1)=((Lib.countByte s 46:Nat):Int):=by
 have hc:=count_le 46 s;have w1:dB .i64 ((Lib.countByte s 46:Int)+1)=((Lib.countByte s 46+1:Nat):Int):=v_ au;have w2:dB .i64 ((s.length:Int)+1)=((s.length+1:Nat):Int):=v_ au;rw[w1,w2,gz (k:= .i64) BZ];omega
def Z7 (s:Str):Pg (List Str):=.cut (fun(y1:Int)=> .lt (dB .i64 ((↑(List.length s):Int)+1)) fun(v5:Int)=> .ob (min y1 v5=min y1 v5/\0<=min y1 v5/\min y1 v5*(16:Int)<=281474976710656/\min y1 v5<=1099511627776) (.cut (fun(y4:List UInt8×Int×List Str)=> .ix y4.2.1 y4.2.2.length (.ob (y4.2.1.toNat < y4.2.2.length) (.lt (y4.2.2.set y4.2.1.toNat y4.1) fun(v6:List Str)=> .lt (dB .i64 (y4.2.1+1)) fun(v7:Int)=> .ob ((0:Int)<=0/\0<=v7/\v7<=(↑v6.length:Int)) (.ret (List.take v7.toNat v6))))) (.lt (dB .i64 (min y1 v5 - 1)) fun(v8:Int)=> .cnt qi 0 v8 (fun i2 (y3:List UInt8×List Str)=> .ob (vO=vO) (.br (decide (Lib.indexByte y3.1 46 < 0)) (.ret (.inr (.inl (y3.1,i2,y3.2)))) (.lt (dB .i64 (Lib.indexByte y3.1 46+0)) fun(v9:Int)=> .ob ((0:Int)<=0/\0<=v9/\v9<=(↑y3.1.length:Int)) (.ix i2 y3.2.length (.ob (i2.toNat < y3.2.length) (.lt (dB .i64 (Lib.indexByte y3.1 46+(↑(List.length vO):Int))) fun(v10:Int)=> .ob (0<=v10/\v10<=(↑y3.1.length:Int)/\(↑y3.1.length:Int)<=(↑y3.1.length:Int)) (.as (List.length vO<=9223372036854775807) (rl (List.drop v10.toNat (List.take y3.1.length y3.1),y3.2.set i2.toNat (List.take v9.toNat y3.1)))))))))) (fun i2 (y3:List UInt8×List Str)=> rl (y3.1,i2,y3.2)) (s,List.replicate (min y1 v5).toNat [])))) (rl (dB .i64 ((↑(Lib.countByte s 46):Int)+1)))
def Q8 (s:Str):=(Z7 s).val
theorem ank (s:Str)(h:s.length<=4294967296):Is (Z7 s):=
 by
 obtain⟨hn,hc⟩:=aIp s h;have hcl:=count_le 46 s;refine qM aU (fun y1 hy1=> ?_);have hy1:dB .i64 ((Lib.countByte s 46:Int)+1)=y1:=by injection hy1
 subst hy1;refine dF fun v5 hv5=> ?_;subst hv5;rw[hn];refine aX ⟨rfl,by omega,by omega,by omega⟩ (qM (dF fun v8 Nl=> ?_) fun y4 hy4=> ?_)
 ·subst Nl;rw[hc];refine LY (fun i y=>0<=i/\y.2.length=Lib.countByte s 46+1/\(Lib.countByte y.1 46:Int)=(Lib.countByte s 46:Int) - i/\y.1.length<=s.length) ⟨by omega,by rw[Qc0];omega,by show(Lib.countByte s 46:Int)=_;omega,l9 _⟩ au au (fun i2 y3 h1 h2 hI=> ?_) (fun i2 y3 _ _ _=>aU);obtain⟨hi,q1,q2,q3⟩:=hI;obtain⟨m,hm,k1,k2,k3⟩:=ZA (r:=y3.1) au au;have w1:dB .i64 ((m:Int)+1)=((m+1:Nat):Int):=v_ au;have w2:dB .i64 ((m:Int)+0)=((m:Nat):Int):=by rw[Int.add_zero,gz (k:= .i64) BZ]
  rw[hm];rw[acb,w1,w2];refine⟨aX rfl (gu iR (fun _=>dF fun v10 JB=>aX au (dR au au (aX au (dF fun v11 XU=>aX au (iL fun _=>aU)))))),fun y' hy'=> ?_⟩
  ·revert hy';simp only[dP,dJ,bV,jZ,lh,aV];rw[qy (show ¬(m:Int) < 0 by omega),pO,Eo];intro e;injection e with e
   subst e;refine⟨by omega,by simp only[Qbm];exact q1,?_,?_⟩
   ·show(Lib.countByte (List.drop ((m+1:Nat):Int).toNat y3.1) 46:Int)=_
    rw[ww];omega
   ·show(List.drop ((m+1:Nat):Int).toNat y3.1).length<=_
    rw[Nk];omega
 ·obtain⟨r',a',h1,h2,h3⟩:=aaB (Lib.countByte s 46) 0 s (List.replicate (((Lib.countByte s 46+1:Nat):Int)).toNat []) rfl (by rw[Qc0];omega) h;have e:y4=(r',((0+Lib.countByte s 46:Nat):Int),a'):=by
   have:=hy4;simp only[dJ,BX,dP,bV,jZ,lh,aV,hc,acb]at this;have h1':=h1;rw[show(((Lib.countByte s 46:Nat):Int) - 0).toNat=Lib.countByte s 46 by omega]at this;have h4:=this.symm.trans h1';injection h4
  subst e;dsimp only;have w:dB .i64 (((0+Lib.countByte s 46:Nat):Int)+1)=((0+Lib.countByte s 46+1:Nat):Int):=v_ au;exact dR au au (aX au (dF fun v6 hv6=>dF fun v7 hv7=>aX (by rw[hv7,w,hv6,Qbm];omega) aU))
def as2:aS Z:=w_ Z [axx,aCK] [jS 11 (bU (fun sl=>[s0 10, s0 0, .row (pid (sl 9)) 9]) (az cI (az cStr (l1 dh)))),jS 100007 (bU (fun sl=>[s0 3]) (l1 cI)),jS 100017 (bU (fun sl=>[s0 0, s0 10, .row (pid (sl 9)) 9]) (az cStr (az cI (l1 dh))))] (args (aj (bu cStr) (aj (bu cStr) (aj (bu cI) (a1 (bu cI)))))) (kH (n:=66) rfl) (R1 dh) [] func107 ntmps107 dU 1 rfl (fun a=>Z7 (a.1)) (fun a=>some ((a.2.1=vO/\a.2.2.1=0/\a.2.2.2=(-1))/\((a.1).length<=4294967296))) (fun⟨s,p,save,n⟩ e h=>by have hf0:p=vO:=h.1.1;subst hf0;have hf1:save=0:=h.1.2.1;subst hf1;have hf2:n=(-1):=h.1.2.2;subst hf2;show _=_;kernel_rfl) (fun a=>Q8 (a.1)) (fun a h=>⟨ank (a.1) h.2,rfl⟩)
theorem amr (s:Str)(h:s.length<=4294967296):Q8 s=lJ 46 s:=by
 obtain⟨hn,hc⟩:=aIp s h;have hcl:=count_le 46 s;obtain⟨r',a',h1,h2,h3⟩:=aaB (Lib.countByte s 46) 0 s (List.replicate (((Lib.countByte s 46+1:Nat):Int)).toNat []) rfl (by rw[Qc0];omega) h;unfold Q8 Z7;simp only[nJ,dJ,BX,dP,bV,jZ,lh,aV,qE,hn,hc,acb];rw[show(((Lib.countByte s 46:Nat):Int) - 0).toNat=Lib.countByte s 46 by omega];have h1':(Hg abB aAt (Lib.countByte s 46) 0 (s,List.replicate (((Lib.countByte s 46+1:Nat):Int)).toNat []):(List UInt8×Int×List Str)⊕List Str)= .inl (r',((0+Lib.countByte s 46:Nat):Int),a'):=h1;refine(Qc5 (fun x:(List UInt8×Int×List Str)⊕List Str=>thenS x _) h1').trans ?_;rw[qE];have w:dB .i64 (((0+Lib.countByte s 46:Nat):Int)+1)=((0+Lib.countByte s 46+1:Nat):Int):=v_ au;dsimp only;rw[w,ww,ww];rw[DU]at*;rw[Qer,Qci]at h3;rw[<-h3,Qez,List.take_add_one,Xh au];have hlt:(a'.take (Lib.countByte s 46)).length=Lib.countByte s 46:=by rw[uw];omega
 simp only[Option.toList_some];rw[Qed _ _ au,hlt,Qeq];rfl
def auR (s:Str):Pg (List Str):=.ob ((vO=vO/\(0:Int)=0/\(-1)=(-1))/\List.length s<=4294967296) (.ret (Q8 s))
theorem anq (s:Str)(h:s.length<=4294967296):Is (auR s):=
 aX ⟨⟨rfl,rfl,rfl⟩,h⟩ aU
def Us:aS Z:=w_ Z [as2] [] (args (aj (bu cStr) (a1 (bu cStr)))) (kH (n:=8) rfl) (R1 dh) [] func63 ntmps63 dU 1 rfl (fun a=>auR (a.1)) (fun a=>some ((a.2=vO)/\((a.1).length<=4294967296))) (fun⟨s,p⟩ e h=>by have hf0:p=vO:=h.1;subst hf0;show _=_;kernel_rfl) (fun a=>lJ 46 (a.1)) (fun a h=>⟨anq (a.1) h.2,amr (a.1) h.2⟩)
def aAU (s:Str):Pg Bool:=.ob ([46]=vO/\List.length s<=4294967296) (.as ((lJ 46 s).length<=9223372036854775807) (.each false wB (lJ 46 s) [] (fun i1 a3 (y2:Unit)=> .ix i1 (lJ 46 s).length (.br (!ab4 a3) (.ret (.inr false)) (rl ()))) (fun i1 (y2:Unit)=> .ret (decide ((↑(List.length s):Int)<=120))) ()))
def aiL (s:Str):=(aAU s).val
def acK:aS Z:=E1 [Q5,Us] [jS 2 (bU (fun sl=>[s0 8]) (l1 cI))] (a1 (bu cStr)) (R1 aH) [] func33 1 aAU fun a=>a.length<=4294967296

def sIs (k:Int):Pg Bool:=.br (decide (1<=k)) (.ret (decide (k<=9))) (.ret false)
def jG (k:Int):=(sIs k).val
def YD:aS Z:=E0 [] [] (a1 (bu cI)) (R1 aH) [] func337 1 sIs
def at1 (k:Int):Pg Bool:=.br (k==7) (.ret true) (.ret (k==8))
def JY (k:Int):=(at1 k).val
def ael:aS Z:=E0 [] [] (a1 (bu cI)) (R1 aH) [] func395 1 at1
def aBm (v:af):Pg Bool:=aL v.List (aL v.Pairs (aL v.Slots (aL v.bJ (.lt (dB .i64 (dB .i64 (dB .i64 ((↑v.List.length:Int)+(↑v.Pairs.length:Int))+(↑v.Slots.length:Int))+(↑v.bJ.length:Int))) fun(v1:Int)=> .br (decide (0 < v1)) (.ret false) (.br (JY v.Kind) (.ret (v.Bits==0)) (.ret (v.Text==[])))))))
def ati (v:af):=(aBm v).val
def akZ:aS Z:=E0 [ael] [] (a1 (aF aI)) (R1 aH) [] func338 1 aBm
def ajE (k:Int)(b:Int):Pg Bool:=.br (k==1) (.ret (decide (b<=1))) (.br (k==2) (.lt (dB .i64 b) fun(v1:Int)=> .br (decide ((-2147483648)<=v1)) (.ret (decide (v1<=2147483647))) (.ret false)) (.br (k==9) (.ret (decide (b<=2147483647))) (.br (k==4) (.ret (decide (b<=4294967295))) (.ret true))))
def arq (k:Int)(b:Int):=(ajE k b).val
def anv:aS Z:=E0 [] [] (aj (bu cI) (a1 (bu (fO .u64)))) (R1 aH) [] func339 1 (u2 ajE)
def aAT (k:Int)(v:af):Pg Bool:=.br (!jG k) (.ret false) (.br (v.Kind !=k) (.ret false) (.br (!ati v.re) (.ret false) (.br (!arq k v.Bits) (.ret false) (.br (decide (4096 < (↑(List.length v.Text):Int))) (.ret false) (.br (k !=7) (.ret true) (.ob (List.length v.Text<=9223372036854775700) (.ret (BA v.Text))))))))
def TE (k:Int)(v:af):=(aAT k v).val
def SC:aS Z:=E0 [A8,YD,akZ,anv] [] (aj (bu cI) (a1 (aF aI))) (R1 aH) [] func239 1 (u2 aAT)
def asA (b:Int):Pg Int:=.br (wJ .u64 b (9218868437227405312:Int)==9218868437227405312) (.br (wJ .u64 b (4503599627370495:Int) !=0) (.ret 0) (.br (wJ .u64 b (9218868437227405312:Int)==9218868437227405312) (.ret 1) (.br (wJ .u64 b (9218868437227405312:Int)==0) (.br (wJ .u64 b (4503599627370495:Int)==0) (.ret 2) (.br (wJ .u64 b (9218868437227405312:Int)==0) (.ret 3) (.ret 4))) (.br (wJ .u64 b (9218868437227405312:Int)==0) (.ret 3) (.ret 4))))) (.br (wJ .u64 b (9218868437227405312:Int)==9218868437227405312) (.ret 1) (.br (wJ .u64 b (9218868437227405312:Int)==0) (.br (wJ .u64 b (4503599627370495:Int)==0) (.ret 2) (.br (wJ .u64 b (9218868437227405312:Int)==0) (.ret 3) (.ret 4))) (.br (wJ .u64 b (9218868437227405312:Int)==0) (.ret 3) (.ret 4))))
def aj9 (b:Int):=(asA b).val
def adN:aS Z:=E0 [] [] (a1 (bu (fO .u64))) (R1 cI) [] func340 1 asA
def ajG (v:af):Pg af:=.br (v.Kind==6) (.br (aj9 v.Bits==0) (.ret (af.mk v.Kind 9221120237041090560 v.Text v.List v.Pairs v.Slots v.bJ)) (.ret v.re)) (.ret v.re)
def nM (v:af):=(ajG v).val
def LX:aS Z:=E0 [adN] [] (a1 (aF aI)) (shr [.slot 0 true (nn 7)] (l1 aI)) [] func240 1 ajG
def arV:Pg (List (Str×gW)):=.ret (ug (ug (ug (ug (ug (ug (ug (ug (ug (ug (ug (ug (ug [] [100,101,112,114,101,99,97,116,101,100] (gW.mk 1 126)) [100,111,99] (gW.mk 7 126)) [97,108,105,97,115] (gW.mk 7 84)) [115,105,110,99,101] (gW.mk 4 84)) [117,110,116,105,108] (gW.mk 4 84)) [109,105,110] (gW.mk 3 4)) [109,97,120] (gW.mk 3 4)) [108,101,110,103,116,104] (gW.mk 4 4)) [115,101,99,114,101,116] (gW.mk 1 4)) [105,100,101,109,112,111,116,101,110,116] (gW.mk 1 64)) [116,105,109,101,111,117,116] (gW.mk 4 64)) [114,111,117,116,101] (gW.mk 7 64)) [111,119,110,101,114] (gW.mk 7 34))
def abx:List (Str×gW):=(arV).val
def adS:aS Z:=E0 [] [] a0 (R1 zG) [] func341 1 fun a=>arV
def aAR (name:Str):Pg Int:=.ret (Ap pM.z abx name).kind
def aDw (name:Str):=(aAR name).val
def av1:aS Z:=E0 [adS] [] (a1 (bu cStr)) (R1 cI) [] func396 1 aAR
def aun (n:Note):Pg Bool:=.lt (aDw n.Name) fun(v1:Int)=> .br (v1 !=0) (.ret (TE v1 n.Val.re)) (.ret false)
def ay8 (n:Note):=(aun n).val
def atU:aS Z:=E0 [SC,av1] [] (a1 (aF GG)) (R1 aH) [] func342 1 aun
def aGE (n:Note)(target:Int)(last:Str)(ok:Bool):Pg Int:=.br (!(Uy pM D.jO abx).has (Pv.str n.Name)) (.ret 8) (.cut (fun(y1:Bool)=> .br y1 (.ret 1) (.br (!ay8 (Note.mk n.Name n.Val.re)) (.ret 12) (.br ok (.br (Op.bytesLess n.Name last) (.ret 11) (.br ok (.br (n.Name==last) (.ret 9) (.ret 0)) (.ret 0))) (.br ok (.br (n.Name==last) (.ret 9) (.ret 0)) (.ret 0))))) (.br (decide (target < 1)) (rl true) (.br (decide (6 < target)) (rl true) (.ob (0<=target) (rl (wJ .i64 (zV .i64 (Ap pM.z abx n.Name).targets target) (1:Int)==0))))))
def aHQ (n:Note)(target:Int)(last:Str)(ok:Bool):=(aGE n target last ok).val
def aC4:aS Z:=E0 [adS,atU] [jS 100005 (bU (fun sl=>[s0 21]) (l1 aH))] (aj (aF GG) (aj (bu cI) (aj (bu cStr) (a1 (bu aH))))) (R1 cI) [] func242 1 (u4 aGE)
def apV (l:List Note)(target:Int):Pg Int:=.br (decide (8 < (↑l.length:Int))) (.ret 3) (aL l (.each false qi l Np (fun i1 a3 (y2:List UInt8)=> .ix i1 l.length (.lt (aHQ (Note.mk a3.Name a3.Val.re) target y2 (decide (0 < i1))) fun(v4:Int)=> .br (v4 !=0) (.ret (.inr v4)) (rl a3.Name))) (fun i1 (y2:List UInt8)=> .ret 0) []))
def akB (l:List Note)(target:Int):=(apV l target).val
def afv:aS Z:=E0 [aC4] [jS 5 (bU (fun sl=>[s0 14, s0 5]) (az cI (l1 cStr)))] (aj (bu lK) (a1 (bu cI))) (R1 cI) [] func161 1 (u2 apV)
theorem pR {A:Type}(p:A->Bool)(l:List A):decide (0<=h_ p l)=l.any p:=by
 rcases su p l with⟨h,k⟩ | ⟨u,a,v,rfl,ha,hu,h⟩
 ·rw[h,qy au];exact(Qcp.2 fun x hx=>by rw[k x hx];simp).symm
 ·rw[h,uu au];exact(Qct.2 ⟨a,by simp,ha⟩).symm
def isWord (s:Str):Pg Bool:=.cut (fun(y1:Bool)=> .br y1 (.ret true) (.br (s==[105,109,112,111,114,116]) (.br (s==[105,109,112,111,114,116]) (.ret true) (.ret false)) (.br (s==[115,112,97,99,101]) (.br (s==[115,112,97,99,101]) (.ret true) (.ret false)) (.br (s==[114,112,99]) (.br (s==[114,112,99]) (.ret true) (.ret false)) (.br (s==[115,116,114,101,97,109]) (.br (s==[115,116,114,101,97,109]) (.ret true) (.ret false)) (.br (s==[114,101,116,117,114,110,115]) (.br (s==[114,101,116,117,114,110,115]) (.ret true) (.ret false)) (.br (s==[111,112,101,110]) (.br (s==[111,112,101,110]) (.ret true) (.ret false)) (.br (s==[116,114,117,101]) (.br (s==[116,114,117,101]) (.ret true) (.ret false)) (.br (s==[102,97,108,115,101]) (.br (s==[102,97,108,115,101]) (.ret true) (.ret false)) (.br (s==[110,97,110]) (.br (s==[110,97,110]) (.ret true) (.ret false)) (.br (s==[105,110,102]) (.ret true) (.ret false)))))))))))) (.br (s==[109,101,115,115,97,103,101]) (rl (s==[109,101,115,115,97,103,101])) (.br (s==[101,110,117,109]) (rl (s==[101,110,117,109])) (.br (s==[115,101,114,118,105,99,101]) (rl (s==[115,101,114,118,105,99,101])) (.br (s==[117,110,105,111,110]) (rl (s==[117,110,105,111,110])) (.br (s==[109,97,112]) (rl (s==[109,97,112])) (.br (s==[108,105,115,116]) (rl (s==[108,105,115,116])) (.br (s==[114,101,113,117,105,114,101,100]) (rl (s==[114,101,113,117,105,114,101,100])) (.br (s==[111,112,116,105,111,110,97,108]) (rl (s==[111,112,116,105,111,110,97,108])) (.br (s==[112,108,97,105,110]) (rl (s==[112,108,97,105,110])) (.br (s==[100,101,102,97,117,108,116]) (rl (s==[100,101,102,97,117,108,116])) (rl (s==[114,101,115,101,114,118,101,100]))))))))))))
def GK (s:Str):=(isWord s).val
def Ad:aS Z:=E0 [] [jS 100013 (bU (fun sl=>[s0 4]) (l1 aH))] (a1 (bu cStr)) (R1 aH) [] func154 1 isWord
def afZ:aS Z:=EI [Ad] dh 154 func151 [] GK
def aee:aS Z:=EA [afZ,Ad] dh 154 func91 GK
def aAv (s:Str):Pg Bool:=.br (ab4 s) (.ret !GK s) (.ret false)
def aaZ (s:Str):=(aAv s).val
def RI:aS Z:=E0 [Q5,Ad] [] (a1 (bu cStr)) (R1 aH) [] func102 1 aAv
def aAJ (s:Str):Pg Bool:=.ob (List.length s<=4294967296) (.br (aiL s) (.ob ([46]=vO/\List.length s<=4294967296) (.ret !(lJ 46 s).any fun(x:Str)=>GK x)) (.ret false))
def ahl (s:Str):=(aAJ s).val
def abS:aS Z:=E1 [acK,Us,aee,Ad] [] (a1 (bu cStr)) (R1 aH) [] func97 1 aAJ fun a=>a.length<=4294967296
def ixS (l:List Str)(v:Str):Pg Int:=aL l (.each false wB l [] (fun i1 a3 (y2:Unit)=> .ix i1 l.length (.br (v==a3) (.ret (.inr i1)) (rl ()))) (fun i1 (y2:Unit)=> .ret (-1)) ())
theorem aDJ (l:List Str)(v:Str):Is (ixS l v):=
 iL fun _=>iF (.inr au) (fun i1 y2 _ _=>dR au au (dM iR iR)) (fun y2 _=>aU)
def aA4:aS Z:=E2 [] [jS 2 (bU (fun sl=>[s0 8]) (l1 cI))] (aj (bu dh) (a1 (bu cStr))) (R1 cI) [] func118 1 (u2 ixS) (fun a=>none) (fun a=>h_ (fun(x:Str)=>a.2==x) a.1) fun a h=>⟨aDJ a.1 a.2,(fun(l:List Str) (v:Str)=>pF (fun(x:Str)=>v==x) l 0) a.1 a.2⟩
def coS (l:List Str)(v:Str):Pg Bool:=.lt (h_ (fun(x:Str)=>v==x) l) fun(v1:Int)=> .ret (decide (0<=v1))
theorem aDN (l:List Str)(v:Str):Is (coS l v):=
 dF fun v1 hv1=>aU
def akS:aS Z:=E2 [aA4] [] (aj (bu dh) (a1 (bu cStr))) (R1 aH) [] func93 1 (u2 coS) (fun a=>none) (fun a=>a.1.any fun(x:Str)=>a.2==x) fun a h=>⟨aDN a.1 a.2,(fun(l:List Str) (v:Str)=>pR (fun(x:Str)=>v==x) l) a.1 a.2⟩
def aGY (x:bg)(name:Str):Pg Bool:=.ret (x.Name==name)
def auS (x:bg)(name:Str):=(aGY x name).val
def ava:aS Z:=wZ [] [] (aj (aF gQ) (a1 (iQ 0))) (b1 (aP cStr)) (R1 aH) [0] func153 1 (u11 aGY)
def arl:aS Z:=Ir [ava] sG 153 [0] (b1 (aP cStr)) func152 jb fun x b=>auS x b
def K_ (s:ay)(name:Str):Pg (bg×Bool):=.lt (h_ (fun(x:bg)=>auS x name) s.Messages) fun(v1:Int)=> .br (decide (v1 < 0)) (.ret (bg.mk [] [] [] [] [],false)) (.ix v1 s.Messages.length (.ret (s.Messages.getD v1.toNat jb,true)))
def mM (s:ay)(name:Str):=(K_ s name).val
theorem adq (s:ay)(name:Str):Is (K_ s name):=
 dF fun v1 hv1=>gu iR (fun _=>dR au (by have:=nK (fun(x:bg)=>auS x name) s.Messages;rw[hv1];exact this.1) (aU))
def xM:aS Z:=E0 [arl,ava] [] (aj (aF bI) (a1 (bu cStr))) (shr [.slot 0 true (nn 5), s0 1] (az gQ (l1 aH))) [] func94 2 (u2 K_) fun a=>adq a.1 a.2
def aGy (x:dV)(name:Str):Pg Bool:=.ret (x.Name==name)
def asI (x:dV)(name:Str):=(aGy x name).val
def aud:aS Z:=wZ [] [] (aj (aF jJ) (a1 (iQ 0))) (b1 (aP cStr)) (R1 aH) [0] func336 1 (u11 aGy)
def CG:aS Z:=Ir [aud] gZ 336 [0] (b1 (aP cStr)) func183 nO fun x b=>asI x b
def att (s:ay)(name:Str):Pg (dV×Bool):=.lt (h_ (fun(x:dV)=>asI x name) s.Enums) fun(v1:Int)=> .br (decide (v1 < 0)) (.ret (dV.mk [] false [] [] [],false)) (.ix v1 s.Enums.length (.ret (s.Enums.getD v1.toNat nO,true)))
def ara (s:ay)(name:Str):=(att s name).val
theorem atj (s:ay)(name:Str):Is (att s name):=
 dF fun v1 hv1=>gu iR (fun _=>dR au (by have:=nK (fun(x:dV)=>asI x name) s.Enums;rw[hv1];exact this.1) (aU))
def als:aS Z:=E0 [CG,aud] [] (aj (aF bI) (a1 (bu cStr))) (shr [.slot 0 true (nn 5), s0 1] (az jJ (l1 aH))) [] func235 2 (u2 att) fun a=>atj a.1 a.2
def aGw (x:nH)(n:Int):Pg Bool:=.br (decide (x.From<=n)) (.ret (decide (n<=x.To))) (.ret false)
def aqE (x:nH)(n:Int):=(aGw x n).val
def aiq:aS Z:=wZ [] [] (aj (aF RH) (a1 (iQ 0))) (b1 (aP cI)) (R1 aH) [0] func166 1 (u11 aGw)
def aCz:aS Z:=Ir [aiq] rq 166 [0] (b1 (aP cI)) func244 Fq fun x b=>aqE x b
def aDy:aS Z:=EAB [aiq,aCz] rq 166 [0] (b1 (aP cI)) func165 fun x b=>aqE x b
def X0 (l:List nH)(n:Int):Pg Bool:=.ret (l.any fun(x:nH)=>aqE x n)
def IM (l:List nH)(n:Int):=(X0 l n).val
def D7:aS Z:=E0 [aDy,aiq] [] (aj (bu rq) (a1 (bu cI))) (R1 aH) [] func105 1 (u2 X0)
def fname (f:aJ):Pg (List UInt8):=.ret f.Name
def avc (f:aJ):=(fname f).val
def abj:aS Z:=E0 [] [] (a1 (aF d_)) (R1 cStr) [] func156 1 fname
def aBn (f:Item):Pg (List UInt8):=.ret f.Name
def arj (f:Item):=(aBn f).val
def acA:aS Z:=E0 [] [] (a1 (aF lZ)) (R1 cStr) [] func104 1 aBn
end
end Go.Proofs.YtmadgoehmjmlmaaGreatDoor
