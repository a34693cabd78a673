/- Server: the data. -/
import Derived.Test.YtgdmjfkdbfafjaaGreatDoorProg
import Derived.Test.YtgdmjfkdbfafjaaGreatDoorEng15
import Derived.Test.YtgdmjfkdbfafjaaGreatDoorEng14
import Derived.Lib.Strings
import Derived.Lib.Slices
import Derived.Lib.Walk
import Derived.Lib.Bytealg
import Derived.Lib.Builder
namespace Go.Proofs.YtgdmjfkdbfafjaaGreatDoor
noncomputable section
open Go.RowKit Go.Vc
open Tryz
set_option linter.unusedVariables false
set_option linter.unusedSimpArgs false
set_option maxRecDepth 100000
set_option maxHeartbeats 4000000
structure Raw where
 Num:Int
 iy:Int
 Bits:Int
 Data:Str
deriving DecidableEq
mutual
inductive ah where
 | mk (Kind_:Int) (ay9:Int) (azh:Str) (azd:_root_.List ah) (azf:_root_.List Pair) (alL:_root_.List Slot) (aMq:_root_.List Raw)
inductive Slot where
 | mk (aN9:Int) (aNw:ah)
inductive Pair where
 | mk (aN8:ah) (aNw:ah)
end
def ah.Kind (x:ah):Int:=
 match x with
 | .mk a _ _ _ _ _ _=>a
def ah.Bits (x:ah):Int:=
 match x with
 | .mk _ a _ _ _ _ _=>a
def ah.Text (x:ah):Str:=
 match x with
 | .mk _ _ a _ _ _ _=>a
def ah.List (x:ah):_root_.List ah:=
 match x with
 | .mk _ _ _ a _ _ _=>a
def ah.Pairs (x:ah):_root_.List Pair:=
 match x with
 | .mk _ _ _ _ a _ _=>a
def ah.Slots (x:ah):_root_.List Slot:=
 match x with
 | .mk _ _ _ _ _ a _=>a
def ah.bM (x:ah):_root_.List Raw:=
 match x with
 | .mk _ _ _ _ _ _ a=>a
def ah.re (x:ah):ah:=ah.mk x.Kind x.Bits x.Text x.List x.Pairs x.Slots x.bM
@[simp] theorem ah.dR (x:ah):ah.re x=x:=by cases x;rfl
theorem ah.eta (x:ah):ah.mk x.Kind x.Bits x.Text x.List x.Pairs x.Slots x.bM=x:=by cases x;rfl
def Slot.Num (x:Slot):Int:=
 match x with
 | .mk a _=>a
def Slot.Val (x:Slot):ah:=
 match x with
 | .mk _ a=>a
def Slot.re (x:Slot):Slot:=Slot.mk x.Num x.Val
@[simp] theorem Slot.dR (x:Slot):Slot.re x=x:=by cases x;rfl
theorem Slot.eta (x:Slot):Slot.mk x.Num x.Val=x:=by cases x;rfl
def Pair.Key (x:Pair):ah:=
 match x with
 | .mk a _=>a
def Pair.Val (x:Pair):ah:=
 match x with
 | .mk _ a=>a
def Pair.re (x:Pair):Pair:=Pair.mk x.Key x.Val
@[simp] theorem Pair.dR (x:Pair):Pair.re x=x:=by cases x;rfl
theorem Pair.eta (x:Pair):Pair.mk x.Key x.Val=x:=by cases x;rfl
structure Note where
 Name:Str
 Val:ah
structure Item where
 Name:Str
 Num:Int
 Notes:_root_.List Note
structure mg where
 From:Int
 To:Int
deriving DecidableEq
structure dV where
 Name:Str
 Open:Bool
 Items:_root_.List Item
 Reserved:_root_.List mg
 Notes:_root_.List Note
structure fC where
 Name:Str
 In:Str
 Out:Str
 Shape:Int
 Notes:_root_.List Note
structure bQ where
 Name:Str
 Methods:_root_.List fC
 Notes:_root_.List Note
structure uS where
 Kind:Int
 Name:Str
deriving DecidableEq
structure aK where
 Num:Int
 Name:Str
 Card:Int
 Key:Int
 dH:uS
 Union:Str
 dD:Bool
 Default:ah
 Notes:_root_.List Note
structure aO where
 Name:Str
 Fields:_root_.List aK
 Reserved:_root_.List mg
 Gone:_root_.List Str
 Notes:_root_.List Note
structure ay where
 Messages:_root_.List aO
 Enums:_root_.List dV
 dQ:_root_.List bQ
structure dF where
 Method:Str
 Kind:Int
 Num:Int
 ay_:Int
deriving DecidableEq
structure jA where
 Kind:Int
 Key:Str
 Val:Str
 Num:Int
 mg:Int
deriving DecidableEq
structure iH where
 S:ay
 H:_root_.List dF
 L:_root_.List jA
 Most:Int
structure nV where
 Key:Str
 Val:Str
deriving DecidableEq
structure Status where
 Code:Int
 Text:Str
deriving DecidableEq
structure gG where
 qy:Int
 Id:Int
 Method:Str
 dL:_root_.List nV
 fK:Int
 In:_root_.List Str
 Ready:Int
 fQ:_root_.List Str
 Status:Status
 oC:Bool
deriving DecidableEq
structure Trace where
 Method:Str
 Times:_root_.List Int
deriving DecidableEq
structure Server where
 Name:Str
 ay:ay
 Handlers:_root_.List dF
 iO:_root_.List jA
 Traces:_root_.List Trace
 Tasks:_root_.List gG
 Most:Int
 nX:Bool
structure Head where
 bQ:Str
 Method:Str
 fK:Int
 dL:_root_.List nV
deriving DecidableEq
structure fA where
 Kind:Int
 Now:Int
 qy:Int
 Id:Int
 H:Head
 Shape:Int
 Data:Str
deriving DecidableEq
structure Op where
 Num:Int
 Name:Str
 Alias:Str
 Card:Int
 Key:Int
 Kind:Int
 Target:Int
 Union:Int
deriving DecidableEq
structure bK where
 Name:Str
 Ops:_root_.List Op
 YW:Int
deriving DecidableEq
structure dO where
 bD:_root_.List bK
 Enums:_root_.List dV
structure dZ where
 s:ay
 h:dF
 m:fC
 Ey:_root_.List ah
 one:Bool
structure rO where
 Bytes:Int
 Depth:Int
 Nodes:Int
 Text:Int
deriving DecidableEq
structure eY where
 Def:Str
 Num:Int
 Err:Int
deriving DecidableEq
structure aC where
 rP:Str
 l:_root_.List eY
deriving DecidableEq
structure ax where
 rP:Str
 num:Int
 out:_root_.List eY
deriving DecidableEq
structure aj where
 p:dO
structure jC where
 e:Int
 code:Int
deriving DecidableEq
structure aS where
 Data:Str
 At:Int
 End:Int
 Depth:Int
 Nodes:Int
 Text:Int
deriving DecidableEq
structure ae where
 p:dO
 c:aS
structure aF where
 p:dO
structure iT where
 kind:Int
 targets:Int
deriving DecidableEq
inductive D where
 | aO (l:List aO)
 | dV (l:List dV)
 | bQ (l:List bQ)
 | dF (l:List dF)
 | jA (l:List jA)
 | fA (l:List fA)
 | Trace (l:List Trace)
 | gG (l:List gG)
 | nV (l:List nV)
 | Note (l:List Note)
 | ah (l:List ah)
 | Pair (l:List Pair)
 | Slot (l:List Slot)
 | Raw (l:List Raw)
 | aK (l:List aK)
 | mg (l:List mg)
 | str (l:List Str)
 | fC (l:List fC)
 | eY (l:List eY)
 | bK (l:List bK)
 | bool (l:List Bool)
 | Item (l:List Item)
 | aDQ (l:List (List Str))
 | Op (l:List Op)
 | jC (l:List jC)
 | i64 (l:List Int)
 | u8 (l:List Int)
 | aiv (l:List (List ah))
 | aiw (l:List (List Pair))
 | azc (l:List (List Raw))
 | ao5 (l:List Unit)
 | oV (l:List (Str×Bool))
 | kT (l:List (Str×iT))
def og (d:D):Option (List (Str×Bool)):=
 match d with
 | .oV l=>some l
 | _=>none
def mr:jQ D (List (Str×Bool)):=atp D.oV og
def tN (d:D):Option (List (Str×iT)):=
 match d with
 | .kT l=>some l
 | _=>none
def zY:jQ D (List (Str×iT)):=atp D.kT tN
def P9 (d:D):Option (List Unit):=
 match d with
 | .ao5 l=>some l
 | _=>none
def zG (d:D):Option (List aO):=
 match d with
 | .aO l=>some l
 | _=>none
def ug:jQ D (List aO):=rU D.aO zG []
def NR (d:D):Option (List dV):=
 match d with
 | .dV l=>some l
 | _=>none
def iK:jQ D (List dV):=rU D.dV NR []
def Aj (d:D):Option (List bQ):=
 match d with
 | .bQ l=>some l
 | _=>none
def zW:jQ D (List bQ):=rU D.bQ Aj []
def Ah (d:D):Option (List dF):=
 match d with
 | .dF l=>some l
 | _=>none
def wJ:jQ D (List dF):=rU D.dF Ah []
def Gn (d:D):Option (List jA):=
 match d with
 | .jA l=>some l
 | _=>none
def rC:jQ D (List jA):=rU D.jA Gn []
def vZ (d:D):Option (List fA):=
 match d with
 | .fA l=>some l
 | _=>none
def rX:jQ D (List fA):=rU D.fA vZ []
def xN (d:D):Option (List Trace):=
 match d with
 | .Trace l=>some l
 | _=>none
def jY:jQ D (List Trace):=rU D.Trace xN []
def L6 (d:D):Option (List gG):=
 match d with
 | .gG l=>some l
 | _=>none
def wQ:jQ D (List gG):=rU D.gG L6 []
def N7 (d:D):Option (List nV):=
 match d with
 | .nV l=>some l
 | _=>none
def uw:jQ D (List nV):=rU D.nV N7 []
def KO (d:D):Option (List Note):=
 match d with
 | .Note l=>some l
 | _=>none
def lS:jQ D (List Note):=rU D.Note KO []
def KU (d:D):Option (List ah):=
 match d with
 | .ah l=>some l
 | _=>none
def jO:jQ D (List ah):=rU D.ah KU []
def qc (d:D):Option (List Pair):=
 match d with
 | .Pair l=>some l
 | _=>none
def fB:jQ D (List Pair):=rU D.Pair qc []
def kw (d:D):Option (List Slot):=
 match d with
 | .Slot l=>some l
 | _=>none
def bT:jQ D (List Slot):=rU D.Slot kw []
def mF (d:D):Option (List Raw):=
 match d with
 | .Raw l=>some l
 | _=>none
def bU:jQ D (List Raw):=rU D.Raw mF []
def vK (d:D):Option (List aK):=
 match d with
 | .aK l=>some l
 | _=>none
def iw:jQ D (List aK):=rU D.aK vK []
def Ls (d:D):Option (List mg):=
 match d with
 | .mg l=>some l
 | _=>none
def p_:jQ D (List mg):=rU D.mg Ls []
def TV (d:D):Option (List Str):=
 match d with
 | .str l=>some l
 | _=>none
def bV:jQ D (List Str):=rU D.str TV []
def zJ (d:D):Option (List fC):=
 match d with
 | .fC l=>some l
 | _=>none
def zt:jQ D (List fC):=rU D.fC zJ []
def zQ (d:D):Option (List eY):=
 match d with
 | .eY l=>some l
 | _=>none
def lL:jQ D (List eY):=rU D.eY zQ []
def Nw (d:D):Option (List bK):=
 match d with
 | .bK l=>some l
 | _=>none
def jK:jQ D (List bK):=rU D.bK Nw []
def qg (d:D):Option (List Bool):=
 match d with
 | .bool l=>some l
 | _=>none
def qQ:jQ D (List Bool):=rU D.bool qg []
def ND (d:D):Option (List Item):=
 match d with
 | .Item l=>some l
 | _=>none
def iQ:jQ D (List Item):=rU D.Item ND []
def Vb (d:D):Option (List (List Str)):=
 match d with
 | .aDQ l=>some l
 | _=>none
def adB (d:D):Option (List Op):=
 match d with
 | .Op l=>some l
 | _=>none
def oN:jQ D (List Op):=rU D.Op adB []
def EJ (d:D):Option (List jC):=
 match d with
 | .jC l=>some l
 | _=>none
def G_ (d:D):Option (List Int):=
 match d with
 | .i64 l=>some l
 | _=>none
def Dq:jQ D (List Int):=rU D.i64 G_ []
def adu (d:D):Option (List Int):=
 match d with
 | .u8 l=>some l
 | _=>none
def PM:jQ D (List Int):=rU D.u8 adu []
def Hz (d:D):Option (List (List ah)):=
 match d with
 | .aiv l=>some l
 | _=>none
def aaO:jQ D (List (List ah)):=rU D.aiv Hz []
def Ht (d:D):Option (List (List Pair)):=
 match d with
 | .aiw l=>some l
 | _=>none
def Z9:jQ D (List (List Pair)):=rU D.aiw Ht []
def KR (d:D):Option (List (List Raw)):=
 match d with
 | .azc l=>some l
 | _=>none
def ahq:jQ D (List (List Raw)):=rU D.azc KR []
def pF:jQ D Raw:=oh (di (h_ .i64) (di (h_ .i64) (di (h_ .u64) cStr))) (fun p=>Raw.mk (p.1) (p.2.1) (p.2.2.1) (p.2.2.2)) (fun b=>(b.Num,b.iy,b.Bits,b.Data))
def aP:jQ D ah:=oh (di (h_ .i64) (di (h_ .u64) (di cStr (di jO (di fB (di bT bU)))))) (fun p=>ah.mk (p.1) (p.2.1) (p.2.2.1) (p.2.2.2.1) (p.2.2.2.2.1) (p.2.2.2.2.2.1) (p.2.2.2.2.2.2)) (fun b=>(b.Kind,b.Bits,b.Text,b.List,b.Pairs,b.Slots,b.bM))
def nR:jQ D Slot:=oh (di (h_ .i64) aP) (fun p=>Slot.mk (p.1) (p.2)) (fun b=>(b.Num,b.Val))
def wB:jQ D Pair:=oh (di aP aP) (fun p=>Pair.mk (p.1) (p.2)) (fun b=>(b.Key,b.Val))
def CZ:jQ D Note:=oh (di cStr aP) (fun p=>Note.mk (p.1) (p.2)) (fun b=>(b.Name,b.Val))
def nz:jQ D Item:=oh (di cStr (di (h_ .i64) lS)) (fun p=>Item.mk (p.1) (p.2.1) (p.2.2)) (fun b=>(b.Name,b.Num,b.Notes))
def Tm:jQ D mg:=oh (di (h_ .i64) (h_ .i64)) (fun p=>mg.mk (p.1) (p.2)) (fun b=>(b.From,b.To))
def kC:jQ D dV:=oh (di cStr (di aG (di iQ (di p_ lS)))) (fun p=>dV.mk (p.1) (p.2.1) (p.2.2.1) (p.2.2.2.1) (p.2.2.2.2)) (fun b=>(b.Name,b.Open,b.Items,b.Reserved,b.Notes))
def rq:jQ D fC:=oh (di cStr (di cStr (di cStr (di (h_ .i64) lS)))) (fun p=>fC.mk (p.1) (p.2.1) (p.2.2.1) (p.2.2.2.1) (p.2.2.2.2)) (fun b=>(b.Name,b.In,b.Out,b.Shape,b.Notes))
def qU:jQ D bQ:=oh (di cStr (di zt lS)) (fun p=>bQ.mk (p.1) (p.2.1) (p.2.2)) (fun b=>(b.Name,b.Methods,b.Notes))
def wF:jQ D uS:=oh (di (h_ .i64) cStr) (fun p=>uS.mk (p.1) (p.2)) (fun b=>(b.Kind,b.Name))
def eG:jQ D aK:=oh (di (h_ .i64) (di cStr (di (h_ .i64) (di (h_ .i64) (di wF (di cStr (di aG (di aP lS)))))))) (fun p=>aK.mk (p.1) (p.2.1) (p.2.2.1) (p.2.2.2.1) (p.2.2.2.2.1) (p.2.2.2.2.2.1) (p.2.2.2.2.2.2.1) (p.2.2.2.2.2.2.2.1) (p.2.2.2.2.2.2.2.2)) (fun b=>(b.Num,b.Name,b.Card,b.Key,b.dH,b.Union,b.dD,b.Default,b.Notes))
def gu:jQ D aO:=oh (di cStr (di iw (di p_ (di bV lS)))) (fun p=>aO.mk (p.1) (p.2.1) (p.2.2.1) (p.2.2.2.1) (p.2.2.2.2)) (fun b=>(b.Name,b.Fields,b.Reserved,b.Gone,b.Notes))
def bH:jQ D ay:=oh (di ug (di iK zW)) (fun p=>ay.mk (p.1) (p.2.1) (p.2.2)) (fun b=>(b.Messages,b.Enums,b.dQ))
def jR:jQ D dF:=oh (di cStr (di (h_ .i64) (di (h_ .i64) (h_ .i64)))) (fun p=>dF.mk (p.1) (p.2.1) (p.2.2.1) (p.2.2.2)) (fun b=>(b.Method,b.Kind,b.Num,b.ay_))
def yL:jQ D jA:=oh (di (h_ .i64) (di cStr (di cStr (di (h_ .i64) (h_ .i64))))) (fun p=>jA.mk (p.1) (p.2.1) (p.2.2.1) (p.2.2.2.1) (p.2.2.2.2)) (fun b=>(b.Kind,b.Key,b.Val,b.Num,b.mg))
def qV:jQ D iH:=oh (di bH (di wJ (di rC (h_ .i64)))) (fun p=>iH.mk (p.1) (p.2.1) (p.2.2.1) (p.2.2.2)) (fun b=>(b.S,b.H,b.L,b.Most))
def MZ:jQ D nV:=oh (di cStr cStr) (fun p=>nV.mk (p.1) (p.2)) (fun b=>(b.Key,b.Val))
def jZ:jQ D Status:=oh (di (h_ .i64) cStr) (fun p=>Status.mk (p.1) (p.2)) (fun b=>(b.Code,b.Text))
def Gm:jQ D gG:=oh (di (h_ .i64) (di (h_ .i64) (di cStr (di uw (di (h_ .i64) (di bV (di (h_ .i64) (di bV (di jZ aG))))))))) (fun p=>gG.mk (p.1) (p.2.1) (p.2.2.1) (p.2.2.2.1) (p.2.2.2.2.1) (p.2.2.2.2.2.1) (p.2.2.2.2.2.2.1) (p.2.2.2.2.2.2.2.1) (p.2.2.2.2.2.2.2.2.1) (p.2.2.2.2.2.2.2.2.2)) (fun b=>(b.qy,b.Id,b.Method,b.dL,b.fK,b.In,b.Ready,b.fQ,b.Status,b.oC))
def FT:jQ D Trace:=oh (di cStr Dq) (fun p=>Trace.mk (p.1) (p.2)) (fun b=>(b.Method,b.Times))
def iC:jQ D Server:=oh (di cStr (di bH (di wJ (di rC (di jY (di wQ (di (h_ .i64) aG))))))) (fun p=>Server.mk (p.1) (p.2.1) (p.2.2.1) (p.2.2.2.1) (p.2.2.2.2.1) (p.2.2.2.2.2.1) (p.2.2.2.2.2.2.1) (p.2.2.2.2.2.2.2)) (fun b=>(b.Name,b.ay,b.Handlers,b.iO,b.Traces,b.Tasks,b.Most,b.nX))
def rE:jQ D Head:=oh (di cStr (di cStr (di (h_ .i64) uw))) (fun p=>Head.mk (p.1) (p.2.1) (p.2.2.1) (p.2.2.2)) (fun b=>(b.bQ,b.Method,b.fK,b.dL))
def xB:jQ D fA:=oh (di (h_ .u8) (di (h_ .i64) (di (h_ .i64) (di (h_ .i64) (di rE (di (h_ .i64) cStr)))))) (fun p=>fA.mk (p.1) (p.2.1) (p.2.2.1) (p.2.2.2.1) (p.2.2.2.2.1) (p.2.2.2.2.2.1) (p.2.2.2.2.2.2)) (fun b=>(b.Kind,b.Now,b.qy,b.Id,b.H,b.Shape,b.Data))
def jF:jQ D Op:=oh (di (h_ .i64) (di cStr (di cStr (di (h_ .i64) (di (h_ .i64) (di (h_ .i64) (di (h_ .i64) (h_ .i64)))))))) (fun p=>Op.mk (p.1) (p.2.1) (p.2.2.1) (p.2.2.2.1) (p.2.2.2.2.1) (p.2.2.2.2.2.1) (p.2.2.2.2.2.2.1) (p.2.2.2.2.2.2.2)) (fun b=>(b.Num,b.Name,b.Alias,b.Card,b.Key,b.Kind,b.Target,b.Union))
def jg:jQ D bK:=oh (di cStr (di oN (h_ .i64))) (fun p=>bK.mk (p.1) (p.2.1) (p.2.2)) (fun b=>(b.Name,b.Ops,b.YW))
def eX:jQ D dO:=oh (di jK iK) (fun p=>dO.mk (p.1) (p.2)) (fun b=>(b.bD,b.Enums))
def fH:jQ D dZ:=oh (di bH (di jR (di rq (di jO aG)))) (fun p=>dZ.mk (p.1) (p.2.1) (p.2.2.1) (p.2.2.2.1) (p.2.2.2.2)) (fun b=>(b.s,b.h,b.m,b.Ey,b.one))
def B_:jQ D rO:=oh (di (h_ .i64) (di (h_ .i64) (di (h_ .i64) (h_ .i64)))) (fun p=>rO.mk (p.1) (p.2.1) (p.2.2.1) (p.2.2.2)) (fun b=>(b.Bytes,b.Depth,b.Nodes,b.Text))
def Xv:jQ D eY:=oh (di cStr (di (h_ .i64) (h_ .i64))) (fun p=>eY.mk (p.1) (p.2.1) (p.2.2)) (fun b=>(b.Def,b.Num,b.Err))
def bJ:jQ D aC:=oh (di cStr lL) (fun p=>aC.mk (p.1) (p.2)) (fun b=>(b.rP,b.l))
def aX:jQ D ax:=oh (di cStr (di (h_ .i64) lL)) (fun p=>ax.mk (p.1) (p.2.1) (p.2.2)) (fun b=>(b.rP,b.num,b.out))
def gK:jQ D aj:=oh eX (fun p=>aj.mk p) (fun b=>(b.p))
def YR:jQ D jC:=oh (di (h_ .i64) (h_ .i64)) (fun p=>jC.mk (p.1) (p.2)) (fun b=>(b.e,b.code))
def eF:jQ D aS:=oh (di cStr (di (h_ .i64) (di (h_ .i64) (di (h_ .i64) (di (h_ .i64) (h_ .i64)))))) (fun p=>aS.mk (p.1) (p.2.1) (p.2.2.1) (p.2.2.2.1) (p.2.2.2.2.1) (p.2.2.2.2.2)) (fun b=>(b.Data,b.At,b.End,b.Depth,b.Nodes,b.Text))
def bn:jQ D ae:=oh (di eX eF) (fun p=>ae.mk (p.1) (p.2)) (fun b=>(b.p,b.c))
def jH:jQ D aF:=oh eX (fun p=>aF.mk p) (fun b=>(b.p))
def qf:Raw:=Raw.mk 0 0 0 []
instance:Inhabited Raw:=⟨qf⟩
def gQ:ah:=ah.mk 0 0 [] [] [] [] []
instance:Inhabited ah:=⟨gQ⟩
def cO:Slot:=Slot.mk 0 gQ
def iE:Pair:=Pair.mk gQ gQ
def sW:Note:=Note.mk [] gQ
def jI:Item:=Item.mk [] 0 []
def tJ:mg:=mg.mk 0 0
def kE:dV:=dV.mk [] false [] [] []
def fG:fC:=fC.mk [] [] [] 0 []
instance:Inhabited fC:=⟨fG⟩
def lu:bQ:=bQ.mk [] [] []
def aB6:uS:=uS.mk 0 []
def aH:aK:=aK.mk 0 [] 0 0 aB6 [] false gQ []
def dP:aO:=aO.mk [] [] [] [] []
def lm:dF:=dF.mk [] 0 0 0
def uQ:jA:=jA.mk 0 [] [] 0 0
def Aq:nV:=nV.mk [] []
def asM:Status:=Status.mk 0 []
def bF:gG:=gG.mk 0 0 [] [] 0 [] 0 [] asM false
def kY:Trace:=Trace.mk [] []
def aFK:Head:=Head.mk [] [] 0 []
def kH:fA:=fA.mk 0 0 0 0 aFK 0 []
def BJ:Op:=Op.mk 0 [] [] 0 0 0 0 0
def dC:bK:=bK.mk [] [] 0
def aII:dO:=dO.mk [] []
def arl:eY:=eY.mk [] 0 0
def gJ:jC:=jC.mk 0 0
def avl:aS:=aS.mk [] 0 0 0 0 0
def SS:ae:=ae.mk aII avl
instance:Inhabited ae:=⟨SS⟩
def agC:iT:=iT.mk 0 0
def VZ:El D:=⟨aO,gu,dP,D.aO,zG⟩
def amN:El D:=⟨dV,kC,kE,D.dV,NR⟩
def VX:El D:=⟨bQ,qU,lu,D.bQ,Aj⟩
def WP:El D:=⟨dF,jR,lm,D.dF,Ah⟩
def af2:El D:=⟨jA,yL,uQ,D.jA,Gn⟩
def Lc:El D:=⟨fA,xB,kH,D.fA,vZ⟩
def afr:El D:=⟨Trace,FT,kY,D.Trace,xN⟩
def amk:El D:=⟨gG,Gm,bF,D.gG,L6⟩
def amS:El D:=⟨nV,MZ,Aq,D.nV,N7⟩
def amz:El D:=⟨Note,CZ,sW,D.Note,KO⟩
def amB:El D:=⟨ah,aP,gQ,D.ah,KU⟩
def aoG:El D:=⟨Pair,wB,iE,D.Pair,qc⟩
def ami:El D:=⟨Slot,nR,cO,D.Slot,kw⟩
def ass:El D:=⟨Raw,pF,qf,D.Raw,mF⟩
def aaz:El D:=⟨aK,eG,aH,D.aK,vK⟩
def aoI:El D:=⟨mg,Tm,tJ,D.mg,Ls⟩
def axj:El D:=⟨Str,cStr,[],D.str,TV⟩
def Vs:El D:=⟨fC,rq,fG,D.fC,zJ⟩
def Yo:El D:=⟨eY,Xv,arl,D.eY,zQ⟩
def amQ:El D:=⟨bK,jg,dC,D.bK,Nw⟩
def ani:El D:=⟨Bool,aG,false,D.bool,qg⟩
def anu:El D:=⟨Item,nz,jI,D.Item,ND⟩
def am5:El D:=⟨List Str,bV,[],D.aDQ,Vb⟩
def aEt:El D:=⟨Op,jF,BJ,D.Op,adB⟩
def Yq:El D:=⟨jC,YR,gJ,D.jC,EJ⟩
def asx:El D:=⟨Int,(h_ .i64),0,D.i64,G_⟩
def aE_:El D:=⟨Int,(h_ .u8),0,D.u8,adu⟩
def ahP:El D:=⟨List ah,jO,[],D.aiv,Hz⟩
def ahm:El D:=⟨List Pair,fB,[],D.aiw,Ht⟩
def anI:El D:=⟨List Raw,bU,[],D.azc,KR⟩
def U_:El D:=⟨Unit,am3,(),D.ao5,P9⟩
def view (d:D):Vw D:=
 match d with
 | .aO l=>⟨VZ,l⟩
 | .dV l=>⟨amN,l⟩
 | .bQ l=>⟨VX,l⟩
 | .dF l=>⟨WP,l⟩
 | .jA l=>⟨af2,l⟩
 | .fA l=>⟨Lc,l⟩
 | .Trace l=>⟨afr,l⟩
 | .gG l=>⟨amk,l⟩
 | .nV l=>⟨amS,l⟩
 | .Note l=>⟨amz,l⟩
 | .ah l=>⟨amB,l⟩
 | .Pair l=>⟨aoG,l⟩
 | .Slot l=>⟨ami,l⟩
 | .Raw l=>⟨ass,l⟩
 | .aK l=>⟨aaz,l⟩
 | .mg l=>⟨aoI,l⟩
 | .str l=>⟨axj,l⟩
 | .fC l=>⟨Vs,l⟩
 | .eY l=>⟨Yo,l⟩
 | .bK l=>⟨amQ,l⟩
 | .bool l=>⟨ani,l⟩
 | .Item l=>⟨anu,l⟩
 | .aDQ l=>⟨am5,l⟩
 | .Op l=>⟨aEt,l⟩
 | .jC l=>⟨Yq,l⟩
 | .i64 l=>⟨asx,l⟩
 | .u8 l=>⟨aE_,l⟩
 | .aiv l=>⟨ahP,l⟩
 | .aiw l=>⟨ahm,l⟩
 | .azc l=>⟨anI,l⟩
 | .ao5 l=>⟨U_,l⟩
 | .oV _=>⟨U_,[]⟩
 | .kT _=>⟨U_,[]⟩
def Ee:=(kvS false pvB false)
def kU:=(kvS true (anW (pvP (pvI .i64) (pvI .i64)) (fun p=>iT.mk (p.1) (p.2)) (fun b=>(b.kind,b.targets))) agC)
def CP (d:D):Option (Mp D):=
 match d with
 | .oV l=>some (SC Ee D.oV l)
 | .kT l=>some (SC kU D.kT l)
 | _=>none
def IK:TypeId->Option D:=lk [(170,D.oV []),(446,D.kT [])]
def axu:List (Nat×El D):=[(85,VZ),(161,amN),(88,VX),(61,WP),(114,af2),(50,Lc),(222,afr),(102,amk),(106,amS),(271,amz),(78,amB),(355,aoG),(288,ami),(295,ass),(80,aaz),(267,aoI),(9,axj),(65,Vs),(233,Yo),(198,amQ),(4,ani),(243,anu),(83,am5),(263,aEt),(212,Yq),(3,asx),(5,aE_),(73,ahP),(74,ahm),(76,anI)]
def qi:TypeId->Option (El D):=lk axu
def rowOf (e:TypeId)(s:List UInt8):Option D:=if Nat.beq e 5 then some (D.u8 (Ya s))else none
def al9:List (Nat×D):=[(0,D.jC [⟨0,0⟩,⟨23,3⟩,⟨21,6⟩,⟨22,7⟩,⟨3,7⟩,⟨17,7⟩,⟨10,4⟩,⟨9,5⟩,⟨20,8⟩,⟨24,9⟩,⟨25,13⟩,⟨11,11⟩,⟨19,11⟩])]
def S:Sh D:=vH view qi (lk al9) rowOf CP IK
theorem BM (d:D)(a:List (Str×Bool))(h:og d=some a):d=D.oV a:=by
 cases d<;>simp[og]at h
 subst h;rfl
instance ase:dG S mr:=aoM BM
instance aDT:uV S (arH D.oV og):=aDt BM
theorem Eu (d:D)(a:List (Str×iT))(h:tN d=some a):d=D.kT a:=by
 cases d<;>simp[tN]at h
 subst h;rfl
instance aiA:dG S zY:=aoM Eu
theorem DF (d:D)(a:List Unit)(h:P9 d=some a):d=D.ao5 a:=by
 cases d<;>simp[P9]at h
 subst h;rfl
theorem EF (d:D)(a:List aO)(h:zG d=some a):d=D.aO a:=by
 cases d<;>simp[zG]at h
 subst h;rfl
instance azn:dG S ug:=jB EF rfl
theorem Rw (d:D)(a:List dV)(h:NR d=some a):d=D.dV a:=by
 cases d<;>simp[NR]at h
 subst h;rfl
instance aFj:dG S iK:=jB Rw rfl
theorem FY (d:D)(a:List bQ)(h:Aj d=some a):d=D.bQ a:=by
 cases d<;>simp[Aj]at h
 subst h;rfl
instance azp:dG S zW:=jB FY rfl
theorem E_ (d:D)(a:List dF)(h:Ah d=some a):d=D.dF a:=by
 cases d<;>simp[Ah]at h
 subst h;rfl
instance azm:dG S wJ:=jB E_ rfl
theorem KC (d:D)(a:List jA)(h:Gn d=some a):d=D.jA a:=by
 cases d<;>simp[Gn]at h
 subst h;rfl
instance aDV:dG S rC:=jB KC rfl
theorem Bj (d:D)(a:List fA)(h:vZ d=some a):d=D.fA a:=by
 cases d<;>simp[vZ]at h
 subst h;rfl
instance Qo:dG S rX:=jB Bj rfl
theorem DK (d:D)(a:List Trace)(h:xN d=some a):d=D.Trace a:=by
 cases d<;>simp[xN]at h
 subst h;rfl
instance aDY:dG S jY:=jB DK rfl
instance aMr {e:TypeId}:uV S (lh e D.Trace xN):=DZ DK
theorem Rh (d:D)(a:List gG)(h:L6 d=some a):d=D.gG a:=by
 cases d<;>simp[L6]at h
 subst h;rfl
instance aFq:dG S wQ:=jB Rh rfl
theorem RI (d:D)(a:List nV)(h:N7 d=some a):d=D.nV a:=by
 cases d<;>simp[N7]at h
 subst h;rfl
instance aFm:dG S uw:=jB RI rfl
theorem QM (d:D)(a:List Note)(h:KO d=some a):d=D.Note a:=by
 cases d<;>simp[KO]at h
 subst h;rfl
instance Sm:dG S lS:=jB QM rfl
theorem QK (d:D)(a:List ah)(h:KU d=some a):d=D.ah a:=by
 cases d<;>simp[KU]at h
 subst h;rfl
instance aiy:dG S jO:=jB QK rfl
theorem ER (d:D)(a:List Pair)(h:qc d=some a):d=D.Pair a:=by
 cases d<;>simp[qc]at h
 subst h;rfl
instance aiz:dG S fB:=jB ER rfl
instance aNc {e:TypeId}:uV S (lh e D.Pair qc):=DZ ER
theorem ET (d:D)(a:List Slot)(h:kw d=some a):d=D.Slot a:=by
 cases d<;>simp[kw]at h
 subst h;rfl
instance aFp:dG S bT:=jB ET rfl
instance aNd {e:TypeId}:uV S (lh e D.Slot kw):=DZ ET
theorem Jj (d:D)(a:List Raw)(h:mF d=some a):d=D.Raw a:=by
 cases d<;>simp[mF]at h
 subst h;rfl
instance alN:dG S bU:=jB Jj rfl
instance aNy {e:TypeId}:uV S (lh e D.Raw mF):=DZ Jj
theorem Au (d:D)(a:List aK)(h:vK d=some a):d=D.aK a:=by
 cases d<;>simp[vK]at h
 subst h;rfl
instance azH:dG S iw:=jB Au rfl
instance aJA {e:TypeId}:uV S (lh e D.aK vK):=DZ Au
theorem Q4 (d:D)(a:List mg)(h:Ls d=some a):d=D.mg a:=by
 cases d<;>simp[Ls]at h
 subst h;rfl
instance Sr:dG S p_:=jB Q4 rfl
theorem V5 (d:D)(a:List Str)(h:TV d=some a):d=D.str a:=by
 cases d<;>simp[TV]at h
 subst h;rfl
instance alO:dG S bV:=jB V5 rfl
theorem EZ (d:D)(a:List fC)(h:zJ d=some a):d=D.fC a:=by
 cases d<;>simp[zJ]at h
 subst h;rfl
instance azl:dG S zt:=jB EZ rfl
theorem FI (d:D)(a:List eY)(h:zQ d=some a):d=D.eY a:=by
 cases d<;>simp[zQ]at h
 subst h;rfl
instance azo:dG S lL:=jB FI rfl
theorem Rf (d:D)(a:List bK)(h:Nw d=some a):d=D.bK a:=by
 cases d<;>simp[Nw]at h
 subst h;rfl
instance aFo:dG S jK:=jB Rf rfl
theorem EQ (d:D)(a:List Bool)(h:qg d=some a):d=D.bool a:=by
 cases d<;>simp[qg]at h
 subst h;rfl
instance aFr:dG S qQ:=jB EQ rfl
instance aNe {e:TypeId}:uV S (lh e D.bool qg):=DZ EQ
theorem Q_ (d:D)(a:List Item)(h:ND d=some a):d=D.Item a:=by
 cases d<;>simp[ND]at h
 subst h;rfl
instance aFk:dG S iQ:=jB Q_ rfl
theorem agT (d:D)(a:List (List Str))(h:Vb d=some a):d=D.aDQ a:=by
 cases d<;>simp[Vb]at h
 subst h;rfl
theorem aan (d:D)(a:List Op)(h:adB d=some a):d=D.Op a:=by
 cases d<;>simp[adB]at h
 subst h;rfl
instance aJB:dG S oN:=jB aan rfl
theorem Yn (d:D)(a:List jC)(h:EJ d=some a):d=D.jC a:=by
 cases d<;>simp[EJ]at h
 subst h;rfl
theorem JG (d:D)(a:List Int)(h:G_ d=some a):d=D.i64 a:=by
 cases d<;>simp[G_]at h
 subst h;rfl
instance aJb:dG S Dq:=jB JG rfl
instance aNz {e:TypeId}:uV S (lh e D.i64 G_):=DZ JG
theorem aaC (d:D)(a:List Int)(h:adu d=some a):d=D.u8 a:=by
 cases d<;>simp[adu]at h
 subst h;rfl
instance aJC:dG S PM:=jB aaC rfl
theorem NL (d:D)(a:List (List ah))(h:Hz d=some a):d=D.aiv a:=by
 cases d<;>simp[Hz]at h
 subst h;rfl
instance aDW:dG S aaO:=jB NL rfl
theorem KQ (d:D)(a:List (List Pair))(h:Ht d=some a):d=D.aiw a:=by
 cases d<;>simp[Ht]at h
 subst h;rfl
instance aDX:dG S Z9:=jB KQ rfl
theorem RN (d:D)(a:List (List Raw))(h:KR d=some a):d=D.azc a:=by
 cases d<;>simp[KR]at h
 subst h;rfl
instance aFl:dG S ahq:=jB RN rfl
instance ab4:dG S pF:=gY inferInstance fun _=>rfl
instance YX:dG S aP:=gY inferInstance fun _=>rfl
instance Y3:dG S nR:=gY inferInstance fun _=>rfl
instance Y2:dG S wB:=gY inferInstance fun _=>rfl
instance Y1:dG S CZ:=gY inferInstance fun _=>rfl
instance YZ:dG S nz:=gY inferInstance fun _=>rfl
instance Y4:dG S Tm:=gY inferInstance fun _=>rfl
instance YY:dG S kC:=gY inferInstance fun _=>rfl
instance I9:dG S rq:=gY inferInstance fun _=>rfl
instance Ja:dG S qU:=gY inferInstance fun _=>rfl
instance aFi:dG S wF:=gY inferInstance fun _=>rfl
instance Oo:dG S eG:=gY inferInstance fun _=>rfl
instance AX:dG S gu:=gY inferInstance fun _=>rfl
instance ae_:dG S bH:=gY inferInstance fun _=>rfl
instance I_:dG S jR:=gY inferInstance fun _=>rfl
instance Sj:dG S yL:=gY inferInstance fun _=>rfl
instance aoY:dG S qV:=gY inferInstance fun _=>rfl
instance Y0:dG S MZ:=gY inferInstance fun _=>rfl
instance aD1:dG S jZ:=gY inferInstance fun _=>rfl
instance alQ:dG S Gm:=gY inferInstance fun _=>rfl
instance aiB:dG S FT:=gY inferInstance fun _=>rfl
instance aD0:dG S iC:=gY inferInstance fun _=>rfl
instance aJa:dG S rE:=gY inferInstance fun _=>rfl
instance Es:dG S xB:=gY inferInstance fun _=>rfl
instance azq:dG S jF:=gY inferInstance fun _=>rfl
instance alP:dG S jg:=gY inferInstance fun _=>rfl
instance aJc:dG S eX:=gY inferInstance fun _=>rfl
instance aoZ:dG S fH:=gY inferInstance fun _=>rfl
instance aDZ:dG S B_:=gY inferInstance fun _=>rfl
instance ZM:dG S Xv:=gY inferInstance fun _=>rfl
instance vX:dG S bJ:=gY inferInstance fun _=>rfl
instance pW:dG S aX:=gY inferInstance fun _=>rfl
instance aiK:dG S gK:=gY inferInstance fun _=>rfl
instance ZN:dG S YR:=gY inferInstance fun _=>rfl
instance aDU:dG S eF:=gY inferInstance fun _=>rfl
instance aiJ:dG S bn:=gY inferInstance fun _=>rfl
instance aiI:dG S jH:=gY inferInstance fun _=>rfl
theorem aFN:azi S view qi:=by
 refine⟨fun e E h l=> ?_,fun d l=> ?_,fun d d2 a h=> ?_,fun d=> ?_⟩
 ·have:=JO h;simp only[axu,EC,Qbg,Zc,Qea]at this;rcases this with⟨_,rfl⟩ | ⟨_,rfl⟩ | ⟨_,rfl⟩ | ⟨_,rfl⟩ | ⟨_,rfl⟩ | ⟨_,rfl⟩ | ⟨_,rfl⟩ | ⟨_,rfl⟩ | ⟨_,rfl⟩ | ⟨_,rfl⟩ | ⟨_,rfl⟩ | ⟨_,rfl⟩ | ⟨_,rfl⟩ | ⟨_,rfl⟩ | ⟨_,rfl⟩ | ⟨_,rfl⟩ | ⟨_,rfl⟩ | ⟨_,rfl⟩ | ⟨_,rfl⟩ | ⟨_,rfl⟩ | ⟨_,rfl⟩ | ⟨_,rfl⟩ | ⟨_,rfl⟩ | ⟨_,rfl⟩ | ⟨_,rfl⟩ | ⟨_,rfl⟩ | ⟨_,rfl⟩ | ⟨_,rfl⟩ | ⟨_,rfl⟩ | ⟨_,rfl⟩<;>rfl
 ·cases d<;>rfl
 ·cases d
  ·rw[EF d2 a h];rfl
  ·rw[Rw d2 a h];rfl
  ·rw[FY d2 a h];rfl
  ·rw[E_ d2 a h];rfl
  ·rw[KC d2 a h];rfl
  ·rw[Bj d2 a h];rfl
  ·rw[DK d2 a h];rfl
  ·rw[Rh d2 a h];rfl
  ·rw[RI d2 a h];rfl
  ·rw[QM d2 a h];rfl
  ·rw[QK d2 a h];rfl
  ·rw[ER d2 a h];rfl
  ·rw[ET d2 a h];rfl
  ·rw[Jj d2 a h];rfl
  ·rw[Au d2 a h];rfl
  ·rw[Q4 d2 a h];rfl
  ·rw[V5 d2 a h];rfl
  ·rw[EZ d2 a h];rfl
  ·rw[FI d2 a h];rfl
  ·rw[Rf d2 a h];rfl
  ·rw[EQ d2 a h];rfl
  ·rw[Q_ d2 a h];rfl
  ·rw[agT d2 a h];rfl
  ·rw[aan d2 a h];rfl
  ·rw[Yn d2 a h];rfl
  ·rw[JG d2 a h];rfl
  ·rw[aaC d2 a h];rfl
  ·rw[NL d2 a h];rfl
  ·rw[KQ d2 a h];rfl
  ·rw[RN d2 a h];rfl
  ·rw[DF d2 a h];rfl
  ·rw[DF d2 a h];rfl
  ·rw[DF d2 a h];rfl
 ·cases d
  ·exact AX
  ·exact YY
  ·exact Ja
  ·exact I_
  ·exact Sj
  ·exact Es
  ·exact aiB
  ·exact alQ
  ·exact Y0
  ·exact Y1
  ·exact YX
  ·exact Y2
  ·exact Y3
  ·exact ab4
  ·exact Oo
  ·exact Y4
  ·exact aca
  ·exact I9
  ·exact ZM
  ·exact alP
  ·exact Oc
  ·exact YZ
  ·exact alO
  ·exact azq
  ·exact ZN
  ·exact(pG _)
  ·exact(pG _)
  ·exact aiy
  ·exact aiz
  ·exact alN
  ·exact Nv
  ·exact Nv
  ·exact Nv
theorem aIT:aze S view qi S.SX S.text CP IK where
 inj:=fun d l=>by cases d<;>rfl
 el:=fun e E h l=>by
  have:=JO h;simp only[axu,EC,Qbg,Zc,Qea]at this;rcases this with⟨_,rfl⟩ | ⟨_,rfl⟩ | ⟨_,rfl⟩ | ⟨_,rfl⟩ | ⟨_,rfl⟩ | ⟨_,rfl⟩ | ⟨_,rfl⟩ | ⟨_,rfl⟩ | ⟨_,rfl⟩ | ⟨_,rfl⟩ | ⟨_,rfl⟩ | ⟨_,rfl⟩ | ⟨_,rfl⟩ | ⟨_,rfl⟩ | ⟨_,rfl⟩ | ⟨_,rfl⟩ | ⟨_,rfl⟩ | ⟨_,rfl⟩ | ⟨_,rfl⟩ | ⟨_,rfl⟩ | ⟨_,rfl⟩ | ⟨_,rfl⟩ | ⟨_,rfl⟩ | ⟨_,rfl⟩ | ⟨_,rfl⟩ | ⟨_,rfl⟩ | ⟨_,rfl⟩ | ⟨_,rfl⟩ | ⟨_,rfl⟩ | ⟨_,rfl⟩<;>rfl
 txt:=fun e s d h=>by
  have h:rowOf e s=some d:=h;unfold rowOf at h;split at h
  ·injection h with h
   subst h;rfl
  ·cases h
 SX:=fun i d h=>by
  have h:lk al9 i=some d:=h;have:=JO h;simp only[al9,EC,Qbg,Zc,Qea]at this;rcases this with⟨_,rfl⟩<;>rfl
 size:=fun d m h=>by
  cases d<;>first
   | (cases h;done)
   | (have h2:=Qct h;subst h2;exact⟨rfl,rfl,aoz (atC aJr) (fun _=>rfl) _⟩)
   | (have h2:=Qct h;subst h2;exact⟨rfl,rfl,aoz (atC (awe (aJs (hc:=(azE .i64)) (hd:=(azE .i64))) (fun _=>rfl))) (fun _=>rfl) _⟩)
 new:=fun t d h=>by
  have:=JO h;simp only[EC,Qbg,Zc,Qea]at this;rcases this with⟨_,rfl⟩ | ⟨_,rfl⟩<;>exact⟨_,rfl,rfl⟩
theorem arS:jE S:=ax3 aFN (fun e s d h=>by
 unfold rowOf at h;split at h
 ·injection h with h
  subst h;exact⟨rfl,zo s,fun i _=>XQ (Lf.int .u8) (asP s i)⟩
 ·cases h) aIT
abbrev jJ (e:Nat):Ty:=⟨4,false,1,24,[.slice none 0 0],[],some e,[],false,none,false,none⟩
abbrev dn:Value:=.slice none 0 0
abbrev fV:Value:=.int .i64 0
abbrev eP:Value:=.string ⟨#[]⟩
abbrev JS:Value:=.bool false
abbrev Zo:Value:=.int .u64 0
abbrev iF (n b:Nat)(z:List Value)(f:List (Nat×Nat×Bool)):Ty:=⟨5,true,n,b,z,f,none,[],false,none,true,none⟩
abbrev KW:List (Nat×Nat×Bool):=[(0,1,false),(1,1,false)]
abbrev apr:List (Nat×Nat×Bool):=[(0,1,false),(1,1,false),(2,1,false)]
abbrev aB_:List (Nat×Nat×Bool):=[(0,1,false),(1,1,false),(2,1,false),(3,1,false)]
abbrev az6:List (Nat×Nat×Bool):=[(0,1,false),(1,1,false),(2,1,false),(3,1,false),(4,1,false)]
abbrev aKq:List (Nat×Nat×Bool):=[(0,1,false),(1,1,false),(2,1,false),(3,1,false),(4,1,false),(5,1,false),(6,1,false)]
def tys:List (Nat×Ty):=
 [(3,⟨23,false,1,8,[fV],[],none,[],false,none,false,none⟩),
  (4,⟨1,false,1,1,[JS],[],none,[],false,none,false,none⟩),
  (5,⟨24,false,1,1,[.int .u8 0],[],none,[],false,none,false,none⟩),
  (9,⟨3,false,1,16,[eP],[],none,[],false,none,false,none⟩),
  (20,⟨0,false,1,16,[.nilIface],[],none,[],false,none,false,none⟩),
  (21,⟨22,false,1,4,[.int .i32 0],[],none,[],false,none,false,none⟩),
  (22,jJ 85),
  (23,jJ 161),
  (24,jJ 88),
  (26,iF 3 72 [dn, dn, dn] apr),
  (27,jJ 61),
  (28,jJ 114),
  (30,iF 6 128 [dn, dn, dn, dn, dn, fV] [(0,3,true),(3,1,false),(4,1,false),(5,1,false)]),
  (31,jJ 50),
  (34,⟨4,false,1,24,[dn],[],some 222,[],true,none,false,none⟩),
  (35,jJ 102),
  (37,iF 10 200 [eP, dn, dn, dn, dn, dn, dn, dn, fV, JS] [(0,1,false),(1,3,true),(4,1,false),(5,1,false),(6,1,false),(7,1,false),(8,1,false),(9,1,false)]),
  (38,⟨23,false,1,8,[fV],[],none,[],false,none,false,none⟩),
  (43,⟨5,true,2,24,[fV, eP],KW,none,[2,3],false,none,true,none⟩),
  (46,⟨4,false,1,24,[dn],[],some 106,[],true,none,false,none⟩),
  (48,iF 4 64 [eP, eP, fV, dn] aB_),
  (50,iF 10 120 [.int .u8 0, fV, fV, fV, eP, eP, fV, dn, fV, eP] [(0,1,false),(1,1,false),(2,1,false),(3,1,false),(4,4,true),(8,1,false),(9,1,false)]),
  (59,⟨7,false,1,8,[.nilFunc],[],none,[],false,none,false,none⟩),
  (61,⟨5,true,4,40,[eP, fV, fV, fV],aB_,none,[3,2,2,2],false,none,true,none⟩),
  (63,jJ 271),
  (65,iF 5 80 [eP, eP, eP, fV, dn] az6),
  (71,⟨5,true,2,24,[fV, eP],KW,none,[2,3],false,none,true,none⟩),
  (72,⟨27,false,1,8,[Zo],[],none,[],false,none,false,none⟩),
  (73,jJ 78),
  (74,jJ 355),
  (75,jJ 288),
  (76,jJ 295),
  (78,iF 7 128 [fV, Zo, eP, dn, dn, dn, dn] aKq),
  (80,iF 16 240 [fV, eP, fV, fV, fV, eP, eP, JS, fV, Zo, eP, dn, dn, dn, dn, dn] [(0,1,false),(1,1,false),(2,1,false),(3,1,false),(4,2,true),(6,1,false),(7,1,false),(8,7,true),(15,1,false)]),
  (81,jJ 80),
  (82,jJ 267),
  (83,jJ 9),
  (85,iF 5 112 [eP, dn, dn, dn, dn] az6),
  (86,jJ 65),
  (88,iF 3 64 [eP, dn, dn] apr),
  (102,iF 11 152 [fV, fV, eP, dn, fV, dn, fV, dn, fV, eP, JS] [(0,1,false),(1,1,false),(2,1,false),(3,1,false),(4,1,false),(5,1,false),(6,1,false),(7,1,false),(8,2,true),(10,1,false)]),
  (106,⟨5,true,2,32,[eP, eP],KW,none,[3,3],false,none,true,none⟩),
  (107,jJ 233),
  (114,⟨5,true,5,56,[fV, eP, eP, fV, fV],az6,none,[2,3,3,2,2],false,none,true,none⟩),
  (121,jJ 198),
  (123,iF 2 48 [dn, dn] KW),
  (127,iF 14 224 [dn, dn, dn, eP, fV, fV, fV, eP, eP, eP, fV, dn, dn, JS] [(0,3,true),(3,4,true),(7,5,true),(12,1,false),(13,1,false)]),
  (131,⟨5,true,4,32,[fV, fV, fV, fV],aB_,none,[2,2,2,2],false,none,true,none⟩),
  (133,⟨7,false,1,8,[.nilFunc],[],none,[],false,none,false,none⟩),
  (151,iF 2 40 [eP, dn] KW),
  (155,jJ 4),
  (159,jJ 243),
  (161,iF 5 96 [eP, JS, dn, dn, dn] az6),
  (163,⟨6,false,1,8,[.pointer none],[],none,[],false,none,false,some (165,165)⟩),
  (165,iF 3 48 [eP, fV, dn] apr),
  (166,⟨0,true,3,72,[dn, dn, dn],[],none,[],true,some (83,3),true,none⟩),
  (170,⟨0,false,1,8,[.map none],[],none,[],false,none,false,some (9,4)⟩),
  (178,⟨7,false,1,8,[.nilFunc],[],none,[],false,none,false,none⟩),
  (181,⟨5,true,2,32,[eP, eP],KW,none,[3,3],false,none,true,none⟩),
  (182,⟨5,true,2,32,[eP, eP],KW,none,[3,3],false,none,true,none⟩),
  (185,⟨5,true,1,8,[fV],[(0,1,false)],none,[2],false,none,true,none⟩),
  (188,⟨5,true,2,16,[fV, fV],KW,none,[2,2],false,none,true,none⟩),
  (190,⟨5,true,1,8,[fV],[(0,1,false)],none,[2],false,none,true,none⟩),
  (192,iF 0 0 [] []),
  (196,jJ 263),
  (198,iF 3 48 [eP, dn, fV] apr),
  (208,iF 2 48 [dn, dn] [(0,2,true)]),
  (210,⟨7,false,1,8,[.nilFunc],[],none,[],false,none,false,none⟩),
  (212,⟨5,true,2,16,[fV, fV],KW,none,[2,2],false,none,true,none⟩),
  (213,⟨0,true,26,208,[fV, fV, fV, fV, fV, fV, fV, fV, fV, fV, fV, fV, fV, fV, fV, fV, fV, fV, fV, fV, fV, fV, fV, fV, fV, fV],[],none,[],false,some (212,13),true,none⟩),
  (220,jJ 3),
  (222,iF 2 40 [eP, dn] KW),
  (225,⟨7,false,1,8,[.nilFunc],[],none,[],false,none,false,none⟩),
  (231,⟨6,false,1,8,[.pointer none],[],none,[],false,none,false,some (151,151)⟩),
  (233,⟨5,true,3,32,[eP, fV, fV],apr,none,[3,2,2],false,none,true,none⟩),
  (237,⟨7,false,1,8,[.nilFunc],[],none,[],false,none,false,none⟩),
  (243,iF 3 48 [eP, fV, dn] apr),
  (251,⟨7,false,1,8,[.nilFunc],[],none,[],false,none,false,none⟩),
  (255,⟨7,false,1,8,[.nilFunc],[],none,[],false,none,false,none⟩),
  (258,⟨7,false,1,8,[.nilFunc],[],none,[],false,none,false,none⟩),
  (263,⟨5,true,8,80,[fV, eP, eP, fV, fV, fV, fV, fV],[(0,1,false),(1,1,false),(2,1,false),(3,1,false),(4,1,false),(5,1,false),(6,1,false),(7,1,false)],none,[2,3,3,2,2,2,2,2],false,none,true,none⟩),
  (267,⟨5,true,2,16,[fV, fV],KW,none,[2,2],false,none,true,none⟩),
  (271,iF 8 144 [eP, fV, Zo, eP, dn, dn, dn, dn] [(0,1,false),(1,7,true)]),
  (273,⟨5,true,6,56,[eP, fV, fV, fV, fV, fV],[(0,1,false),(1,1,false),(2,1,false),(3,1,false),(4,1,false),(5,1,false)],none,[3,2,2,2,2,2],false,none,true,none⟩),
  (276,⟨6,false,1,8,[.pointer none],[],none,[],false,none,false,some (278,278)⟩),
  (278,iF 8 104 [dn, dn, eP, fV, fV, fV, fV, fV] [(0,2,true),(2,6,true)]),
  (283,⟨7,false,1,8,[.nilFunc],[],none,[],false,none,false,none⟩),
  (288,iF 8 136 [fV, fV, Zo, eP, dn, dn, dn, dn] [(0,1,false),(1,7,true)]),
  (291,iF 2 48 [dn, dn] [(0,2,true)]),
  (295,⟨5,true,4,40,[fV, fV, Zo, eP],aB_,none,[2,2,2,3],false,none,true,none⟩),
  (298,⟨0,true,26,416,[eP, eP, eP, eP, eP, eP, eP, eP, eP, eP, eP, eP, eP, eP, eP, eP, eP, eP, eP, eP, eP, eP, eP, eP, eP, eP],[],none,[3,3,3,3,3,3,3,3,3,3,3,3,3,3,3,3,3,3,3,3,3,3,3,3,3,3],false,some (9,26),true,none⟩),
  (301,⟨7,false,1,8,[.nilFunc],[],none,[],false,none,false,none⟩),
  (317,⟨7,false,1,8,[.nilFunc],[],none,[],false,none,false,none⟩),
  (320,⟨7,false,1,8,[.nilFunc],[],none,[],false,none,false,none⟩),
  (322,⟨7,false,1,8,[.nilFunc],[],none,[],false,none,false,none⟩),
  (325,⟨27,false,1,8,[Zo],[],none,[],false,none,false,none⟩),
  (329,⟨0,true,256,256,(List.replicate 256 (JS)),[],none,(List.replicate 256 1),false,some (4,256),true,none⟩),
  (333,⟨6,false,1,8,[.pointer none],[],none,[],false,none,false,some (329,329)⟩),
  (336,⟨7,false,1,8,[.nilFunc],[],none,[],false,none,false,none⟩),
  (353,⟨7,false,1,8,[.nilFunc],[],none,[],false,none,false,none⟩),
  (355,iF 14 256 [fV, Zo, eP, dn, dn, dn, dn, fV, Zo, eP, dn, dn, dn, dn] [(0,7,true),(7,7,true)]),
  (360,⟨7,false,1,8,[.nilFunc],[],none,[],false,none,false,none⟩),
  (362,⟨7,false,1,8,[.nilFunc],[],none,[],false,none,false,none⟩),
  (364,⟨6,false,1,8,[.pointer none],[],none,[],false,none,false,some (367,367)⟩),
  (365,⟨4,false,1,24,[dn],[],some 5,[],true,none,false,none⟩),
  (367,⟨5,true,2,32,[.pointer none, dn],KW,none,[],true,none,true,none⟩),
  (371,⟨0,false,1,16,[.nilIface],[],none,[],false,none,false,none⟩),
  (382,⟨7,false,1,8,[.nilFunc],[],none,[],false,none,false,none⟩),
  (402,⟨7,false,1,8,[.nilFunc],[],none,[],false,none,false,none⟩),
  (405,⟨6,false,1,8,[.pointer none],[],none,[],false,none,false,some (295,295)⟩),
  (407,⟨7,false,1,8,[.nilFunc],[],none,[],false,none,false,none⟩),
  (409,iF 1 8 [.nilFunc] [(0,1,false)]),
  (421,⟨7,false,1,8,[.nilFunc],[],none,[],false,none,false,none⟩),
  (423,⟨7,false,1,8,[.nilFunc],[],none,[],false,none,false,none⟩),
  (425,⟨7,false,1,8,[.nilFunc],[],none,[],false,none,false,none⟩),
  (427,⟨7,false,1,8,[.nilFunc],[],none,[],false,none,false,none⟩),
  (429,⟨7,false,1,8,[.nilFunc],[],none,[],false,none,false,none⟩),
  (437,⟨6,false,1,8,[.pointer none],[],none,[],false,none,false,some (5,5)⟩),
  (444,⟨5,true,2,16,[fV, fV],KW,none,[2,2],false,none,true,none⟩),
  (446,⟨0,false,1,8,[.map none],[],none,[],false,none,false,some (9,444)⟩),
  (471,⟨7,false,1,8,[.nilFunc],[],none,[],false,none,false,none⟩),
  (472,⟨7,false,1,8,[.nilFunc],[],none,[],false,none,false,none⟩),
  (500,iF 7 128 [fV, Zo, eP, dn, dn, dn, dn] aKq),
  (501,jJ 78),
  (503,jJ 355),
  (506,iF 2 48 [dn, dn] KW),
  (512,jJ 73),
  (514,jJ 74),
  (516,jJ 76),
  (520,⟨7,false,1,8,[.nilFunc],[],none,[],false,none,false,none⟩)]
def T:TypeId->Option Ty:=lk tys
theorem aib:∀t a,T t=some a->gW Tryz.prog t a:=by
 intro t a h;have:=JO h;simp only[tys,EC,Qbg,Zc,Qea]at this;rcases this with⟨rfl,rfl⟩ | ⟨rfl,rfl⟩ | ⟨rfl,rfl⟩ | ⟨rfl,rfl⟩ | ⟨rfl,rfl⟩ | ⟨rfl,rfl⟩ | ⟨rfl,rfl⟩ | ⟨rfl,rfl⟩ | ⟨rfl,rfl⟩ | ⟨rfl,rfl⟩ | ⟨rfl,rfl⟩ | ⟨rfl,rfl⟩ | ⟨rfl,rfl⟩ | ⟨rfl,rfl⟩ | ⟨rfl,rfl⟩ | ⟨rfl,rfl⟩ | ⟨rfl,rfl⟩ | ⟨rfl,rfl⟩ | ⟨rfl,rfl⟩ | ⟨rfl,rfl⟩ | ⟨rfl,rfl⟩ | ⟨rfl,rfl⟩ | ⟨rfl,rfl⟩ | ⟨rfl,rfl⟩ | ⟨rfl,rfl⟩ | ⟨rfl,rfl⟩ | ⟨rfl,rfl⟩ | ⟨rfl,rfl⟩ | ⟨rfl,rfl⟩ | ⟨rfl,rfl⟩ | ⟨rfl,rfl⟩ | ⟨rfl,rfl⟩ | ⟨rfl,rfl⟩ | ⟨rfl,rfl⟩ | ⟨rfl,rfl⟩ | ⟨rfl,rfl⟩ | ⟨rfl,rfl⟩ | ⟨rfl,rfl⟩ | ⟨rfl,rfl⟩ | ⟨rfl,rfl⟩ | ⟨rfl,rfl⟩ | ⟨rfl,rfl⟩ | ⟨rfl,rfl⟩ | ⟨rfl,rfl⟩ | ⟨rfl,rfl⟩ | ⟨rfl,rfl⟩ | ⟨rfl,rfl⟩ | ⟨rfl,rfl⟩ | ⟨rfl,rfl⟩ | ⟨rfl,rfl⟩ | ⟨rfl,rfl⟩ | ⟨rfl,rfl⟩ | ⟨rfl,rfl⟩ | ⟨rfl,rfl⟩ | ⟨rfl,rfl⟩ | ⟨rfl,rfl⟩ | ⟨rfl,rfl⟩ | ⟨rfl,rfl⟩ | ⟨rfl,rfl⟩ | ⟨rfl,rfl⟩ | ⟨rfl,rfl⟩ | ⟨rfl,rfl⟩ | ⟨rfl,rfl⟩ | ⟨rfl,rfl⟩ | ⟨rfl,rfl⟩ | ⟨rfl,rfl⟩ | ⟨rfl,rfl⟩ | ⟨rfl,rfl⟩ | ⟨rfl,rfl⟩ | ⟨rfl,rfl⟩ | ⟨rfl,rfl⟩ | ⟨rfl,rfl⟩ | ⟨rfl,rfl⟩ | ⟨rfl,rfl⟩ | ⟨rfl,rfl⟩ | ⟨rfl,rfl⟩ | ⟨rfl,rfl⟩ | ⟨rfl,rfl⟩ | ⟨rfl,rfl⟩ | ⟨rfl,rfl⟩ | ⟨rfl,rfl⟩ | ⟨rfl,rfl⟩ | ⟨rfl,rfl⟩ | ⟨rfl,rfl⟩ | ⟨rfl,rfl⟩ | ⟨rfl,rfl⟩ | ⟨rfl,rfl⟩ | ⟨rfl,rfl⟩ | ⟨rfl,rfl⟩ | ⟨rfl,rfl⟩ | ⟨rfl,rfl⟩ | ⟨rfl,rfl⟩ | ⟨rfl,rfl⟩ | ⟨rfl,rfl⟩ | ⟨rfl,rfl⟩ | ⟨rfl,rfl⟩ | ⟨rfl,rfl⟩ | ⟨rfl,rfl⟩ | ⟨rfl,rfl⟩ | ⟨rfl,rfl⟩ | ⟨rfl,rfl⟩ | ⟨rfl,rfl⟩ | ⟨rfl,rfl⟩ | ⟨rfl,rfl⟩ | ⟨rfl,rfl⟩ | ⟨rfl,rfl⟩ | ⟨rfl,rfl⟩ | ⟨rfl,rfl⟩ | ⟨rfl,rfl⟩ | ⟨rfl,rfl⟩ | ⟨rfl,rfl⟩ | ⟨rfl,rfl⟩ | ⟨rfl,rfl⟩ | ⟨rfl,rfl⟩ | ⟨rfl,rfl⟩ | ⟨rfl,rfl⟩ | ⟨rfl,rfl⟩ | ⟨rfl,rfl⟩ | ⟨rfl,rfl⟩ | ⟨rfl,rfl⟩ | ⟨rfl,rfl⟩ | ⟨rfl,rfl⟩ | ⟨rfl,rfl⟩ | ⟨rfl,rfl⟩ | ⟨rfl,rfl⟩ | ⟨rfl,rfl⟩ | ⟨rfl,rfl⟩ | ⟨rfl,rfl⟩ | ⟨rfl,rfl⟩ | ⟨rfl,rfl⟩<;>(clear h;show _=_;kernel_rfl)
theorem mixed:Tryz.prog.follows .mixedOrders=true:=by kernel_rfl
@[reducible] noncomputable def Z:Seat D:=⟨Tryz.prog,S,T,mixed,aib,arS⟩
def action (x:jA):Pg (Option nY):=.br (x.Kind==1) (.ret (some (nY.mk 181 true [Pv.str x.Key,Pv.str x.Val]))) (.br (x.Kind==2) (.ret (some (nY.mk 185 true [Pv.int .i64 x.Num]))) (.br (x.Kind==3) (.ret (some (nY.mk 188 true [Pv.int .i64 x.Num,Pv.int .i64 x.mg]))) (.br (x.Kind==4) (.ret (some (nY.mk 182 true [Pv.str x.Key,Pv.str x.Val]))) (.br (x.Kind==5) (.ret (some (nY.mk 190 true [Pv.int .i64 x.Num]))) (.br (x.Kind==6) (.ret (some (nY.mk 192 true []))) (.ret none))))))
def sH (x:jA):=(action x).val
def XV:aZ Z:=E0 [] [] (a1 (aJ yL)) (R1 azP) [] func80 1 action
def within (n:Int)(a:Int)(b:Int):Pg Bool:=.br (decide (a<=n)) (.ret (decide (n<=b))) (.ret false)
def Um (n:Int)(a:Int)(b:Int):=(within n a b).val
def aut:aZ Z:=E0 [] [] (ak (bC cI) (ak (bC cI) (a1 (bC cI)))) (R1 aG) [] func82 1 (u3 within)
def bare (x:jA)(c:Bool)(b:Bool)(a:Bool):Pg Bool:=.br c (.br b (.br a (.ret true) (.ret (x.mg==0))) (.br (x.Num==0) (.br a (.ret true) (.ret (x.mg==0))) (.ret false))) (.br (x.Key==[]) (.br (x.Val==[]) (.br b (.br a (.ret true) (.ret (x.mg==0))) (.br (x.Num==0) (.br a (.ret true) (.ret (x.mg==0))) (.ret false))) (.ret false)) (.ret false))
def aol (x:jA)(c:Bool)(b:Bool)(a:Bool):=(bare x c b a).val
def aIW:aZ Z:=E0 [] [] (ak (aJ yL) (ak (bC aG) (ak (bC aG) (a1 (bC aG))))) (R1 aG) [] func81 1 (u4 bare)
theorem yQ (x:jA):nY.ok (sH x) 181 true [Value.string (ByteArray.mk #[]),Value.string (ByteArray.mk #[])]=true/\nY.ok (sH x) 182 true [Value.string (ByteArray.mk #[]),Value.string (ByteArray.mk #[])]=true/\nY.ok (sH x) 185 true [Value.int IntKind.i64 0]=true/\
  nY.ok (sH x) 188 true [Value.int IntKind.i64 0,Value.int IntKind.i64 0]=true/\nY.ok (sH x) 190 true [Value.int IntKind.i64 0]=true/\nY.ok (sH x) 192 true []=true:=by
 unfold sH action;simp only[bf,aI];cases x.Kind==1<;>cases x.Kind==2<;>cases x.Kind==3<;>cases x.Kind==4<;>cases x.Kind==5<;>cases x.Kind==6<;>exact⟨rfl,rfl,rfl,rfl,rfl,rfl⟩
def formed (x:jA):Pg Bool:=.lt (sH x) fun a=> .ob (nY.ok a 181 true [Value.string (ByteArray.mk (Array.mk [])),Value.string (ByteArray.mk (Array.mk []))]=true) (.ob (nY.ok a 182 true [Value.string (ByteArray.mk (Array.mk [])),Value.string (ByteArray.mk (Array.mk []))]=true) (.br (bif nY.is a 181 then true else nY.is a 182) (.ret (aol x true false false)) (.ob (nY.ok a 185 true [Value.int .i64 0]=true) (.lt (aol x false true false) fun b=> .br (nY.is a 185) (.br b (.ret (Um x.Num 0 65536)) (.ret false)) (.ob (nY.ok a 188 true [Value.int .i64 0,Value.int .i64 0]=true) (.br (nY.is a 188) (.br (aol x false true true) (.br (Um x.Num 1 1000) (.ret (Um x.mg 1 1099511627776)) (.ret false)) (.ret false)) (.ob (nY.ok a 190 true [Value.int .i64 0]=true) (.br (nY.is a 190) (.br b (.ret (Um x.Num 1 1099511627776)) (.ret false)) (.ob (nY.ok a 192 true []=true) (.br (nY.is a 192) (.ret (aol x false false false)) (.ret false)))))))))))
def aDs (x:jA):=(formed x).val
theorem aqt (x:jA):Is (formed x):=
 dI fun d a=>aY ((a▸yQ x).1) (aY ((a▸yQ x).2.1) (aT iR (fun _=>aY ((a▸yQ x).2.2.1) (dI fun c b=>aT (fun _=>aT iR iR) (fun _=>aY ((a▸yQ x).2.2.2.1) (aT (fun _=>aT (fun _=>aT iR iR) iR) (fun _=>aY ((a▸yQ x).2.2.2.2.1) (aT (fun _=>aT iR iR) (fun _=>aY ((a▸yQ x).2.2.2.2.2) (aT iR iR))))))))))
def aws:aZ Z:=E0 [XV,aIW,aut] [] (a1 (aJ yL)) (R1 aG) [] func37 1 formed fun a=>aqt a
def errText (e:Int):Pg (List UInt8):=.ob (26=26) (.br (decide (e < 0)) (.ret [117,110,107,110,111,119,110]) (.br (decide (26<=e)) (.ret [117,110,107,110,111,119,110]) (.ob (0<=e/\e < 26) (.ob (e.toNat < 26) (.ret ([[111,107],[97,114,103,117,109,101,110,116], [115,121,110,116,97,120], [108,105,109,105,116],[115,104,111,114,116], [102,111,114,109],[114,97,110,103,101], [117,116,102],[110,97,109,101], [116,119,105,99,101],[110,111,110,101], [111,114,100,101,114],[116,121,112,101], [119,105,114,101], [109,105,115,115,105,110,103], [117,110,105,111,110],[101,110,117,109], [100,101,112,116,104],[101,120,116,114,97], [99,121,99,108,101],[115,116,97,116,101], [100,101,110,105,101,100],[102,117,108,108], [108,97,116,101], [99,111,110,102,108,105,99,116], [115,117,109]].getD e.toNat []))))))
def auO (e:Int):=(errText e).val
def aqN:aZ Z:=E0 [] [] (a1 (bC cI)) (R1 cStr) [] func100 1 errText
abbrev SA:=[jC.mk 0 0,jC.mk 23 3,jC.mk 21 6,jC.mk 22 7, jC.mk 3 7,jC.mk 17 7,jC.mk 10 4,jC.mk 9 5, jC.mk 20 8,jC.mk 24 9,jC.mk 25 13,jC.mk 11 11, jC.mk 19 11]
def atx (e:Int):Pg Status:=.cut (fun(d:Int)=> .cut (fun(c:Int)=> .br (e==0) (.ret (Status.mk 0 [])) (.ret (Status.mk c (auO e)))) (.ob (13=13) (.cnt oZ 0 13 (fun(a b:Int)=> .ob (0<=a/\a < 13) (.br ([(SA.getD 0 gJ).e, (SA.getD 1 gJ).e, (SA.getD 2 gJ).e, (SA.getD 3 gJ).e, (SA.getD 4 gJ).e, (SA.getD 5 gJ).e, (SA.getD 6 gJ).e, (SA.getD 7 gJ).e, (SA.getD 8 gJ).e, (SA.getD 9 gJ).e, (SA.getD 10 gJ).e, (SA.getD 11 gJ).e, (SA.getD 12 gJ).e].getD a.toNat 0== e) (rl ([(SA.getD 0 gJ).code, (SA.getD 1 gJ).code, (SA.getD 2 gJ).code, (SA.getD 3 gJ).code, (SA.getD 4 gJ).code, (SA.getD 5 gJ).code, (SA.getD 6 gJ).code, (SA.getD 7 gJ).code, (SA.getD 8 gJ).code, (SA.getD 9 gJ).code, (SA.getD 10 gJ).code, (SA.getD 11 gJ).code, (SA.getD 12 gJ).code].getD a.toNat 0)) (rl b))) (fun(a b:Int)=> rl b) d))) (.br (decide (0 < e)) (.br (decide (e<=25)) (rl 2) (rl 11)) (rl 11))
def WW (e:Int):=(atx e).val
theorem aAd (e:Int):Is (atx e):=
 kX (dB (fun _=>dB iR iR) iR) (fun g d=>kX (aY au (O7 au au (fun b a _ _=>aY au (dY iR iR)) (fun b a _ _=>aQ))) (fun f c=>dY iR iR))
def akE:aZ Z:=E0 [aqN] [jS 5 (bI (fun b=>[s0 13, s0 3]) (aB cI (l1 cI))),jS 100004 (bI (fun b=>[s0 3]) (l1 cI)),jS 100010 (bI (fun b=>[s0 3]) (l1 cI))] (a1 (bC cI)) (shr [.slot 0 true [none,none]] (l1 jZ)) [] func52 1 atx fun a=>aAd a
def message (l:List jA)(n:Int):Pg Status:=aL l (.each false uj l uQ (fun b c (e:Unit)=> .ix b l.length (.lt (sH c) fun a=> .ob (nY.ok a 185 true [Value.int .i64 0]=true) (.br (nY.is a 185) (.lt (Pv.gI (nY.get a 185 0)) fun d=> .br (decide (d < n)) (.ret (.inr (WW 3))) (rl ())) (rl ())))) (fun b (e:Unit)=> .ret (Status.mk 0 [])) ())
def axf (l:List jA)(n:Int):=(message l n).val
theorem aj0 (l:List jA)(n:Int):Is (message l n):=
 gp fun _=>gU (.inr au) (fun d b _ _=>b_ au au (dI fun f a=>aY ((a▸(yQ _).2.2.1)) (aT (fun _=>dI fun e c=>dB iR iR) iR))) (fun b _=>aQ)
def arW:aZ Z:=E0 [akE,XV] [jS 2 (bI (fun b=>[s0 11]) (l1 cI))] (ak (bC rC) (a1 (bC cI))) (shr [.slot 0 true [none,none]] (l1 jZ)) [] func50 1 (u2 message) fun a=>aj0 a.1 a.2
def aEP (h:Head)(a:Str):Pg (List UInt8×Bool):=aL h.dL (.each false uj h.dL Aq (fun c b (d:Unit)=> .ix c h.dL.length (.br (b.Key==a) (.ret (.inr (b.Val,true))) (rl ()))) (fun c (d:Unit)=> .ret ([],false)) ())
def aGM (h:Head)(a:Str):=(aEP h a).val
def aDc:aZ Z:=E0 [] [jS 2 (bI (fun b=>[s0 11]) (l1 cI))] (ak (aJ rE) (a1 (bC cStr))) (shr [s0 0, s0 1] (aB cStr (l1 aG))) [] func101 2 (u2 aEP)
def earlier (a:Int)(b:Int):Pg Int:=.br (decide (a < 1)) (.br (decide (b < 1)) (.ret 0) (.br (decide (a < 1)) (.ret b) (.br (decide (b < 1)) (.ret a) (.ret (min a b))))) (.br (decide (a < 1)) (.ret b) (.br (decide (b < 1)) (.ret a) (.ret (min a b))))
def asL (a:Int)(b:Int):=(earlier a b).val
def arV:aZ Z:=E0 [] [] (ak (bC cI) (a1 (bC cI))) (R1 cI) [] func104 1 (u2 earlier)
def after (a:Int)(b:Int):Pg Int:=.ret (min (dA .i64 (min (max a 0) 1099511627776+min (max b 0) 1099511627776)) 1099511627776)
def WR (a:Int)(b:Int):=(after a b).val
def anq:aZ Z:=E0 [] [] (ak (bC cI) (a1 (bC cI))) (R1 cI) [] func53 1 (u2 after)
set_option maxHeartbeats 1000000 in
set_option maxRecDepth 100000 in
theorem VG (s:ByteArray)(c:Int)(w:World):
  Calls Tryz.prog 210 #[.string s, .int .u8 c] w fun e a=>e= .returned (.int .i64 (Lib.indexByte s.data.toList c.toNat.toUInt8))/\a=w:=by
 go_enter func210,ntmps210
 go_wp2
 rw[run_callFunc_extern func292 eQ eQ eQ (e:=Extern.BytealgIndexByte.indexByte) eQ,Lib.run_indexByteString];simp only[Result.andThen];rw[Oper.upon_value]
 go_wp2
 go_ret
 exact⟨rfl,rfl⟩
theorem ahQ {D:Type}{S:Sh D}:gZ Tryz.prog S 210 (E5 Dt):=Xk (enters_of func210 eQ eQ) VG
set_option maxHeartbeats 1000000 in
set_option maxRecDepth 100000 in
theorem count_walk (s:ByteArray)(c:UInt8)(w:World):
  Calls Tryz.prog 215 #[.string s, .string ⟨#[c]⟩] w fun e a=>e= .returned (.int .i64 (Lib.countByte s.data.toList c))/\a=w:=by
 go_enter func215,ntmps215
 go_wp2
 rw[run_callFunc_extern func296 eQ eQ eQ (e:=Extern.BytealgCount.count) eQ,Lib.run_countString];simp only[Result.andThen];rw[Oper.upon_value]
 go_wp2
 go_ret
 exact⟨rfl,rfl⟩
theorem aBH {D:Type}{S:Sh D}:gZ Tryz.prog S 215 (E5 ad_):=akA (enters_of func215 eQ eQ) count_walk
theorem aEq:∃j,Tryz.prog.info? 367=some j/\j.size=2:=Qcb.1 (show(Tryz.prog.info? 367).map (·.size)=some 2 by kernel_rfl)
theorem aKQ:liesAt Tryz.prog Tryz.prog.depth 367 (2 / Tryz.prog.cellsOf 367) 0 367 1=true:=by kernel_rfl
set_option maxHeartbeats 1000000 in
set_option maxRecDepth 100000 in
theorem Xq (b:Nat)(w:World)(d:w.cell? ⟨b,0,none⟩=some (.pointer (some ⟨b,0,none⟩))):
  Calls Tryz.prog 378 #[.pointer (some ⟨b,0,none⟩)] w fun e c=>e= .returned (.tuple #[])/\c=w:=by
 obtain⟨j,a,_⟩:=aEq
 go_enter func378,ntmps378
 go_wp2
 rw[Lib.run_neq_ptr_same w _ underlying364 a]
 go_wp2
 go_end0
 exact⟨rfl,rfl⟩
set_option maxHeartbeats 1000000 in
set_option maxRecDepth 100000 in
theorem SH (b:Nat)(w:World)(h:w.cell? ⟨b,0,none⟩=some (.pointer none))(a:w.shape? b=some (367,2))(g:w.frozen? ⟨b,0,none⟩=false):
  Calls Tryz.prog 378 #[.pointer (some ⟨b,0,none⟩)] w fun e f=>e= .returned (.tuple #[])/\f=w.setCell ⟨b,0,none⟩ (.pointer (some ⟨b,0,none⟩)):=by
 obtain⟨j,c,d⟩:=aEq
 go_enter func378,ntmps378
 go_wp2
 rw[Lib.run_to_unsafe w ⟨b,0,none⟩ underlying364 underlying485 c (by rw[d];decide) a (Nat.zero_lt_succ 1)];simp only[Result.andThen];rw[Oper.upon_value]
 go_wp2
 rw[run_callFunc_extern func440 eQ eQ eQ (e:=Extern.AbiNoEscape.same) eQ];rw[Lib.run_noEscape];simp only[Result.andThen];rw[Oper.upon_value]
 go_wp2
 rw[Lib.run_from_unsafe w ⟨b,0,none⟩ underlying485 underlying364 c a aKQ];simp only[Result.andThen];rw[Oper.upon_value]
 go_wp2
 go_end0
 exact⟨rfl,rfl⟩
theorem aAQ {D:Type}{S:Sh D}:gZ Tryz.prog S 378 (Tu 367):=aiM (enters_of func378 eQ eQ) Xq SH
def QF:aZ Z:=⟨210,E5 Dt,ahQ⟩
def aAA:aZ Z:=⟨215,E5 ad_,aBH⟩
def ais:aZ Z:=⟨378,Tu 367,aAQ⟩
def IE:aZ Z:=aMe Z [ais] 260 func260 eQ
def abx:aZ Z:=aMe Z [] 264 func264 eQ
def byteAt (s:Str)(p:Nat):Nat:=(s.getD p 0).toNat
def OL (s:Str)(p:Nat):Bool:=decide (p < s.length)
def mW (s:Str)(p:Nat):Bool:=OL s p && (decide (128<=byteAt s p) && decide (byteAt s p<=191))
def szN (a b1:Nat)(c d b e:Bool):Int:=
 if a < 128 then 1 else if 194<=a/\a<=223/\d=true then 2 else if a=224/\c=true/\160<=b1/\b1<=191/\b=true then 3
 else if a=237/\c=true/\128<=b1/\b1<=159/\b=true then 3 else if 225<=a/\a<=239/\a≠237/\d=true/\b=true then 3
 else if a=240/\c=true/\144<=b1/\b1<=191/\b=true/\e=true then 4 else if 241<=a/\a<=243/\d=true/\b=true/\e=true then 4
 else if a=244/\c=true/\128<=b1/\b1<=143/\b=true/\e=true then 4 else 0
def dcN (a b1 b d:Nat)(c e f:Bool):Nat×Nat:=
 if a < 128 then(a,1)
 else if a / 32==6 && c then(if (a % 32)*64+b1 % 64≥128 then((a % 32)*64+b1 % 64,2)else(65533,1))
 else if a / 16==14 && c && e then(if (a % 16)*4096+(b1 % 64)*64+b % 64≥2048 && Utf8.valid (((a % 16)*4096+(b1 % 64)*64+b % 64:Nat):Int)then((a % 16)*4096+(b1 % 64)*64+b % 64,3)else(65533,1))
 else if a / 8==30 && c && e && f then(if (a % 8)*262144+(b1 % 64)*4096+(b % 64)*64+d % 64≥65536 && Utf8.valid (((a % 8)*262144+(b1 % 64)*4096+(b % 64)*64+d % 64:Nat):Int)then((a % 8)*262144+(b1 % 64)*4096+(b % 64)*64+d % 64,4)else(65533,1))
 else(65533,1)
theorem Tt (s:Str)(p:Nat):Utf8.decode ⟨s.toArray⟩ p=dcN (byteAt s p) (byteAt s (p+1)) (byteAt s (p+2)) (byteAt s (p+3)) (mW s (p+1)) (mW s (p+2)) (mW s (p+3)):=by
 have a:∀k,((ByteArray.mk s.toArray).get! (p+k)).toNat=byteAt s (p+k):=by
  intro k;unfold byteAt;have:(ByteArray.mk s.toArray).get! (p+k)=s.getD (p+k) 0:=by
   show s.toArray[p+k]! =_
   simp[List.getD,List.getElem!_eq_getElem?_getD];rfl
  rw[this]
 have c:∀k,(decide (p+k < (ByteArray.mk s.toArray).size) && byteAt s (p+k) / 64==2)=mW s (p+k):=by
  intro k;unfold mW OL;have d:(ByteArray.mk s.toArray).size=s.length:=by show s.toArray.size=_;simp
  rw[d];congr 1;rw[Qbr];simp only[Qb6,kW,X6];omega
 have b:=a 0;rw[UX]at b;unfold Utf8.decode dcN;simp only[a,c,Utf8.runeError];simp only[UX]
theorem aqC (n:Nat):Utf8.valid (n:Int)=true ↔ n < 55296\/(57344<=n/\n<=1114111):=by
 unfold Utf8.valid;simp only[Qa9,kW,X6];omega
set_option maxHeartbeats 4000000 in
theorem aLw (c b1 e g:Nat)(f a b d:Bool)(i:a=(f && (decide (128<=b1) && decide (b1<=191))))(k:b=true->128<=e/\e<=191)(j:d=true->128<=g/\g<=191)(m:c < 256):
  (szN c b1 f a b d=0->dcN c b1 e g a b d=(65533,1)/\¬(c=239/\b1=191/\e=189/\a=true/\b=true))/\
  (szN c b1 f a b d≠0->((dcN c b1 e g a b d).1=65533->c=239/\b1=191/\e=189/\a=true/\b=true)/\((dcN c b1 e g a b d).2:Int)=szN c b1 f a b d):=by
 have l:a=true ↔ f=true/\128<=b1/\b1<=191:=by
  rw[i];simp only[kW,X6]
 clear i;unfold szN dcN;cases a<;>cases b<;>cases d<;>cases f<;>simp only[Bool.and_true,Bool.and_false,Qa8,and_true,and_false,true_and,false_and,if_false,false_iff,true_iff,Qb6,ge_iff_le,kW,aqC,X6,forall_const,not_and,not_false_eq_true,implies_true,not_true_eq_false]at l k j⊢<;>(repeat' split)<;>simp only[Qbg,ne_eq,and_true,true_and,and_false,false_and,not_false_eq_true]<;>first | trivial | omega | exact⟨fun _ i k j=>by omega,fun h=>(h trivial).elim⟩
def csK:Str:=[97,98,99,100,101,102,103,104,105,106,107,108,109,110,111,112,113,114,115,116,117,118,119,120,121,122,48,49,50,51,52,53,54,55,56,57,45]
def Vh (c:Int)(a:List Bool):Pg Bool:=.ob (0<=c/\c < 256) (.ob (c.toNat < a.length) (.ret (a.getD c.toNat false)))
theorem Zu (c:Int)(a:List Bool)(h:0<=c/\c < 256/\a.length=256):Is (Vh c a):=
 aY au (aY au (aQ))
def NH:aZ Z:=SI [] [] (ak (avj 0 1) (a1 (bC (h_ .u8)))) (b1 (lh 329 D.bool qg)) (R1 aG) [0] func297 1 (fun a=>Vh a.1.2 a.2) (fun a=>some (0<=a.1.2/\a.1.2 < 256/\a.2.length=256)) (fun a=>a.2.getD a.1.2.toNat false) fun a h=>⟨Zu a.1.2 a.2 h,rfl⟩
def aep (s:Str)(a:List Bool):Pg (List UInt8):=.wh (s.length+1) default (fun(b:List UInt8)=> .br (decide (0 < (↑b.length:Int))) (.ix 0 b.length (.ob (0<=(↑(b.getD 0 0).toNat:Int)/\(↑(b.getD 0 0).toNat:Int) < 256/\a.length=256) (.br (!a.getD (b.getD 0 0).toNat false) (.ret (.inr b)) (.ob ((0:Int)<=1/\1<=(↑b.length:Int)/\(↑b.length:Int)<=(↑b.length:Int)) (rl (List.drop 1 (List.take b.length b))))))) (.ret (.inr b))) s
def aeP (s:Str)(a:List Bool):Pg (List UInt8):=.wh (s.length+1) default (fun(b:List UInt8)=> .br (decide (0 < (↑b.length:Int))) (.lt (dA .i64 ((↑b.length:Int) - 1)) fun c=> .ix c b.length (.ob (0<=(↑(b.getD c.toNat 0).toNat:Int)/\(↑(b.getD c.toNat 0).toNat:Int) < 256/\a.length=256) (.br (!a.getD (b.getD c.toNat 0).toNat false) (.ret (.inr b)) (.ob ((0:Int)<=0/\0<=c/\c<=(↑b.length:Int)) (rl (List.take c.toNat b)))))) (.ret (.inr b))) s
theorem aqz (s:Str)(a:List Bool)(h:a.length=256):(aep s a).val=s.dropWhile fun c=>a.getD c.toNat false:=by
 unfold aep;rw[tq]
 suffices d:∀(s:Str) (n:Nat),s.length < n->RV _ default n s=s.dropWhile fun c=>a.getD c.toNat false from d s _ (Qcz _)
 intro s;induction s with
 | nil=>
  intro n b;cases n with
  | zero=>simp at b
  | succ n=>rfl
 | cons c s g=>
  intro n b;cases n with
  | zero=>simp at b
  | succ n=>
   have f:(0:Int) < ((c::s).length:Int):=by simp only[yG];omega
   have i:((c::s).getD 0 0).toNat=c.toNat:=rfl;simp only[RV,bf,eU,bY,aI,f,decide_true,uu,i,List.dropWhile_cons];cases e:a.getD c.toNat false with
   | false=>simp[e]
   | true=>
    simp only[e,Qbm,mX,if_true];have:List.drop 1 (List.take (c::s).length (c::s))=s:=by simp
    rw[this];exact g n (by simpa using b)
theorem arM (s:Str)(a:List Bool)(m:a.length=256/\s.length<=9223372036854775807):(aeP s a).val=(s.reverse.dropWhile fun c=>a.getD c.toNat false).reverse:=by
 unfold aeP;rw[tq]
 suffices e:∀(r:Str) (n:Nat),r.length < n->r.length<=9223372036854775807->RV _ default n r.reverse=(r.dropWhile fun c=>a.getD c.toNat false).reverse by
  have:=e s.reverse (s.length+1) qb (by simpa using m.2);rwa [List.reverse_reverse]at this
 intro r;induction r with
 | nil=>
  intro n d _;cases n with
  | zero=>simp at d
  | succ n=>rfl
 | cons c r o=>
  intro n d g;cases n with
  | zero=>simp at d
  | succ n=>
   have b:((c::r).reverse).length=r.length+1:=by simp
   have l:(0:Int) < (((c::r).reverse).length:Int):=by rw[b];omega
   have j:dA .i64 ((((c::r).reverse).length:Int) - 1)=(r.length:Int):=by
    rw[b,dU (k:= .i64) (by simp only[CO];simp at g;omega)];omega
   have i:((c::r).reverse).getD ((r.length:Int)).toNat 0=c:=by simp[List.getD]
   have h:List.take r.length (c::r).reverse=r.reverse:=by simp
   simp only[RV,bf,cZ,eU,bY,aI,l,decide_true,uu,j,xw]at i h⊢;simp only[i,h,List.dropWhile_cons];cases f:a.getD c.toNat false with
   | false=>simp[f]
   | true=>
    simp only[f,Qbm,mX,if_true];exact o n (by simpa using d) (by simp at g;omega)
theorem aqU (s:Str)(a:List Bool)(h:a.length=256):Is (aep s a):=
 by
 refine Ep (fun _=>True) List.length trivial (Qcz _) (fun b _=>⟨dB (fun _=>b_ au au (aY ⟨by omega,by have:=Qdr (b.getD 0 0);omega,h⟩ (aT iR (fun _=>aY au (aQ))))) iR,fun f d=>⟨trivial,?_⟩⟩);revert d;simp only[bf,eU,bY,aI];by_cases c:(0:Int) < (b.length:Int)
 ·simp only[c,decide_true,uu];generalize a.getD _ false=q;cases q<;>intro e<;>cases e
  simp only[Qbs,QA,Nat.min_self];omega
 ·simp only[c,decide_false,mX];intro e;cases e
def atd:aZ Z:=SI [NH] [jS 1 (bI (fun b=>[s0 0]) (l1 cStr))] (ak (bC cStr) (a1 (avj 0 1))) (b1 (lh 329 D.bool qg)) (R1 cStr) [0] func220 1 (u11 aep) (fun a=>some (a.2.length=256)) (fun a=>a.1.1.dropWhile fun c=>a.2.getD c.toNat false) fun a h=>⟨aqU a.1.1 a.2 h,aqz a.1.1 a.2 h⟩
theorem ari (s:Str)(a:List Bool)(h:a.length=256/\s.length<=9223372036854775807):Is (aeP s a):=
 by
 refine Ep (fun x=>x.length<=9223372036854775807) List.length h.2 (Qcz _) (fun b g=>⟨dB (fun _=>ni fun f i _=>b_ au au (aY ⟨by omega,by have:=Qdr (b.getD f.toNat 0);omega,h.1⟩ (aT iR (fun _=>aY au (aQ))))) iR,fun j d=> ?_⟩);revert d;simp only[bf,cZ,eU,bY,aI];by_cases c:(0:Int) < (b.length:Int)
 ·simp only[c,decide_true,uu];generalize a.getD _ false=q;cases q<;>intro e<;>cases e
  rw[dU (k:= .i64) tZ];simp only[QA];omega
 ·simp only[c,decide_false,mX];intro e;cases e
def awy:aZ Z:=SI [NH] [jS 1 (bI (fun b=>[s0 0]) (l1 cStr))] (ak (bC cStr) (a1 (avj 0 1))) (b1 (lh 329 D.bool qg)) (R1 cStr) [0] func221 1 (u11 aeP) (fun a=>some (a.2.length=256/\a.1.1.length<=9223372036854775807)) (fun a=>(a.1.1.reverse.dropWhile fun(c:UInt8)=>a.2.getD c.toNat false).reverse) fun a h=>⟨ari a.1.1 a.2 h,arM a.1.1 a.2 h⟩
def awz (s:Str):Pg (List Bool×Bool):=.each true oZ s 0 (fun c b (a:List Bool)=> .ix c (List.length s) (.br (decide (128<=(↑b.toNat:Int))) (.ob (a.length=256) (.ob (a.length=256) (.ret (.inr (wY 256 false (wY 256 false a),false))))) (.ob (0<=(↑b.toNat:Int)/\(↑b.toNat:Int) < 256) (.ob (b.toNat < a.length) (rl (a.set b.toNat true)))))) (fun c (a:List Bool)=> .ob (a.length=256) (.ob (a.length=256) (.ret (wY 256 false (wY 256 false a),true)))) (List.replicate 256 false)
def ab8 (s:Str):=(awz s).val
theorem atm (s:Str):Is (awz s):=
 by
 refine BC (fun _ y=>y.length=256) Qcq (.inl rfl) (fun b d _ _ a=>⟨b_ au au (dB (fun _=>aY a (aY a (aQ))) (fun _=>aY (by have:=Qdr (s.getD b 0);omega) (aY (by have a:d.length=256:=a;have:=Qdr (s.getD b 0);omega) (aQ)))),fun g f=> ?_⟩) (fun d _ a=>aY a (aY a (aQ)));revert f;simp only[bf,eU,bY,aI];by_cases c:(128:Int)<=↑(s.getD b 0).toNat
 ·simp only[c,decide_true,uu];intro e;cases e
 ·simp only[c,decide_false,mX];intro e;cases e;rw[Qbo];exact a
def azQ:aZ Z:=E0 [] [jS 2 (bI (fun b=>[s0 4, .row (pid (b 2)) 329]) (aB cI (l1 qQ)))] (a1 (bC cStr)) (shr [.slot 0 true (nn 256), s0 1] (aB (Iy 256 false aG) (l1 aG))) [] func219 2 awz fun a=>atm a
theorem anQ:(ab8 csK).2=true:=by kernel_rfl
def agn (c:UInt8):Bool:=(97<=c && c<=122) || (48<=c && c<=57) || c==45
theorem aqr:((List.range 256).all fun i=>(wY 256 false (ab8 csK).1).getD i false==agn (UInt8.ofNat i))=true:=by kernel_rfl
theorem aAf (c:UInt8):(wY 256 false (ab8 csK).1).getD c.toNat false=agn c:=by
 have:=Qa2.1 aqr c.toNat (Qca.2 c.toNat_lt);have h:=eq_of_beq this;rw[h];congr 1;exact UInt8.ofNat_toNat
def al6 (s:Str):Pg (List UInt8):=.br (s==[]) (.ret s) (.cut (fun(b:Unit)=> .ob (256=256) (.lt (ab8 csK) fun a=> .br a.2 (.ob ((wY 256 false a.1).length=256/\List.length s<=9223372036854775807) (.ob ((wY 256 false a.1).length=256) (.ret (List.dropWhile (fun(c:UInt8)=>(wY 256 false a.1).getD c.toNat false) (List.dropWhile (fun(c:UInt8)=>(wY 256 false a.1).getD c.toNat false) (List.reverse s)).reverse)))) (.no default))) (rl ()))
theorem asU (s:Str)(h:s.length<=9223372036854775807):(al6 s).val=((s.reverse.dropWhile agn).reverse).dropWhile agn:=by
 unfold al6;simp only[bf,aI,jk,bY,cZ,jc,anQ,uu];cases s with
 | nil=>rfl
 | cons c s=>
  have:((c::s)==[])=false:=rfl;simp only[this,mX,aAf]
theorem aye (s:Str)(h:s.length<=9223372036854775807):Is (al6 s):=
 aT iR (fun _=>kX (aQ) (fun d c=>aY rfl (dI fun e b=>aT (fun _=>aY ⟨by simp[wY],h⟩ (aY (by simp[wY]) (aQ))) (fun a=>by rw[b,anQ]at a;cases a))))
def aBb:aZ Z:=vF Z [azQ,atd,awy] [jS 100005 (bI (fun c=>[]) l0)] (args (ak (bC cStr) (a1 (bC cStr)))) (lJ (n:=43) rfl) (R1 cStr) [] func148 ntmps148 eQ 1 rfl (fun a=>al6 (a.1)) (fun a=>some ((a.2=csK)/\((a.1).length<=9223372036854775807))) (fun⟨s,cs⟩ e h=>by have b:cs=csK:=h.1;subst b;show _=_;kernel_rfl) (fun a=>(((a.1).reverse.dropWhile agn).reverse).dropWhile agn) (fun a h=>⟨aye (a.1) h.2,asU (a.1) h.2⟩)
def ac8 (s:Str)(p:Str):Pg Bool:=.br (decide ((↑(List.length p):Int)<=(↑(List.length s):Int))) (.ob ((0:Int)<=0/\0<=(↑(List.length p):Int)/\(↑(List.length p):Int)<=(↑(List.length s):Int)) (.as (List.length s<=9223372036854775807) (.as (List.length p<=9223372036854775807) (.as (List.length p<=9223372036854775807) (.ret (List.take (List.length p) s==p)))))) (.as (List.length s<=9223372036854775807) (.as (List.length p<=9223372036854775807) (.ret false)))
def agM (s:Str)(p:Str):=(ac8 s p).val
def aru:aZ Z:=E0 [] [] (ak (bC cStr) (a1 (bC cStr))) (R1 aG) [] func394 1 (u2 ac8)
def ajZ (s:Str)(p:Str):Pg Bool:=.ret (agM s p)
def MC (s:Str)(p:Str):=(ajZ s p).val
def ayS:aZ Z:=E0 [aru] [] (ak (bC cStr) (a1 (bC cStr))) (R1 aG) [] func300 1 (u2 ajZ)
def wrong (s:Str)(a:Int)(c:Int):Pg Bool:=.br (c==65533) (.ob (0<=a/\a<=(↑(List.length s):Int)/\(↑(List.length s):Int)<=(↑(List.length s):Int)) (.ret !MC (List.drop a.toNat (List.take (List.length s) s)) [239,191,189])) (.ret false)
def XZ (s:Str)(a:Int)(c:Int):=(wrong s a c).val
def aCv:aZ Z:=E1 [ayS] [] (ak (bC cStr) (ak (bC cI) (a1 (bC (h_ .i32))))) (R1 aG) [] func224 1 (u3 wrong) fun a=>0<=a.2.1/\a.2.1<=a.1.length
def Lp (s:Str)(i:Int)(b:Int)(a:Int):Pg Bool:=.br (decide (i < (↑(List.length s):Int))) (.ix i (List.length s) (.br (decide (b<=(↑(List.getD s i.toNat 0).toNat:Int))) (.ix i (List.length s) (.as (List.length s<=9223372036854775807) (.ret (decide ((↑(List.getD s i.toNat 0).toNat:Int)<=a))))) (.as (List.length s<=9223372036854775807) (.ret false)))) (.as (List.length s<=9223372036854775807) (.ret false))
def uh (s:Str)(i:Int)(b:Int)(a:Int):=(Lp s i b a).val
theorem agQ (s:Str)(i:Int)(a:Int)(b:Int)(h:0<=i):Is (Lp s i a b):=
 dB (fun _=>b_ au au (dB (fun _=>b_ au au (gp fun _=>aQ)) (fun _=>gp fun _=>aQ))) (fun _=>gp fun _=>aQ)
def XW:aZ Z:=E1 [] [] (ak (bC cStr) (ak (bC cI) (ak (bC (h_ .u8)) (a1 (bC (h_ .u8)))))) (R1 aG) [] func382 1 (u4 Lp) (fun a=>0<=a.2.1) fun a h=>agQ a.1 a.2.1 a.2.2.1 a.2.2.2 h
def amw (s:Str)(i:Int)(n:Int):Pg Bool:=.cnt uj 0 n (fun a (c:Unit)=> .lt (dA .i64 (i+a)) fun b=> .ob (0<=b) (.br (!uh s b 128 191) (.ret (.inr false)) (rl ()))) (fun a (c:Unit)=> .ret true) ()
def DC (s:Str)(i:Int)(n:Int):=(amw s i n).val
theorem avv (s:Str)(i:Int)(n:Int)(h:0<=i/\i<=s.length+1/\n<=3/\s.length<=9223372036854775700):Is (amw s i n):=
 O7 au au (fun b a _ _=>ni fun d c _=>aY au (aT iR iR)) (fun b a _ _=>aQ)
def aCD:aZ Z:=E1 [XW] [jS 2 (bI (fun b=>[s0 7]) (l1 cI))] (ak (bC cStr) (ak (bC cI) (a1 (bC cI)))) (R1 aG) [] func381 1 (u3 amw) (fun a=>0<=a.2.1/\a.2.1<=a.1.length+1/\a.2.2<=3/\a.1.length<=9223372036854775700) fun a h=>avv a.1 a.2.1 a.2.2 h
def aoq (s:Str)(i:Int):Pg Int:=.ix i (List.length s) (.br (decide ((↑(List.getD s i.toNat 0).toNat:Int) < 128)) (.ret 1) (.lt (dA .i64 (i+1)) fun a=> .cut (fun(g:Bool)=> .br g (.ret 2) (.lt (DC s (dA .i64 (i+2)) 1) fun e=> .lt (dA .i64 (i+2)) fun b=> .cut (fun(k:Bool)=> .br k (.ret 3) (.cut (fun(h:Bool)=> .br h (.ret 3) (.cut (fun(f:Bool)=> .br f (.ret 3) (.lt (DC s b 2) fun d=> .cut (fun(j:Bool)=> .br j (.ret 4) (.lt (uh s a 128 143) fun c=> .br (decide (241<=(↑(List.getD s i.toNat 0).toNat:Int))) (.br (decide ((↑(List.getD s i.toNat 0).toNat:Int)<=243)) (.ob (0<=a/\a<=(↑(List.length s):Int)+1/\(3:Int)<=3/\List.length s<=9223372036854775700) (.br (DC s a 3) (.ret 4) (.br ((↑(List.getD s i.toNat 0).toNat:Int)==244) (.ob (0<=a) (.br c (.ob (0<=b/\ b<=(↑(List.length s):Int)+1/\(2:Int)<=3/\List.length s<=9223372036854775700) (.br d (.ret 4) (.ret 0))) (.ret 0))) (.ret 0)))) (.br ((↑(List.getD s i.toNat 0).toNat:Int)==244) (.ob (0<=a) (.br c (.ob (0<=b/\ b<=(↑(List.length s):Int)+1/\(2:Int)<=3/\List.length s<=9223372036854775700) (.br d (.ret 4) (.ret 0))) (.ret 0))) (.ret 0))) (.br ((↑(List.getD s i.toNat 0).toNat:Int)==244) (.ob (0<=a) (.br c (.ob (0<=b/\ b<=(↑(List.length s):Int)+1/\(2:Int)<=3/\List.length s<=9223372036854775700) (.br d (.ret 4) (.ret 0))) (.ret 0))) (.ret 0)))) (.br ((↑(List.getD s i.toNat 0).toNat:Int)==240) (.ob (0<=a) (.br (uh s a 144 191) (.ob (0<=b/\b<=(↑(List.length s):Int)+1/\(2:Int)<=3/\List.length s<=9223372036854775700) (rl d)) (rl false))) (rl false)))) (.br (decide (225<=(↑(List.getD s i.toNat 0).toNat:Int))) (.br (decide ((↑(List.getD s i.toNat 0).toNat:Int)<=239)) (.br ((↑(List.getD s i.toNat 0).toNat:Int) !=237) (.ob (0<=a/\a<=(↑(List.length s):Int)+1/\(2:Int)<=3/\List.length s<=9223372036854775700) (rl (DC s a 2))) (rl false)) (rl false)) (rl false)))) (.br ((↑(List.getD s i.toNat 0).toNat:Int)==237) (.ob (0<=a) (.br (uh s a 128 159) (.ob (0<=b/\b<=(↑(List.length s):Int)+1/\(1:Int)<=3/\List.length s<=9223372036854775700) (rl e)) (rl false))) (rl false)))) (.br ((↑(List.getD s i.toNat 0).toNat:Int)==224) (.ob (0<=a) (.br (uh s a 160 191) (.ob (0<=b/\b<=(↑(List.length s):Int)+1/\(1:Int)<=3/\List.length s<=9223372036854775700) (rl e)) (rl false))) (rl false)))) (.br (decide (194<=(↑(List.getD s i.toNat 0).toNat:Int))) (.br (decide ((↑(List.getD s i.toNat 0).toNat:Int)<=223)) (.ob (0<=a/\a<=(↑(List.length s):Int)+1/\(1:Int)<=3/\List.length s<=9223372036854775700) (rl (DC s a 1))) (rl false)) (rl false))))
def x_ (s:Str)(i:Int):=(aoq s i).val
theorem asi (s:Str)(i:Int)(h:0<=i/\i < s.length/\s.length<=9223372036854775700):Is (aoq s i):=
 b_ au au (dB iR (fun _=>ni fun n c _=>kX (dB (fun _=>dB (fun _=>aY au (aQ)) iR) iR) (fun r b=>aT iR (fun _=>dI fun w g=>ni fun v p _=>kX (dY (fun _=>aY au (aT (fun _=>aY au (aQ)) iR)) iR) (fun m a=>aT iR (fun _=>kX (dY (fun _=>aY au (aT (fun _=>aY au (aQ)) iR)) iR) (fun l k=>aT iR (fun _=>kX (dB (fun _=>dB (fun _=>iW (fun _=>aY au (aQ)) iR) iR) iR) (fun o e=>aT iR (fun _=>dI fun q d=>kX (dY (fun _=>aY au (aT (fun _=>aY au (aQ)) iR)) iR) (fun u j=>aT iR (fun _=>dI fun f t=>dB (fun _=>dB (fun _=>aY au (aT iR (fun _=>dY (fun _=>aY au (aT (fun _=>aY au (aT iR iR)) iR)) iR))) (fun _=>dY (fun _=>aY au (aT (fun _=>aY au (aT iR iR)) iR)) iR)) (fun _=>dY (fun _=>aY au (aT (fun _=>aY au (aT iR iR)) iR)) iR)))))))))))))
def aBS:aZ Z:=E1 [aCD,XW] [jS 100005 (bI (fun b=>[s0 12]) (l1 aG)),jS 100007 (bI (fun b=>[s0 25]) (l1 aG)),jS 100009 (bI (fun b=>[s0 40]) (l1 aG)),jS 100011 (bI (fun b=>[s0 55]) (l1 aG)),jS 100013 (bI (fun b=>[s0 72]) (l1 aG))] (ak (bC cStr) (a1 (bC cI))) (R1 cI) [] func279 1 (u2 aoq) (fun a=>0<=a.2/\a.2 < a.1.length/\a.1.length<=9223372036854775700) fun a h=>asi a.1 a.2 h
theorem Rq (s:Str)(p:Nat)(a b:Nat):uh s (p:Int) (a:Int) (b:Int)=(OL s p && (decide (a<=byteAt s p) && decide (byteAt s p<=b))):=by
 unfold uh Lp OL byteAt;simp only[bf,eU,iG,aI,xw,Int.ofNat_lt,Int.ofNat_le];cases decide (p < List.length s)<;>cases decide (a<=(s.getD p 0).toNat)<;>rfl
theorem ahG (s:Str)(p:Nat)(h:p+3 < 9223372036854775808):DC s (p:Int) 1=mW s p/\DC s (p:Int) 2=(mW s p && mW s (p+1))/\DC s (p:Int) 3=(mW s p && (mW s (p+1) && mW s (p+2))):=by
 have w:∀k:Nat,k < 3->dA .i64 ((p:Int)+(k:Int))=((p+k:Nat):Int):=fun k g=>by
  rw[dU (k:= .i64) tZ];omega
 have e:∀k:Nat,k < 3->uh s (dA .i64 ((p:Int)+(k:Int))) 128 191=mW s (p+k):=fun k g=>by
  rw[w k g];exact Rq s (p+k) 128 191
 have a:=e 0 au;have b:=e 1 au;have c:=e 2 au;unfold DC amw;simp only[qC,cZ,bY,bf,aI];simp only[show((0:Nat):Int)=0 from rfl,show((1:Nat):Int)=1 from rfl,show((2:Nat):Int)=2 from rfl]at a b c;have i:((1:Int) - 0).toNat=0+1:=rfl;have j:((2:Int) - 0).toNat=0+1+1:=rfl;have l:((3:Int) - 0).toNat=0+1+1+1:=rfl;have d:(0:Int)+1=1:=rfl;have f:(1:Int)+1=2:=rfl;refine⟨?_,?_,?_⟩
 ·rw[i];simp only[GG,OY,d,f,a,b,c];cases mW s p<;>rfl
 ·rw[j];simp only[GG,OY,d,f,a,b,c];cases mW s p<;>cases mW s (p+1)<;>rfl
 ·rw[l];simp only[GG,OY,d,f,a,b,c];cases mW s p<;>cases mW s (p+1)<;>cases mW s (p+2)<;>rfl
set_option maxHeartbeats 4000000 in
theorem ay5 (s:Str)(p:Nat)(h:p+10 < 9223372036854775808):x_ s (p:Int)=szN (byteAt s p) (byteAt s (p+1)) (OL s (p+1)) (mW s (p+1)) (mW s (p+2)) (mW s (p+3)):=by
 have i:dA .i64 ((p:Int)+1)=((p+1:Nat):Int):=by rw[dU (k:= .i64) tZ];omega
 have o:dA .i64 ((p:Int)+2)=((p+2:Nat):Int):=by rw[dU (k:= .i64) tZ];omega
 obtain⟨a1,a2,l⟩:=ahG s (p+1) au;obtain⟨d1,d2,_⟩:=ahG s (p+2) au;have f:=fun t z=>Rq s (p+1) t z
 have e:=f 160 191;have c:=f 128 159;have b:=f 144 191;have d:=f 128 143;simp only[show((160:Nat):Int)=160 from rfl,show((191:Nat):Int)=191 from rfl,show((128:Nat):Int)=128 from rfl,show((159:Nat):Int)=159 from rfl,show((144:Nat):Int)=144 from rfl,show((143:Nat):Int)=143 from rfl]at e c b d;unfold x_ aoq;simp only[eU,bf,bY,cZ,jk,aI,i,o,a1,a2,l,d1,d2,e,c,b,d,xw,<-byteAt.eq_1];generalize byteAt s p=a;generalize byteAt s (p+1)=b1;generalize OL s (p+1)=u;generalize mW s (p+1)=w;generalize mW s (p+2)=v;generalize mW s (p+3)=x;have m:∀n:Nat,((a:Int)==(n:Int))=decide (a=n):=fun n=>by rw[Qbr];simp only[Qb6,X6];omega
 have r:∀n:Nat,((a:Int) !=(n:Int))=decide (a≠n):=fun n=>by rw[Qbr];simp only[Qdd,X6];omega
 have g:∀n:Nat,decide ((a:Int) < (n:Int))=decide (a < n):=fun n=>by congr 1;rw[eq_iff_iff];omega
 have q:∀n:Nat,decide ((a:Int)<=(n:Int))=decide (a<=n):=fun n=>by congr 1;rw[eq_iff_iff];omega
 have j:∀n:Nat,decide ((n:Int)<=(a:Int))=decide (n<=a):=fun n=>by congr 1;rw[eq_iff_iff];omega
 have y:=fun(n:Nat)=>g n
 simp only[show(128:Int)=((128:Nat):Int)from rfl,show(194:Int)=((194:Nat):Int)from rfl,show(223:Int)=((223:Nat):Int)from rfl,show(224:Int)=((224:Nat):Int)from rfl,show(237:Int)=((237:Nat):Int)from rfl,show(225:Int)=((225:Nat):Int)from rfl,
  show(239:Int)=((239:Nat):Int)from rfl,show(240:Int)=((240:Nat):Int)from rfl,show(241:Int)=((241:Nat):Int)from rfl,show(243:Int)=((243:Nat):Int)from rfl,show(244:Int)=((244:Nat):Int)from rfl,m,r,g,q,j,aiO,jc,uu,mX]
 unfold szN;clear a1 a2 l d1 d2 i o f e c b d m r g q j y h;cases w<;>cases v<;>cases x<;>cases u<;>simp only[Qcu,Bool.false_and,Bool.and_false,Bool.and_true,Bool.and_self,uu,mX,Bool.cond_self,Bool.cond_decide,Qa8,and_true,and_false,true_and,false_and,if_false,<-Bool.decide_and]<;>(repeat' split)<;>first | rfl | omega
theorem apL (s:Str)(p:Nat)(n:p<=s.length):MC (List.drop p (List.take (List.length s) s)) [239,191,189]=true ↔ byteAt s p=239/\byteAt s (p+1)=191/\byteAt s (p+2)=189/\p+2 < s.length:=by
 unfold MC ajZ agM ac8;simp only[aI,bf,bY,iG,Kr];unfold byteAt;have d:∀k,s.getD (p+k) 0=(s.drop p).getD k 0:=fun k=>by simp[List.getD,Qco]
 have i:=d 0;have l:=d 1;have m:=d 2;rw[UX]at i;rw[i,l,m];have a:(s.drop p).length=s.length - p:=Qbs;generalize s.drop p=r at*;have f:∀b:UInt8,b.toNat=239 ↔ b=239:=fun b=>⟨fun h=>Qc6.1 h,fun h=>by rw[h];rfl⟩
 have e:∀b:UInt8,b.toNat=191 ↔ b=191:=fun b=>⟨fun h=>Qc6.1 h,fun h=>by rw[h];rfl⟩
 have c:∀b:UInt8,b.toNat=189 ↔ b=189:=fun b=>⟨fun h=>Qc6.1 h,fun h=>by rw[h];rfl⟩
 rw[f,e,c];rcases r with _ | ⟨x,_ | ⟨y,_ | ⟨z,r⟩⟩⟩
 ·simp[List.getD]at a⊢
 ·simp[List.getD]at a⊢
 ·simp[List.getD]at a⊢
 ·have j:p+2 < s.length:=by simp at a;omega
  simp only[yG,CJ,Qcx,Qd4,j,and_true,Qb3,Qb2];have g:decide (((0+1+1+1:Nat):Int)<=((r.length+1+1+1:Nat):Int))=true:=by simp;omega
  rw[g,uu,Qb6];simp
theorem VF (s:Str)(p:Nat)(w:p < s.length)(x:s.length<=9223372036854775700):
  (x_ s (p:Int)=0->XZ s (p:Int) (tC s p)=true)/\(x_ s (p:Int)≠0->XZ s (p:Int) (tC s p)=false/\(Bq s p:Int)=x_ s (p:Int)/\1<=Bq s p/\Bq s p<=4):=by
 have f:∀q,mW s q=true->128<=byteAt s q/\byteAt s q<=191:=fun q a=>by
  unfold mW at a;simp only[kW,X6]at a;exact a.2
 have e:=aLw (byteAt s p) (byteAt s (p+1)) (byteAt s (p+2)) (byteAt s (p+3)) (OL s (p+1)) (mW s (p+1)) (mW s (p+2)) (mW s (p+3)) rfl (f _) (f _) (Qdr _);have b:=apL s p au;have l:∀q,mW s q=true->q < s.length:=fun q a=>by
  unfold mW OL at a;simp only[kW,X6]at a;exact a.1
 have r:XZ s (p:Int) (tC s p)=(decide ((dcN (byteAt s p) (byteAt s (p+1)) (byteAt s (p+2)) (byteAt s (p+3)) (mW s (p+1)) (mW s (p+2)) (mW s (p+3))).1=65533) && !MC (List.drop p (List.take (List.length s) s)) [239,191,189]):=by
  unfold XZ wrong tC;rw[Tt];generalize (dcN _ _ _ _ _ _ _).1=n;simp only[bf,bY,aI,xw];by_cases h:n=65533
  ·subst h;rfl
  ·have:(((n:Nat):Int)==65533)=false:=by rw[Qbu];omega
   rw[this,qM h];rfl
 rw[ay5 s p au,r];refine⟨fun h=> ?_,fun h=> ?_⟩
 ·obtain⟨i,j⟩:=e.1 h;rw[i];have:¬MC (List.drop p (List.take (List.length s) s)) [239,191,189]=true:=fun t=>by
   obtain⟨k,c,d,o⟩:=b.1 t;refine j ⟨k,c,d,?_,?_⟩
   ·unfold mW OL;rw[c];simp;omega
   ·unfold mW OL;rw[d];simp;omega
  rw[Qdv]at this;rw[this];rfl
 ·obtain⟨i,j⟩:=e.2 h;have g:(Bq s p:Int)=szN (byteAt s p) (byteAt s (p+1)) (OL s (p+1)) (mW s (p+1)) (mW s (p+2)) (mW s (p+3)):=by
   unfold Bq;rw[Tt];exact j
  refine⟨?_,g,?_⟩
  ·by_cases m:(dcN (byteAt s p) (byteAt s (p+1)) (byteAt s (p+2)) (byteAt s (p+3)) (mW s (p+1)) (mW s (p+2)) (mW s (p+3))).1=65533
   ·obtain⟨k,c,d,o,u⟩:=i m;rw[b.2 ⟨k,c,d,l _ u⟩];simp
   ·rw[qM m];rfl
  ·have v:szN (byteAt s p) (byteAt s (p+1)) (OL s (p+1)) (mW s (p+1)) (mW s (p+2)) (mW s (p+3))<=4/\0<=szN (byteAt s p) (byteAt s (p+1)) (OL s (p+1)) (mW s (p+1)) (mW s (p+2)) (mW s (p+3)):=by
    unfold szN;(repeat' split)<;>omega
   rw[<-g]at v h;omega
def aBc (s:Str):Pg Int:=.wh (s.length+1) default (fun(a:Int)=> .as (List.length s<=9223372036854775807) (.br (decide (a < (↑(List.length s):Int))) (.ob (0<=a/\a < (↑(List.length s):Int)/\List.length s<=9223372036854775700) (.lt (x_ s a) fun b=> .br (b==0) (.ret (.inr a)) (rl (dA .i64 (a+b))))) (.ret (.inr (-1))))) 0
def afW (s:Str):=(aBc s).val
theorem aAW (s:Str)(h:s.length<=9223372036854775700):Is (aBc s):=
 by
 refine Ep (fun x=>0<=x/\x<=s.length+4) (fun x=>s.length - x.toNat) ⟨by omega,by omega⟩ au (fun x j=>⟨gp fun _=>dB (fun _=>aY au (dI fun n i=>dY iR iR)) iR,fun l c=> ?_⟩);revert c;simp only[iG,bf,bY,cZ,aI];by_cases a:x < (s.length:Int)
 ·obtain⟨p,rfl⟩:∃p:Nat,x=p:=⟨x.toNat,by omega⟩;have d:=VF s p au h;by_cases b:x_ s (p:Int)=0
  ·simp[a,b]
  ·obtain⟨_,f,m,o⟩:=d.2 b;have g:(x_ s (p:Int)==0)=false:=by simpa using b
   simp only[a,decide_true,uu,g,mX];intro e;injection e with e
   rw[<-f,dU (k:= .i64) tZ]at e;subst e;omega
 ·simp[a]
def aIN:aZ Z:=E1 [aBS] [jS 2 (bI (fun b=>[s0 3]) (l1 cI))] (a1 (bC cStr)) (R1 cI) [] func193 1 aBc (fun a=>a.length<=9223372036854775700) fun a h=>aAW a h
def bad (s:Str):Pg Int:=.wh (s.length+1) default (fun(a:List UInt8×Int)=> .br (decide (a.2.toNat < a.1.length)) (.ob (0<=(↑a.2.toNat:Int)/\(↑a.2.toNat:Int)<=(↑(List.length s):Int)) (.br (XZ s (↑a.2.toNat:Int) (tC a.1 a.2.toNat)) (.ret (.inr (↑a.2.toNat:Int))) (rl (a.1,(↑(a.2.toNat+Bq a.1 a.2.toNat):Int))))) (.ret (.inr (-1)))) (s,0)
theorem bad_eq (s:Str)(h:s.length<=9223372036854775700):(bad s).val=afW s:=by
 unfold bad afW aBc;rw[tq,tq]
 suffices d:∀(n p:Nat),RV _ default n (s,(p:Int))=RV _ default n (p:Int)from d (s.length+1) 0
 intro n;induction n with
 | zero=>intro p;rfl
 | succ n g=>
  intro p;simp only[RV,iG,bf,bY,cZ,aI,xw];by_cases b:p < s.length
  ·have c:(p:Int) < (s.length:Int):=by omega
   have e:=VF s p b h;simp only[b,c,decide_true,uu];by_cases a:x_ s (p:Int)=0
   ·rw[e.1 a,a];rfl
   ·obtain⟨j,i,l,m⟩:=e.2 a;have f:(x_ s (p:Int)==0)=false:=by simpa using a
    rw[j,f];simp only[mX];rw[<-i,dU (k:= .i64) tZ];exact g (p+Bq s p)
  ·have c:¬(p:Int) < (s.length:Int):=by omega
   simp only[b,c,decide_false,mX]
theorem aGl (s:Str)(h:s.length<=9223372036854775700):Is (bad s):=
 by
 refine Ep (fun x=>x.1=s/\0<=x.2) (fun x=>s.length - x.2.toNat) ⟨rfl,by omega⟩ au (fun x c=>⟨dB (fun i=>aY (by rw[c.1]at*;omega) (aT iR iR)) iR,fun j f=> ?_⟩);obtain⟨t,x⟩:=x;obtain⟨rfl,m⟩:=c;revert f;simp only[bf,bY,aI];by_cases a:x.toNat < t.length
 ·have b:=VF t x.toNat a h;by_cases d:x_ t (x.toNat:Int)=0
  ·rw[b.1 d];simp[a]
  ·obtain⟨g,l,k,n⟩:=b.2 d;rw[g];simp only[a,decide_true,uu,mX];intro e;injection e with e
   subst e;exact⟨⟨rfl,by omega⟩,by simp only[xw];omega⟩
 ·simp[a]
def aK2:aZ Z:=E2 [aCv] [jS 2 (bI (fun b=>[.iter (pid (b 6))]) (l1 (di cStr cI)))] (a1 (bC cStr)) (R1 cI) [] func149 1 bad (fun a=>some (a.length<=9223372036854775700)) (fun a=>afW a) fun a h=>⟨aGl a h,bad_eq a h⟩
def awg (s:Str):Pg Bool:=.ob (List.length s<=9223372036854775700) (.lt (afW s) fun a=> .ret (decide (a < 0)))
def Ae (s:Str):=(awg s).val
def BI:aZ Z:=E1 [aK2] [] (a1 (bC cStr)) (R1 aG) [] func84 1 awg fun a=>a.length<=9223372036854775700
def ale (s:Str):Pg Bool:=.ob (List.length s<=9223372036854775700) (.lt (afW s) fun a=> .ret (decide (a < 0)))
def aeG (s:Str):=(ale s).val
theorem apm (s:Str)(h:s.length<=9223372036854775700):Is (ale s):=
 aY h (dI fun _ _=>aQ)
def afZ:aZ Z:=E1 [aIN] [] (a1 (bC cStr)) (R1 aG) [] func127 1 ale (fun a=>a.length<=9223372036854775700) fun a h=>apm a h
def isKey (s:Str):Pg Bool:=.br (s !=[]) (.br (decide ((↑(List.length s):Int)<=40)) (.ob ([97,98,99,100,101,102,103,104,105,106,107, 108,109,110,111,112,113,114,115,116,117,118, 119,120,121,122,48,49,50,51,52,53,54, 55,56,57,45]= csK/\ List.length s<=9223372036854775807) (.ret (List.dropWhile agn (List.dropWhile agn (List.reverse s)).reverse==[]))) (.ret false)) (.ret false)
def aGP (s:Str):=(isKey s).val
theorem atF (s:Str)(h:s.length<=9223372036854775700):Is (isKey s):=
 aT (fun _=>dB (fun _=>aY ((⟨rfl,by omega⟩)) (aQ)) iR) iR
def aCG:aZ Z:=E1 [aBb] [] (a1 (bC cStr)) (R1 aG) [] func83 1 isKey (fun a=>a.length<=9223372036854775700) fun a h=>atF a h
def entry (b:Str)(a:Str):Pg Int:=.ob (List.length b<=9223372036854775700) (.br (!aGP b) (.ret 8) (.br (decide (200 < (↑(List.length a):Int))) (.ret 3) (.ob (List.length a<=9223372036854775700) (.br (!Ae a) (.ret 7) (.ret 0)))))
def auS (a:Str)(b:Str):=(entry a b).val
def anE:aZ Z:=E1 [aCG,BI] [] (ak (bC cStr) (a1 (bC cStr))) (R1 cI) [] func38 1 (u2 entry) fun a=>a.1.length<=9223372036854775700
def check (l:List jA):Pg Int:=.br (decide (8 < (↑l.length:Int))) (.ret 3) (aL l (.each false uj l uQ (fun c a (d:Unit)=> .ix c l.length (.br (!aDs a) (.ret (.inr 1)) (.lt (auS a.Key a.Val) fun b=> .br (a.Kind==1) (.ob (List.length a.Key<=9223372036854775700) (.br (b !=0) (.ret (.inr b)) (rl ()))) (.br (a.Kind==4) (.ob (List.length a.Key<=9223372036854775700) (.br (b !=0) (.ret (.inr b)) (rl ()))) (rl ()))))) (fun c (d:Unit)=> .ret 0) ()))
def aGK (l:List jA):=(check l).val
def Iw (l:List jA):Prop:=∀x∈l,x.Key.length<=1048576
theorem avk (l:List jA)(h:Iw l):Is (check l):=
 dB iR (fun _=>gp fun _=>gU (.inr au) (fun i1 a _ _=>b_ au au (aT iR (fun _=>dI fun c b=>dY (fun _=>aY qce (iW iR iR)) (fun _=>dY (fun _=>aY qce (iW iR iR)) iR)))) (fun a _=>aQ))
def aCN:aZ Z:=E1 [aws,anE] [jS 4 (bI (fun b=>[s0 11]) (l1 cI))] (a1 (bC rC)) (R1 cI) [] func18 1 check (fun a=>Iw a) fun a h=>avk a h
def pcB (c:UInt8):Bool:=(decide (97<=c.toNat) && decide (c.toNat<=122)) || (decide (65<=c.toNat) && decide (c.toNat<=90))
def pnB (c:UInt8):Bool:=pcB c || (decide (48<=c.toNat) && decide (c.toNat<=57)) || decide (c.toNat=95)
def MI (s:Str):Bool:=decide (s.length<=40) && match s with
 | []=>false
 | c::r=>pcB c && r.all pnB
theorem aoH (c:UInt8):pcB c=true ↔ (97<=c.toNat/\c.toNat<=122)\/(65<=c.toNat/\c.toNat<=90):=by
 unfold pcB;simp only[Qa9,kW,X6]
theorem aos (c:UInt8):pnB c=true ↔ ((97<=c.toNat/\c.toNat<=122)\/(65<=c.toNat/\c.toNat<=90))\/(48<=c.toNat/\c.toNat<=57)\/c.toNat=95:=by
 unfold pnB;simp only[Qa9,kW,X6,aoH,or_assoc]
theorem aoJ {s:Str}{p:Nat}(h:byteAt s p < 128):tC s p=(byteAt s p:Int)/\Bq s p=1:=by
 unfold tC Bq;rw[Tt];unfold dcN;rw[yY h];exact⟨rfl,rfl⟩
theorem axN {s:Str}{p:Nat}(h:128<=byteAt s p):128<=tC s p:=by
 unfold tC;rw[Tt];unfold dcN;rw[yc au];have c:∀(a b:Prop) [Decidable a] [Decidable b] (x y z:Nat×Nat),128<=x.1->128<=y.1->128<=z.1->True:=fun _ _ _ _ _ _ _ _ _ _=>trivial
 (repeat' split)<;>simp_all<;>omega
def cls (c:Int):Pg Int:=.br (decide (97<=c)) (.br (decide (c<=122)) (.ret 1) (.br (decide (65<=c)) (.br (decide (c<=90)) (.ret 2) (.br (decide (48<=c)) (.br (decide (c<=57)) (.ret 3) (.br (c==95) (.ret 4) (.ret 0))) (.br (c==95) (.ret 4) (.ret 0)))) (.br (decide (48<=c)) (.br (decide (c<=57)) (.ret 3) (.br (c==95) (.ret 4) (.ret 0))) (.br (c==95) (.ret 4) (.ret 0))))) (.br (decide (65<=c)) (.br (decide (c<=90)) (.ret 2) (.br (decide (48<=c)) (.br (decide (c<=57)) (.ret 3) (.br (c==95) (.ret 4) (.ret 0))) (.br (c==95) (.ret 4) (.ret 0)))) (.br (decide (48<=c)) (.br (decide (c<=57)) (.ret 3) (.br (c==95) (.ret 4) (.ret 0))) (.br (c==95) (.ret 4) (.ret 0))))
def BP (c:Int):=(cls c).val
def aJO:aZ Z:=E0 [] [] (a1 (bC (h_ .i32))) (R1 cI) [] func76 1 cls
theorem aCb (c:Int):BP c=if 97<=c/\c<=122 then 1 else if 65<=c/\c<=90 then 2 else if 48<=c/\c<=57 then 3 else if c=95 then 4 else 0:=by
 unfold BP cls;simp only[bf,aI,Qa6,X6,Qb6];(repeat' split)<;>first | rfl | omega
theorem Oa (s:Str)(p:Nat):(BP (tC s p)=0 ↔ pnB (s.getD p 0)=false)/\((BP (tC s p)=1\/BP (tC s p)=2) ↔ pcB (s.getD p 0)=true):=by
 have e:=aoH (s.getD p 0);have d:=aos (s.getD p 0);rw[aCb,Bool.eq_false_iff,ne_eq,e,d];have a:byteAt s p=(s.getD p 0).toNat:=rfl;by_cases h:byteAt s p < 128
 ·rw[(aoJ h).1,a];generalize (s.getD p 0).toNat=b;(repeat' split)<;>omega
 ·have:=axN (s:=s) (p:=p) au;rw[a]at h;generalize (s.getD p 0).toNat=b at*;generalize tC s p=c at*;(repeat' split)<;>omega
theorem WU {s:Str}{p:Nat}(h:pnB (s.getD p 0)=true):Bq s p=1:=by
 have:=(aos _).1 h;exact(aoJ (s:=s) (p:=p) (by show(s.getD p 0).toNat < 128;omega)).2
theorem aMh {c:UInt8}(h:pcB c=true):pnB c=true:=by unfold pnB;rw[h];rfl
theorem awo {s:Str}{p:Nat}(h:p < s.length):s.drop p=s.getD p 0::s.drop (p+1):=by
 rw[Qb h];simp[List.getD,h]
def aoR (s:Str):Pg Bool:=.wh (s.length+1) default (fun(a:List UInt8×Int)=> .br (decide (a.2.toNat < a.1.length)) (.lt (BP (tC a.1 a.2.toNat)) fun b=> .br (b==0) (.ret (.inr false)) (.br ((↑a.2.toNat:Int)==0) (.br (b !=1) (.br (b !=2) (.ret (.inr false)) (rl (a.1,(↑(a.2.toNat+Bq a.1 a.2.toNat):Int)))) (rl (a.1,(↑(a.2.toNat+Bq a.1 a.2.toNat):Int)))) (rl (a.1,(↑(a.2.toNat+Bq a.1 a.2.toNat):Int))))) (.br (decide (1<=(↑(List.length s):Int))) (.ret (.inr (decide ((↑(List.length s):Int)<=40)))) (.ret (.inr false)))) (s,0)
def Jw (s:Str):=(aoR s).val
theorem atM (s:Str):Is (aoR s):=
 by
 refine Ep (fun x=>x.1=s/\0<=x.2) (fun x=>s.length - x.2.toNat) ⟨rfl,by omega⟩ qb (fun x f=>⟨dB (fun _=>dI fun l k=>dY iR (fun _=>dY (fun _=>iW (fun _=>iW iR iR) iR) iR)) (fun _=>dB iR iR),fun g a=> ?_⟩);obtain⟨t,x⟩:=x;obtain⟨rfl,i⟩:=f;dsimp only at i a⊢;revert a;simp only[bf,cZ,aI];by_cases c:x.toNat < t.length
 ·rw[rY c,uu];by_cases b:BP (tC t x.toNat)=0
  ·rw[b];intro e;cases e
  ·have j:pnB (t.getD x.toNat 0)=true:=by
    rw[<-Bool.not_eq_false];exact fun e=>b ((Oa t x.toNat).1.2 e)
   have d:=WU j;have:(BP (tC t x.toNat)==0)=false:=by simpa using b
   rw[this,mX,d];intro e;have h:g=(t,((x.toNat+1:Nat):Int)):=by
    revert e;cases((x.toNat:Int)==0)<;>cases(BP (tC t x.toNat) !=1)<;>cases(BP (tC t x.toNat) !=2)<;>simp only[uu,mX]<;>intro e<;>first | (cases e;rfl) | (cases e;done)
   subst h;exact⟨⟨rfl,by omega⟩,by show t.length - (((x.toNat+1:Nat):Int)).toNat < _;omega⟩
 ·rw[qM c,mX];intro e;revert e;cases decide ((1:Int)<=(t.length:Int))<;>intro e<;>cases e
def Uk:aZ Z:=E0 [aJO] [jS 2 (bI (fun b=>[.iter (pid (b 7))]) (l1 (di cStr cI)))] (a1 (bC cStr)) (R1 aG) [] func35 1 aoR fun a=>atM a
theorem ahD (s:Str):Jw s=MI s:=by
 have g:∀(m p:Nat),1<=p->p<=s.length->s.length - p < m->RV (fun(a:List UInt8×Int)=>bif decide (a.2.toNat < a.1.length)then(bif BP (tC a.1 a.2.toNat)==0 then(Sum.inr false:(List UInt8×Int)⊕Bool)else(bif ((a.2.toNat:Nat):Int)==0 then(bif BP (tC a.1 a.2.toNat) !=1 then(bif BP (tC a.1 a.2.toNat) !=2 then .inr false else .inl (a.1,((a.2.toNat+Bq a.1 a.2.toNat:Nat):Int)))else .inl (a.1,((a.2.toNat+Bq a.1 a.2.toNat:Nat):Int)))else .inl (a.1,((a.2.toNat+Bq a.1 a.2.toNat:Nat):Int))))else(bif decide (1<=((s.length:Nat):Int))then .inr (decide (((s.length:Nat):Int)<=40))else .inr false)) default m (s,(p:Int))=((s.drop p).all pnB && decide (s.length<=40)):=by
  intro m;induction m with
  | zero=>intro p _ _ h;omega
  | succ m q=>
   intro p i j t;unfold RV;simp only[xw];by_cases h:p < s.length
   ·rw[rY h,uu,awo h,Qc7];cases b:pnB (s.getD p 0)with
    | false=>
     rw[(Oa s p).1.2 b];rfl
    | true=>
     have:(BP (tC s p)==0)=false:=by
      rw[Qbu];exact fun e=>by rw[(Oa s p).1.1 e]at b;cases b
     have f:((p:Int)==0)=false:=by rw[Qbu];omega
     rw[this,f,WU b];simp only[mX];rw[q (p+1) au au au,Qcu]
   ·have:p=s.length:=by omega
    subst this;rw[qM h,rY (show(1:Int)<=(s.length:Int) by omega),List.drop_length];simp only[mX,uu,List.all_nil,Qcu];congr 1;rw[eq_iff_iff];omega
 unfold Jw aoR;rw[tq];simp only[bf,cZ,aI];unfold MI;cases s with
 | nil=>rfl
 | cons c r=>
  unfold RV;simp only[Int.toNat_zero];rw[rY (show 0 < (c::r).length by simp),uu];have d:=Oa (c::r) 0;have l:(c::r).getD 0 0=c:=rfl;rw[l]at d;cases b:pcB c with
  | false=>
   rw[b]at d;have i:(BP (tC (c::r) 0) !=1)=true:=by
    rw[Qdd];exact fun e=>by have:=d.2.1 (.inl e);cases this
   have j:(BP (tC (c::r) 0) !=2)=true:=by
    rw[Qdd];exact fun e=>by have:=d.2.1 (.inr e);cases this
   rw[i,j];cases BP (tC (c::r) 0)==0<;>simp
  | true=>
   rw[b]at d;have k:=d.2.2 rfl;have o:(BP (tC (c::r) 0)==0)=false:=by rw[Qbu];omega
   have n:Bq (c::r) 0=1:=WU (s:=c::r) (p:=0) (aMh b);have:=g ((c::r).length) 1 au qb qb;have f:(((0:Nat):Int)==0)=true:=rfl;rw[o,n,f];have e:(bif BP (tC (c::r) 0) !=1 then(bif BP (tC (c::r) 0) !=2 then(Sum.inr false:(List UInt8×Int)⊕Bool)else .inl (c::r,((0+1:Nat):Int)))else .inl (c::r,((0+1:Nat):Int)))= .inl (c::r,((1:Nat):Int)):=by
    rcases k with h | h
    ·rw[h];rfl
    ·rw[h];rfl
   simp only[mX,uu];rw[e];refine this.trans ?_;rw[Qcu,Bool.and_comm];rfl
def TN (b:Int):Pg Bool:=.br (decide (97<=b)) (.ret (decide (b<=122))) (.ret false)
def wK (b:Int):=(TN b).val
theorem ajY (b:Int):Is (TN b):=
 dB iR iR
def arC:aZ Z:=E0 [] [] (a1 (bC (h_ .u8))) (R1 aG) [] func270 1 TN fun a=>ajY a
def aoh (b:Int):Pg Bool:=.br (decide (65<=b)) (.ret (decide (b<=90))) (.ret false)
def F6 (b:Int):=(aoh b).val
theorem auh (b:Int):Is (aoh b):=
 dB iR iR
def aBZ:aZ Z:=E0 [] [] (a1 (bC (h_ .u8))) (R1 aG) [] func271 1 aoh fun a=>auh a
def ad5 (s:Str):Pg Bool:=.br ((↑(List.length s):Int)==0) (.ret false) (.br (decide (40 < (↑(List.length s):Int))) (.ret false) (.ix 0 (List.length s) (.br (!wK (↑(List.getD s 0 0).toNat:Int)) (.ix 0 (List.length s) (.br (!F6 (↑(List.getD s 0 0).toNat:Int)) (.ret false) (.Qp [] (some (List.length s<=9223372036854775807)) uj 1 (↑(List.length s):Int) (fun a (d:Unit)=> .ix a (List.length s) (.br (!wK (↑(List.getD s a.toNat 0).toNat:Int)) (.ix a (List.length s) (.br (!F6 (↑(List.getD s a.toNat 0).toNat:Int)) (.ix a (List.length s) (.br ((↑(List.getD s a.toNat 0).toNat:Int) !=95) (.ix a (List.length s) (.br (decide ((↑(List.getD s a.toNat 0).toNat:Int) < 48)) (.ret (.inr false)) (.ix a (List.length s) (.br (decide (57 < (↑(List.getD s a.toNat 0).toNat:Int))) (.ret (.inr false)) (rl ()))))) (rl ()))) (rl ()))) (rl ()))) (fun a (d:Unit)=> .ret true) ()))) (.Qp [] (some (List.length s<=9223372036854775807)) uj 1 (↑(List.length s):Int) (fun b (c:Unit)=> .ix b (List.length s) (.br (!wK (↑(List.getD s b.toNat 0).toNat:Int)) (.ix b (List.length s) (.br (!F6 (↑(List.getD s b.toNat 0).toNat:Int)) (.ix b (List.length s) (.br ((↑(List.getD s b.toNat 0).toNat:Int) !=95) (.ix b (List.length s) (.br (decide ((↑(List.getD s b.toNat 0).toNat:Int) < 48)) (.ret (.inr false)) (.ix b (List.length s) (.br (decide (57 < (↑(List.getD s b.toNat 0).toNat:Int))) (.ret (.inr false)) (rl ()))))) (rl ()))) (rl ()))) (rl ()))) (fun b (c:Unit)=> .ret true) ()))))
def xG (s:Str):=(ad5 s).val
theorem arc (s:Str):Is (ad5 s):=
 dY iR (fun _=>dB iR (fun _=>b_ au au (aT (fun _=>b_ au au (aT iR (fun _=>zT trivial au (fun h=>by simp only[qW]at h;omega) (fun b d _ _ _=>b_ au au (aT (fun _=>b_ au au (aT (fun _=>b_ au au (iW (fun _=>b_ au au (dB iR (fun _=>b_ au au (dB iR iR)))) iR)) iR)) iR)) (fun b d _ _=>aQ)))) (fun _=>zT trivial au (fun h=>by simp only[qW]at h;omega) (fun c a _ _ _=>b_ au au (aT (fun _=>b_ au au (aT (fun _=>b_ au au (iW (fun _=>b_ au au (dB iR (fun _=>b_ au au (dB iR iR)))) iR)) iR)) iR)) (fun c a _ _=>aQ)))))
def ag6:aZ Z:=E0 [arC,aBZ] [jS 4 (bI (fun b=>[s0 3]) (l1 cI))] (a1 (bC cStr)) (R1 aG) [] func187 1 ad5 fun a=>arc a
theorem aEx (c:UInt8):(wK (c.toNat:Int) || F6 (c.toNat:Int))=pcB c:=by
 unfold wK TN F6 aoh pcB;simp only[bf,aI];rw[Qbr];simp only[Qa6,Qa9,kW,X6];(repeat' split)<;>simp<;>omega
theorem O4 (s:Str):xG s=MI s:=by
 have d:∀(r:Str) (a:List UInt8),o5 (fun(b:Int) (w:Unit)=>bif !wK (((a++r).getD b.toNat 0).toNat:Int)then(bif !F6 (((a++r).getD b.toNat 0).toNat:Int)then(bif (((a++r).getD b.toNat 0).toNat:Int) !=95 then(bif decide ((((a++r).getD b.toNat 0).toNat:Int) < 48)then(Sum.inr false:Unit⊕Bool)else(bif decide (57 < (((a++r).getD b.toNat 0).toNat:Int))then .inr false else .inl ()))else .inl ())else .inl ())else .inl ()) (fun(_:Int) (_:Unit)=>true) r.length (a.length:Int) ()=r.all pnB:=by
  intro r;induction r with
  | nil=>intro a;rfl
  | cons c r t=>
   intro a;rw[yG,GG,Qc7];have e:(a++c::r).getD ((a.length:Int)).toNat 0=c:=by simp[List.getD]
   rw[e];have h:=t (a++[c]);rw[Qbc,um]at h;have q:(((a.length+[c].length:Nat)):Int)=(a.length:Int)+1:=rfl;rw[q]at h;have l:pnB c=(pcB c || (decide (48<=c.toNat) && decide (c.toNat<=57)) || decide (c.toNat=95)):=rfl;have g:=aEx c;rw[<-g]at l;have n:((c.toNat:Int) !=95)= !decide (c.toNat=95):=by rw[Qbr];simp;omega
   have v:decide ((c.toNat:Int) < 48)= !decide (48<=c.toNat):=by rw[Qbr];simp;omega
   have u:decide (57 < (c.toNat:Int))= !decide (c.toNat<=57):=by rw[Qbr];simp;omega
   rw[l,n,v,u];have i:o5 _ _ r.length ((a.length:Int)+1) ()=r.all pnB:=h;cases wK (c.toNat:Int)<;>cases F6 (c.toNat:Int)<;>cases decide (c.toNat=95)<;>cases decide (48<=c.toNat)<;>cases decide (c.toNat<=57)<;>first | rfl | (refine Qcn i ?_;simp)
 unfold xG ad5 MI;simp only[bf,eU,avS,aI];cases s with
 | nil=>rfl
 | cons c r=>
  have p:(((c::r).length:Int)==0)=false:=by rw[Qbu];simp only[yG];omega
  have o:(c::r).getD 0 0=c:=rfl;have f:(((c::r).length:Int) - 1).toNat=r.length:=by simp only[yG];omega
  have g:=d r [c];have m:=aEx c;have j:decide (40 < ((c::r).length:Int))= !decide ((c::r).length<=40):=by rw[Qbr];simp;omega
  rw[p,o,f,j];have k:o5 _ _ r.length 1 ()=r.all pnB:=g;dsimp only;cases decide ((c::r).length<=40)with
  | false=>rfl
  | true=>
   simp only[Qbm,mX,Qcu];rw[<-m];cases wK (c.toNat:Int)<;>cases F6 (c.toNat:Int)<;>first | rfl | (refine Qcn k ?_;simp)
def aeU (s:Str):Pg Bool:=.br (decide (120 < (↑(List.length s):Int))) (.ret false) (.each true oZ s 0 (fun a d (b:List UInt8)=> .ix a (List.length s) (.br ((↑d.toNat:Int) !=46) (.lt (dA .i64 (a+1)) fun c=> .ob (0<=a/\a<=c/\c<=(↑(List.length s):Int)) (.ob (b.length+(List.drop a.toNat (List.take c.toNat s)).length<=9223372036854775807) (rl (b++List.drop a.toNat (List.take c.toNat s))))) (.br (!xG b) (.ret (.inr false)) (.ret (.inl []))))) (fun a (b:List UInt8)=> .ret (xG b)) [])
def Ky (s:Str):=(aeU s).val
theorem aqn (s:Str):Is (aeU s):=
 by
 refine dB iR fun j=>BC (fun k y=>y.length<=k) (nO _) (.inl rfl) (fun a b l m d=> ?_) (fun b _ _=>aQ);have d:b.length<=a:=d;have w:dA .i64 ((a:Int)+1)=((a+1:Nat):Int):=ru au;rw[w];have c:(List.drop a (List.take (a+1) s)).length=1:=by rw[Qbs,QA];omega
 refine⟨b_ au au (iW (fun _=>dI fun i g=>aY au (aY (by subst g;rw[xw,xw,c];omega) aQ)) (fun _=>aT iR iR)),fun h f=> ?_⟩;revert f;simp only[eU,bf,cZ,bY,aI,xw];show _->h.length<=a+1
 cases((s.getD a 0).toNat:Int) !=46<;>cases !xG b<;>simp only[uu,mX]<;>intro e<;>first | (cases e;simp only[um,CJ,c];omega) | (cases e;done)
def auR:aZ Z:=E0 [ag6] [jS 5 (bI (fun b=>[s0 4, s0 3]) (aB cI (l1 cStr)))] (a1 (bC cStr)) (R1 aG) [] func184 1 aeU fun a=>aqn a
theorem aak (s:Str):Ky s=(decide (s.length<=120) && (iU 46 s).all MI):=by
 have i:∀(r a:Str) (y:List UInt8),(a++r).length<=9223372036854775000->mJ (fun(k:Nat) (n:UInt8) (d:List UInt8)=>bif (n.toNat:Int) !=46 then(Sum.inl (d++List.drop k (List.take (dA .i64 ((k:Int)+1)).toNat (a++r))):List UInt8⊕Bool)else(bif !xG d then .inr false else .inl [])) (fun _ d=>xG d) r a.length y=(headB y (iU 46 r)).all MI:=by
  intro r;induction r with
  | nil=>
   intro a y _;show xG y=_
   rw[O4];simp[iU,headB]
  | cons c r q=>
   intro a y l;unfold mJ;have j:a.length < 9223372036854775807:=by rw[um,yG]at l;omega
   have p:(dA .i64 ((a.length:Int)+1)).toNat=a.length+1:=by rw[ru j];rfl
   have o:List.drop a.length (List.take (dA .i64 ((a.length:Int)+1)).toNat (a++c::r))=[c]:=by
    rw[p,List.take_append];simp
   have g:=fun y=>q (a++[c]) y (by simpa using l)
   simp only[Qbc,Qbp,Qch]at g;have t:(a++[c]).length=a.length+1:=by simp
   rw[t]at g;rw[o];cases f:c==46 with
   | false=>
    have b:((c.toNat:Int) !=46)=true:=by
     rw[Qdd];intro e;have:c=46:=Qc6.1 (by have:(46:UInt8).toNat=46:=rfl;omega);subst this;simp at f
    rw[b,uu,aj6 46 c r y f];exact g (y++[c])
   | true=>
    have u:=eq_of_beq f;subst u;have b:(((46:UInt8).toNat:Int) !=46)=false:=rfl;rw[b,mX,yK f,O4];cases m:MI y with
    | false=>simp[headB,m]
    | true=>
     have:=g [];rw[abA (PE 46 r)]at this;simp only[Qbm,mX];rw[this];simp[headB,m]
 unfold Ky aeU;simp only[bf,jD,eU,cZ,bY,aI,xw];by_cases h:s.length<=120
 ·rw[rY h,qM (show ¬(120:Int) < (s.length:Int) by omega),mX,Qcu];have:=i s [] [] (by rw[Qch];omega);rw[abA (PE 46 s)]at this;exact this
 ·rw[qM h,rY (show(120:Int) < (s.length:Int) by omega)];rfl
def wH:Str:=[46]
def anK (s:Str):Pg Int:=.as (List.length wH<=9223372036854775807) (.br (wH==s) (.ret 0) (.ix 0 (List.length wH) (.ret (Lib.indexByte s (List.getD wH 0 0).toNat.toUInt8))))
def adD (s:Str):=(anK s).val
theorem av1 (s:Str):Is (anK s):=
 gp fun _=>aT iR (fun _=>b_ mi mi aQ)
def al7:aZ Z:=vF Z [QF] [jS 15 (bI (fun c=>[s0 8, s0 10]) (aB cI (l1 cI)))] (args (ak (bC cStr) (a1 (bC cStr)))) (lJ (n:=143) rfl) (R1 cI) [] func144 ntmps144 eQ 1 rfl (fun a=>anK (a.1)) (fun a=>some (a.2=wH)) (fun⟨s,p⟩ e h=>by have b:p=wH:=h;subst b;show _=_;kernel_rfl) (fun a=>adD (a.1)) (fun a h=>⟨av1 (a.1),rfl⟩)
theorem ayB (s:Str):adD s=Lib.indexByte s 46:=by
 unfold adD anK;simp only[iG,jk,bf,bY,aI];by_cases h:wH=s
 ·subst h;rfl
 ·have:(wH==s)=false:=by simpa using h
  rw[this];rfl
theorem ad7:((List.length wH:Nat):Int)=1:=rfl
def aKS (s:Str):Pg Int:=.ob (wH=wH) (.ret (adD s))
theorem aDu (s:Str):Is (aKS s):=
 aY rfl aQ
def aIG:aZ Z:=vF Z [al7] [] (args (ak (bC cStr) (a1 (bC cStr)))) (lJ (n:=8) rfl) (R1 cI) [] func216 ntmps216 eQ 1 rfl (fun a=>aKS (a.1)) (fun a=>some (a.2=wH)) (fun⟨s,p⟩ e h=>by have b:p=wH:=h;subst b;show _=_;kernel_rfl) (fun a=>Lib.indexByte (a.1) 46) (fun a h=>⟨aDu (a.1),ayB (a.1)⟩)
def aeZ (i:Int)(y:List UInt8×List Str):(List UInt8×List Str)⊕((List UInt8×Int×List Str)⊕List Str):=
 bif decide (Lib.indexByte y.1 46 < 0)then .inr (.inl (y.1,i,y.2))else .inl (List.drop (dA .i64 (Lib.indexByte y.1 46+1)).toNat (List.take y.1.length y.1),y.2.set i.toNat (List.take (dA .i64 (Lib.indexByte y.1 46+0)).toNat y.1))
def aEN (i:Int)(y:List UInt8×List Str):(List UInt8×Int×List Str)⊕List Str:= .inl (y.1,i,y.2)
theorem aaK {r:Str}(g:r.length<=4294967296)(h:0 < Lib.countByte r 46):∃m:Nat,Lib.indexByte r 46=(m:Int)/\m < r.length/\iU 46 r=r.take m::iU 46 (r.drop (m+1))/\Lib.countByte r 46=Lib.countByte (r.drop (m+1)) 46+1:=by
 have f:=Lib.indexByte_ge r 46;by_cases b:Lib.indexByte r 46= -1
 ·have:=(JZ b).2;omega
 ·obtain⟨m,a⟩:∃m:Nat,Lib.indexByte r 46=(m:Int):=⟨(Lib.indexByte r 46).toNat,by omega⟩;obtain⟨d,c,e⟩:=Jv a;exact⟨m,a,d,c,e⟩
theorem aCk {r:Str}{a:List Str}{i:Nat}(f:r.length<=4294967296)(h:0 < Lib.countByte r 46):∃m:Nat,aeZ (i:Int) (r,a)= .inl (r.drop (m+1),a.set i (r.take m))/\iU 46 r=r.take m::iU 46 (r.drop (m+1))/\Lib.countByte r 46=Lib.countByte (r.drop (m+1)) 46+1:=by
 obtain⟨m,d,j,e,g⟩:=aaK f h;refine⟨m,?_,e,g⟩;unfold aeZ;have b:dA .i64 ((m:Int)+1)=((m+1:Nat):Int):=ru au;have c:dA .i64 ((m:Int)+0)=((m:Nat):Int):=by rw[Int.add_zero,dU (k:= .i64) tZ]
 rw[d,b,c,qM (show ¬(m:Int) < 0 by omega),mX,Kr,xw,xw,xw]
theorem adC:∀(n i:Nat) (r:Str) (a:List Str),Lib.countByte r 46=n->a.length=i+n+1->r.length<=4294967296->∃f d,o5 aeZ aEN n (i:Int) (r,a)= .inl (f,((i+n:Nat):Int),d)/\d.length=i+n+1/\d.take (i+n)++[f]=a.take i++iU 46 r
 | 0,i,r,a,q,g,k=>by
  have b:Lib.indexByte r 46= -1:=by
   have u:=Lib.indexByte_ge r 46;by_cases b:Lib.indexByte r 46= -1
   ·exact b
   ·obtain⟨_,_,t⟩:=Jv (s:=r) (c:=46) (m:=(Lib.indexByte r 46).toNat) au;omega
  exact⟨r,a,rfl,g,by rw[(JZ b).1];rfl⟩
 | n+1,i,r,a,q,g,k=>by
  obtain⟨m,o,p,t⟩:=aCk (a:=a) (i:=i) k au;have j:(r.drop (m+1)).length<=4294967296:=by rw[Qbs];omega
  obtain⟨f,d,b,v,l⟩:=adC n (i+1) (r.drop (m+1)) (a.set i (r.take m)) au (by rw[Qbo];omega) j;refine⟨f,d,?_,by omega,?_⟩
  ·unfold o5;rw[o];have e:((i:Int)+1)=((i+1:Nat):Int):=rfl;rw[e];simp only;rw[b,show i+1+n=i+(n+1) by omega]
  ·rw[show i+(n+1)=i+1+n by omega,l,p];have:(a.set i (r.take m)).take (i+1)=a.take i++[r.take m]:=by
    rw[Qd9,List.take_add_one,Qay au];have h:(a.take i).length=i:=by rw[QA];omega
    simp only[Option.toList_some];rw[Qdt _ _ au,h,Nat.sub_self];rfl
   rw[this,Qbc];rfl
theorem aKr (s:Str)(h:s.length<=4294967296):min (dA .i64 ((Lib.countByte s 46:Int)+1)) (dA .i64 ((s.length:Int)+1))=((Lib.countByte s 46+1:Nat):Int)/\dA .i64 (((Lib.countByte s 46+1:Nat):Int) - 1)=((Lib.countByte s 46:Nat):Int):=by
 have c:=count_le 46 s;have a:dA .i64 ((Lib.countByte s 46:Int)+1)=((Lib.countByte s 46+1:Nat):Int):=ru au;have b:dA .i64 ((s.length:Int)+1)=((s.length+1:Nat):Int):=ru au;rw[a,b,dU (k:= .i64) tZ];omega
def aeu (s:Str):Pg (List Str):=.cut (fun(c:Int)=> .lt (dA .i64 ((↑(List.length s):Int)+1)) fun d=> .ob (min c d=min c d/\0<=min c d/\min c d*(16:Int)<=281474976710656/\min c d<=1099511627776) (.cut (fun(b:List UInt8×Int×List Str)=> .ix b.2.1 b.2.2.length (.ob (b.2.1.toNat < b.2.2.length) (.lt (b.2.2.set b.2.1.toNat b.1) fun i=> .lt (dA .i64 (b.2.1+1)) fun g=> .ob ((0:Int)<=0/\0<=g/\g<=(↑i.length:Int)) (.ret (List.take g.toNat i))))) (.lt (dA .i64 (min c d - 1)) fun j=> .cnt oZ 0 j (fun e (a:List UInt8×List Str)=> .ob (wH=wH) (.br (decide (Lib.indexByte a.1 46 < 0)) (.ret (.inr (.inl (a.1,e,a.2)))) (.lt (dA .i64 (Lib.indexByte a.1 46+0)) fun h=> .ob ((0:Int)<=0/\0<=h/\h<=(↑a.1.length:Int)) (.ix e a.2.length (.ob (e.toNat < a.2.length) (.lt (dA .i64 (Lib.indexByte a.1 46+(↑(List.length wH):Int))) fun f=> .ob (0<=f/\f<=(↑a.1.length:Int)/\(↑a.1.length:Int)<=(↑a.1.length:Int)) (.as (List.length wH<=9223372036854775807) (rl (List.drop f.toNat (List.take a.1.length a.1),a.2.set e.toNat (List.take h.toNat a.1)))))))))) (fun e (a:List UInt8×List Str)=> rl (a.1,e,a.2)) (s,List.replicate (min c d).toNat [])))) (rl (dA .i64 ((↑(Lib.countByte s 46):Int)+1)))
def TI (s:Str):=(aeu s).val
theorem aqL (s:Str)(h:s.length<=4294967296):Is (aeu s):=
 by
 obtain⟨z,o⟩:=aKr s h;have H:=count_le 46 s;refine kX aQ (fun E a=> ?_);have a:dA .i64 ((Lib.countByte s 46:Int)+1)=E:=by injection a
 subst a;refine dI fun O l=> ?_;subst l;rw[z];refine aY ⟨rfl,by omega,by omega,by omega⟩ (kX (dI fun Q A=> ?_) fun v d=> ?_)
 ·subst A;rw[o];refine Hm (fun i y=>0<=i/\y.2.length=Lib.countByte s 46+1/\(Lib.countByte y.1 46:Int)=(Lib.countByte s 46:Int) - i/\y.1.length<=s.length) ⟨by omega,by rw[Qcq];omega,by show(Lib.countByte s 46:Int)=_;omega,nO _⟩ au au (fun D b n G q=> ?_) (fun D b _ _ _=>aQ);obtain⟨V,F,K,U⟩:=q;obtain⟨m,t,L,X,R⟩:=aaK (r:=b.1) au au;have p:dA .i64 ((m:Int)+1)=((m+1:Nat):Int):=ru au;have x:dA .i64 ((m:Int)+0)=((m:Nat):Int):=by rw[Int.add_zero,dU (k:= .i64) tZ]
  rw[t];rw[ad7,p,x];refine⟨aY rfl (dB iR (fun _=>dI fun I P=>aY au (b_ au au (aY au (dI fun J M=>aY au (gp fun _=>aQ)))))),fun W f=> ?_⟩
  ·revert f;simp only[bY,cZ,bf,eU,iG,aI];rw[qM (show ¬(m:Int) < 0 by omega),mX,Kr];intro e;injection e with e
   subst e;refine⟨by omega,by simp only[Qbo];exact F,?_,?_⟩
   ·show(Lib.countByte (List.drop ((m+1:Nat):Int).toNat b.1) 46:Int)=_
    rw[xw];omega
   ·show(List.drop ((m+1:Nat):Int).toNat b.1).length<=_
    rw[Qbs];omega
 ·obtain⟨u,B,n,G,T⟩:=adC (Lib.countByte s 46) 0 s (List.replicate (((Lib.countByte s 46+1:Nat):Int)).toNat []) rfl (by rw[Qcq];omega) h;have e:v=(u,((0+Lib.countByte s 46:Nat):Int),B):=by
   have:=d;simp only[cZ,qC,bY,bf,eU,iG,aI,o,ad7]at this;have g:=n;rw[show(((Lib.countByte s 46:Nat):Int) - 0).toNat=Lib.countByte s 46 by omega]at this;have C:=this.symm.trans g;injection C
  subst e;dsimp only;have w:dA .i64 (((0+Lib.countByte s 46:Nat):Int)+1)=((0+Lib.countByte s 46+1:Nat):Int):=ru au;exact b_ au au (aY au (dI fun N c=>dI fun S j=>aY (by rw[j,w,c,Qbo];omega) aQ))
def avA:aZ Z:=vF Z [aAA,aIG] [jS 11 (bI (fun b=>[s0 10, s0 0, .row (pid (b 9)) 9]) (aB cI (aB cStr (l1 bV)))),jS 100007 (bI (fun b=>[s0 3]) (l1 cI)),jS 100017 (bI (fun b=>[s0 0, s0 10, .row (pid (b 9)) 9]) (aB cStr (aB cI (l1 bV))))] (args (ak (bC cStr) (ak (bC cStr) (ak (bC cI) (a1 (bC cI)))))) (lJ (n:=66) rfl) (R1 bV) [] func145 ntmps145 eQ 1 rfl (fun a=>aeu (a.1)) (fun a=>some ((a.2.1=wH/\a.2.2.1=0/\a.2.2.2=(-1))/\((a.1).length<=4294967296))) (fun⟨s,p,c,n⟩ e h=>by have f:p=wH:=h.1.1;subst f;have g:c=0:=h.1.2.1;subst g;have d:n=(-1):=h.1.2.2;subst d;show _=_;kernel_rfl) (fun a=>TI (a.1)) (fun a h=>⟨aqL (a.1) h.2,rfl⟩)
theorem apK (s:Str)(h:s.length<=4294967296):TI s=iU 46 s:=by
 obtain⟨e,i⟩:=aKr s h;have j:=count_le 46 s;obtain⟨g,d,f,k,b⟩:=adC (Lib.countByte s 46) 0 s (List.replicate (((Lib.countByte s 46+1:Nat):Int)).toNat []) rfl (by rw[Qcq];omega) h;unfold TI aeu;simp only[jk,cZ,qC,bY,bf,eU,iG,aI,jc,e,i,ad7];rw[show(((Lib.countByte s 46:Nat):Int) - 0).toNat=Lib.countByte s 46 by omega];have a:(o5 aeZ aEN (Lib.countByte s 46) 0 (s,List.replicate (((Lib.countByte s 46+1:Nat):Int)).toNat []):(List UInt8×Int×List Str)⊕List Str)= .inl (g,((0+Lib.countByte s 46:Nat):Int),d):=f;refine(XQ (fun x:(List UInt8×Int×List Str)⊕List Str=>thenS x _) a).trans ?_;rw[jc];have w:dA .i64 (((0+Lib.countByte s 46:Nat):Int)+1)=((0+Lib.countByte s 46+1:Nat):Int):=ru au;dsimp only;rw[w,xw,xw];rw[Dw]at*;rw[Qd4,Qch]at b;rw[<-b,Qd9,List.take_add_one,Qay au];have c:(d.take (Lib.countByte s 46)).length=Lib.countByte s 46:=by rw[QA];omega
 simp only[Option.toList_some];rw[Qdt _ _ au,c,Nat.sub_self];rfl
def axa (s:Str):Pg (List Str):=.ob ((wH=wH/\(0:Int)=0/\(-1)=(-1))/\List.length s<=4294967296) (.ret (TI s))
theorem ar5 (s:Str)(h:s.length<=4294967296):Is (axa s):=
 aY ⟨⟨rfl,rfl,rfl⟩,h⟩ aQ
def VV:aZ Z:=vF Z [avA] [] (args (ak (bC cStr) (a1 (bC cStr)))) (lJ (n:=8) rfl) (R1 bV) [] func75 ntmps75 eQ 1 rfl (fun a=>axa (a.1)) (fun a=>some ((a.2=wH)/\((a.1).length<=4294967296))) (fun⟨s,p⟩ e h=>by have b:p=wH:=h.1;subst b;show _=_;kernel_rfl) (fun a=>iU 46 (a.1)) (fun a h=>⟨ar5 (a.1) h.2,apK (a.1) h.2⟩)
def asK (s:Str):Pg Bool:=.ob ([46]=wH/\List.length s<=4294967296) (.as ((iU 46 s).length<=9223372036854775807) (.each false uj (iU 46 s) [] (fun a b (c:Unit)=> .ix a (iU 46 s).length (.br (!Jw b) (.ret (.inr false)) (rl ()))) (fun a (c:Unit)=> .ret (decide ((↑(List.length s):Int)<=120))) ()))
def Ve (s:Str):=(asK s).val
def acE:aZ Z:=E1 [Uk,VV] [jS 2 (bI (fun b=>[s0 8]) (l1 cI))] (a1 (bC cStr)) (R1 aG) [] func34 1 asK fun a=>a.length<=4294967296
theorem axO (s:Str):Ve s=Ky s:=by
 unfold Ve asK;simp only[bY,cZ,iG,jD,eU,bf,aI];rw[aak];have b:∀(l:List Str) (k:Nat),mJ (fun(_:Nat) (c:Str) (_:Unit)=>bif !Jw c then(Sum.inr false:Unit⊕Bool)else .inl ()) (fun(_:Nat) (_:Unit)=>decide ((s.length:Int)<=120)) l k ()=(decide (s.length<=120) && l.all MI):=by
  intro l;induction l with
  | nil=>intro k;show decide ((s.length:Int)<=120)=_;rw[List.all_nil,Bool.and_true];congr 1;rw[eq_iff_iff];omega
  | cons a l d=>
   intro k;unfold mJ;rw[ahD,Qc7];cases MI a with
   | true=>exact d (k+1)
   | false=>simp
 exact b _ 0
def ae7 (s:Str):Pg Bool:=.br (s==[109,101,115,115,97,103,101]) (.br (s==[109,101,115,115,97,103,101]) (.ret true) (.ret false)) (.br (s==[101,110,117,109]) (.br (s==[101,110,117,109]) (.ret true) (.ret false)) (.br (s==[115,101,114,118,105,99,101]) (.br (s==[115,101,114,118,105,99,101]) (.ret true) (.ret false)) (.br (s==[117,110,105,111,110]) (.br (s==[117,110,105,111,110]) (.ret true) (.ret false)) (.br (s==[109,97,112]) (.br (s==[109,97,112]) (.ret true) (.ret false)) (.br (s==[108,105,115,116]) (.br (s==[108,105,115,116]) (.ret true) (.ret false)) (.br (s==[114,101,113,117,105,114,101,100]) (.br (s==[114,101,113,117,105,114,101,100]) (.ret true) (.ret false)) (.br (s==[111,112,116,105,111,110,97,108]) (.br (s==[111,112,116,105,111,110,97,108]) (.ret true) (.ret false)) (.br (s==[112,108,97,105,110]) (.br (s==[112,108,97,105,110]) (.ret true) (.ret false)) (.br (s==[100,101,102,97,117,108,116]) (.br (s==[100,101,102,97,117,108,116]) (.ret true) (.ret false)) (.br (s==[114,101,115,101,114,118,101,100]) (.br (s==[114,101,115,101,114,118,101,100]) (.ret true) (.ret false)) (.br (s==[105,109,112,111,114,116]) (.br (s==[105,109,112,111,114,116]) (.ret true) (.ret false)) (.br (s==[115,112,97,99,101]) (.br (s==[115,112,97,99,101]) (.ret true) (.ret false)) (.br (s==[114,112,99]) (.br (s==[114,112,99]) (.ret true) (.ret false)) (.br (s==[115,116,114,101,97,109]) (.br (s==[115,116,114,101,97,109]) (.ret true) (.ret false)) (.br (s==[114,101,116,117,114,110,115]) (.br (s==[114,101,116,117,114,110,115]) (.ret true) (.ret false)) (.br (s==[111,112,101,110]) (.br (s==[111,112,101,110]) (.ret true) (.ret false)) (.br (s==[116,114,117,101]) (.br (s==[116,114,117,101]) (.ret true) (.ret false)) (.br (s==[102,97,108,115,101]) (.br (s==[102,97,108,115,101]) (.ret true) (.ret false)) (.br (s==[110,97,110]) (.br (s==[110,97,110]) (.ret true) (.ret false)) (.br (s==[105,110,102]) (.ret true) (.ret false)))))))))))))))))))))
def Hr (s:Str):=(ae7 s).val
theorem aqI (s:Str):Is (ae7 s):=
 aT (fun _=>aT iR iR) (fun _=>aT (fun _=>aT iR iR) (fun _=>aT (fun _=>aT iR iR) (fun _=>aT (fun _=>aT iR iR) (fun _=>aT (fun _=>aT iR iR) (fun _=>aT (fun _=>aT iR iR) (fun _=>aT (fun _=>aT iR iR) (fun _=>aT (fun _=>aT iR iR) (fun _=>aT (fun _=>aT iR iR) (fun _=>aT (fun _=>aT iR iR) (fun _=>aT (fun _=>aT iR iR) (fun _=>aT (fun _=>aT iR iR) (fun _=>aT (fun _=>aT iR iR) (fun _=>aT (fun _=>aT iR iR) (fun _=>aT (fun _=>aT iR iR) (fun _=>aT (fun _=>aT iR iR) (fun _=>aT (fun _=>aT iR iR) (fun _=>aT (fun _=>aT iR iR) (fun _=>aT (fun _=>aT iR iR) (fun _=>aT (fun _=>aT iR iR) (fun _=>aT iR iR))))))))))))))))))))
def af6:aZ Z:=E0 [] [] (a1 (bC cStr)) (R1 aG) [] func186 1 ae7 fun a=>aqI a
def Ny (a:Str):Pg (List UInt8×List UInt8):=.lt (dA .i64 ((↑(List.length a):Int) - 1)) fun d=> .wh (a.length+1) default (fun(b:Int)=> .br (decide (0<=b)) (.ix b (List.length a) (.br ((↑(List.getD a b.toNat 0).toNat:Int)==46) (.ob ((0:Int)<=0/\0<=b/\b<=(↑(List.length a):Int)) (.lt (dA .i64 (b+1)) fun c=> .ob (0<=c/\c<=(↑(List.length a):Int)/\(↑(List.length a):Int)<=(↑(List.length a):Int)) (.ret (.inr (List.take b.toNat a,List.drop c.toNat (List.take (List.length a) a)))))) (rl (dA .i64 (b - 1))))) (.ret (.inr ([],a)))) d
def BG (a:Str):=(Ny a).val
theorem alg (a:Str)(h:a.length<=9223372036854775807):Is (Ny a):=
 by
 refine ni fun l c f=>Ep (fun x=> -1<=x/\x < a.length) (fun x=>(x+1).toNat) au au (fun x i=>⟨dB (fun _=>b_ au au (dY (fun _=>aY au (ni fun m d g=>aY au (aQ))) iR)) iR,fun j b=> ?_⟩);revert b;simp only[eU,bf,cZ,bY,aI,Qa6,X6];have w:0<=x->dA .i64 (x - 1)=x - 1:=fun _=>dU (k:= .i64) tZ
 (repeat' split)<;>intro e<;>cases e<;>rw[w au]<;>omega
def apj:aZ Z:=E1 [] [jS 2 (bI (fun b=>[s0 4]) (l1 cI))] (a1 (bC cStr)) (shr [s0 0, s0 1] (aB cStr (l1 cStr))) [] func185 2 Ny (fun a=>a.length<=9223372036854775807) fun a h=>alg a h
def an4 (l:List Str)(s:Str):Pg Bool:=.each true uj l [] (fun a b (c:Unit)=> .ix a l.length (.br (b==s) (.ret (.inr true)) (rl ()))) (fun a (c:Unit)=> .ret false) ()
def Ju (l:List Str)(s:Str):=(an4 l s).val
theorem avO (l:List Str)(s:Str):Is (an4 l s):=
 gU (.inl rfl) (fun b a _ _=>b_ au au (aT iR iR)) (fun a _=>aQ)
def amH:aZ Z:=E0 [] [jS 2 (bI (fun b=>[s0 5]) (l1 cI))] (ak (bC bV) (a1 (bC cStr))) (R1 aG) [] func116 1 (u2 an4) fun a=>avO a.1 a.2
def aFW (k:Int):Pg Bool:=.br (decide (1<=k)) (.ret (decide (k<=9))) (.ret false)
def awO (k:Int):=(aFW k).val
theorem aCM (k:Int):Is (aFW k):=
 dB iR iR
def aF9:aZ Z:=E0 [] [] (a1 (bC cI)) (R1 aG) [] func272 1 aFW fun a=>aCM a
def TM (k:Int):Pg Bool:=.br (k==7) (.ret true) (.ret (k==8))
def LJ (k:Int):=(TM k).val
theorem ai5 (k:Int):Is (TM k):=
 dY iR iR
def arv:aZ Z:=E0 [] [] (a1 (bC cI)) (R1 aG) [] func274 1 TM fun a=>ai5 a
def aeL (v:ah):Pg Bool:=.br ((↑v.List.length:Int)==0) (.br ((↑v.Pairs.length:Int)==0) (.br ((↑v.Slots.length:Int)==0) (.ret ((↑v.bM.length:Int)==0)) (.ret false)) (.ret false)) (.ret false)
def CQ (v:ah):=(aeL v).val
theorem apY (v:ah):Is (aeL v):=
 dY (fun _=>dY (fun _=>dY iR iR) iR) iR
def axW:aZ Z:=E0 [] [] (a1 (aJ aP)) (R1 aG) [] func273 1 aeL fun a=>apY a
def OG (k:Int)(v:ah):Pg Bool:=.br (!awO k) (.ret false) (.br (v.Kind !=k) (.ret false) (.br (!CQ v.re) (.ret false) (.br (LJ k) (.br (v.Bits==0) (.br (decide ((↑(List.length v.Text):Int)<=4096)) (.br (k==8) (.ret true) (.ob (List.length v.Text<=9223372036854775700) (.ret (aeG v.Text)))) (.ret false)) (.ret false)) (.br (v.Text !=[]) (.ret false) (.br (k==1) (.ret (decide (v.Bits<=1))) (.br (k==2) (.lt (dA .i64 v.Bits) fun a=> .br (decide ((-2147483648)<=a)) (.ret (decide (a<=2147483647))) (.ret false)) (.br (k==4) (.ret (decide (v.Bits < 4294967296))) (.br (k==9) (.ret (decide (v.Bits < 2147483648))) (.ret true)))))))))
def zN (k:Int)(v:ah):=(OG k v).val
theorem aqY (k:Int)(v:ah):Is (OG k v):=
 aT iR (fun _=>iW iR (fun _=>aT iR (fun _=>aT (fun _=>dY (fun _=>dB (fun _=>dY iR (fun _=>aY qaq (aQ))) iR) iR) (fun _=>aT iR (fun _=>dY iR (fun _=>dY (fun _=>ni fun b a _=>dB iR iR) (fun _=>dY iR (fun _=>dY iR iR))))))))
def ain:aZ Z:=E0 [afZ,aF9,axW,arv] [] (ak (bC cI) (a1 (aJ aP))) (R1 aG) [] func190 1 (u2 OG) fun a=>aqY a.1 a.2
def Tc (b:Int):Pg Int:=.ob ((9223372036854775808:Int)≠0) (.br (decide (9218868437227405312 < b.tmod 9223372036854775808)) (.ret 0) (.br (b.tmod (9223372036854775808:Int)==9218868437227405312) (.ret 1) (.br (b.tmod (9223372036854775808:Int)==0) (.ret 2) (.br (decide (b.tmod (9223372036854775808:Int) < 4503599627370496)) (.ret 3) (.ret 4)))))
def Lj (b:Int):=(Tc b).val
theorem akJ (b:Int):Is (Tc b):=
 aY au (dB iR (fun _=>dY iR (fun _=>dY iR (fun _=>dB iR iR))))
def apJ:aZ Z:=E0 [] [] (a1 (bC (h_ .u64))) (R1 cI) [] func275 1 Tc fun a=>akJ a
def Xg (v:ah):Pg ah:=.br (v.Kind==6) (.br (Lj v.Bits==0) (.ret (ah.mk v.Kind 9221120237041090560 v.Text v.List v.Pairs v.Slots v.bM)) (.ret v.re)) (.ret v.re)
def qE (v:ah):=(Xg v).val
theorem aqd (v:ah):Is (Xg v):=
 dY (fun _=>dY iR iR) iR
def ayL:aZ Z:=E0 [apJ] [] (a1 (aJ aP)) (shr [.slot 0 true (nn 7)] (l1 aP)) [] func191 1 Xg fun a=>aqd a
def ac_ (a:Str):Pg Int:=.cut (fun(b:Bool)=> .br b (.ret 1) (.cut (fun(c:Bool)=> .br c (.ret 7) (.cut (fun(d:Bool)=> .br d (.ret 4) (.br (a==[109,105,110]) (.br (a==[109,105,110]) (.ret 3) (.ret 0)) (.br (a==[109,97,120]) (.ret 3) (.ret 0)))) (.br (a==[115,105,110,99,101]) (rl (a==[115,105,110,99,101])) (.br (a==[117,110,116,105,108]) (rl (a==[117,110,116,105,108])) (.br (a==[108,101,110,103,116,104]) (rl (a==[108,101,110,103,116,104])) (rl (a==[116,105,109,101,111,117,116]))))))) (.br (a==[100,111,99]) (rl (a==[100,111,99])) (.br (a==[97,108,105,97,115]) (rl (a==[97,108,105,97,115])) (.br (a==[114,111,117,116,101]) (rl (a==[114,111,117,116,101])) (rl (a==[111,119,110,101,114]))))))) (.br (a==[100,101,112,114,101,99,97,116,101,100]) (rl (a==[100,101,112,114,101,99,97,116,101,100])) (.br (a==[115,101,99,114,101,116]) (rl (a==[115,101,99,114,101,116])) (rl (a==[105,100,101,109,112,111,116,101,110,116]))))
def qI (a:Str):=(ac_ a).val
theorem aq1 (a:Str):Is (ac_ a):=
 kX (aT iR (fun _=>aT iR iR)) (fun e c=>aT iR (fun _=>kX (aT iR (fun _=>aT iR (fun _=>aT iR iR))) (fun g b=>aT iR (fun _=>kX (aT iR (fun _=>aT iR (fun _=>aT iR iR))) (fun f d=>aT iR (fun _=>aT (fun _=>aT iR iR) (fun _=>aT iR iR)))))))
def agO:aZ Z:=E0 [] [jS 100005 (bI (fun b=>[s0 4]) (l1 aG)),jS 100010 (bI (fun b=>[s0 8]) (l1 aG)),jS 100015 (bI (fun b=>[s0 13]) (l1 aG))] (a1 (bC cStr)) (R1 cI) [] func276 1 ac_ fun a=>aq1 a
def ajp (b:Str)(a:Int):Pg Bool:=.cut (fun(c:Bool)=> .br c (.br (decide (1<=a)) (.ret (decide (a<=6))) (.ret false)) (.cut (fun(e:Bool)=> .br e (.br (a==2) (.ret true) (.br (a==4) (.ret true) (.ret (a==6)))) (.cut (fun(d:Bool)=> .br d (.ret (a==2)) (.br (b==[105,100,101,109,112,111,116,101,110,116]) (.br (b== [105,100,101,109,112,111,116,101,110,116]) (.ret (a==6)) (.br (a==1) (.ret true) (.ret (a==5)))) (.br (b==[116,105,109,101,111,117,116]) (.br (b==[116,105,109,101,111,117,116]) (.ret (a==6)) (.br (a==1) (.ret true) (.ret (a==5)))) (.br (b==[114,111,117,116,101]) (.ret (a==6)) (.br (a==1) (.ret true) (.ret (a==5))))))) (.br (b==[109,105,110]) (rl (b==[109,105,110])) (.br (b==[109,97,120]) (rl (b==[109,97,120])) (.br (b==[108,101,110,103,116,104]) (rl (b==[108,101,110,103,116,104])) (rl (b==[115,101,99,114,101,116]))))))) (.br (b==[97,108,105,97,115]) (rl (b==[97,108,105,97,115])) (.br (b==[115,105,110,99,101]) (rl (b==[115,105,110,99,101])) (rl (b==[117,110,116,105,108])))))) (.br (b==[100,101,112,114,101,99,97,116,101,100]) (rl (b==[100,101,112,114,101,99,97,116,101,100])) (rl (b==[100,111,99])))
def G7 (b:Str)(a:Int):=(ajp b a).val
theorem aqj (b:Str)(a:Int):Is (ajp b a):=
 kX (aT iR iR) (fun f d=>aT (fun _=>dB iR iR) (fun _=>kX (aT iR (fun _=>aT iR iR)) (fun h c=>aT (fun _=>dY iR (fun _=>dY iR iR)) (fun _=>kX (aT iR (fun _=>aT iR (fun _=>aT iR iR))) (fun g e=>aT iR (fun _=>aT (fun _=>aT iR (fun _=>dY iR iR)) (fun _=>aT (fun _=>aT iR (fun _=>dY iR iR)) (fun _=>aT iR (fun _=>dY iR iR)))))))))
def ayZ:aZ Z:=E0 [] [jS 100004 (bI (fun b=>[s0 6]) (l1 aG)),jS 100008 (bI (fun b=>[s0 15]) (l1 aG)),jS 100013 (bI (fun b=>[s0 29]) (l1 aG))] (ak (bC cStr) (a1 (bC cI))) (R1 aG) [] func277 1 (u2 ajp) fun a=>aqj a.1 a.2
def UV (n:Note):Pg Bool:=.lt (qI n.Name) fun a=> .br (a !=0) (.br (n.Val.Kind==a) (.ret (zN a n.Val.re)) (.ret false)) (.ret false)
def wO (n:Note):=(UV n).val
theorem akb (n:Note):Is (UV n):=
 dI fun b a=>iW (fun _=>dY iR iR) iR
def arA:aZ Z:=E0 [ain,agO] [] (a1 (aJ CZ)) (R1 aG) [] func278 1 UV fun a=>akb a
def Ut (l:List Note)(c:Int):Pg Int:=.br (decide (8 < (↑l.length:Int))) (.ret 3) (.each true uj l sW (fun a b (e:Unit)=> .ix a l.length (.br (qI b.Name==0) (.ret (.inr 8)) (.ix a l.length (.br (!G7 b.Name c) (.ret (.inr 1)) (.ix a l.length (.br (!wO (Note.mk b.Name b.Val.re)) (.ret (.inr 12)) (.lt (dA .i64 (a - 1)) fun d=> .cut (fun(f:Unit)=> .br (decide (0 < a)) (.ix a l.length (.ix d l.length (.br (b.Name==(l.getD d.toNat sW).Name) (.ret (.inr 9)) (rl ())))) (rl ())) (.br (decide (0 < a)) (.ix a l.length (.ix d l.length (.br (Op.bytesLess b.Name (l.getD d.toNat sW).Name) (.ret (.inr (.inr 11))) (rl ())))) (rl ()))))))))) (fun a (e:Unit)=> .ret 0) ())
def YC (l:List Note)(a:Int):=(Ut l a).val
theorem akD (l:List Note)(a:Int):Is (Ut l a):=
 dB iR (fun _=>gU (.inl rfl) (fun f b _ _=>b_ au au (dY iR (fun _=>b_ au au (aT iR (fun _=>b_ au au (aT iR (fun _=>ni fun g c _=>kX (dB (fun _=>b_ au au (b_ au au (aT iR iR))) iR) (fun e d=>dB (fun _=>b_ au au (b_ au au (aT iR iR))) iR)))))))) (fun b _=>aQ))
def apa:aZ Z:=E0 [agO,ayZ,arA] [jS 4 (bI (fun b=>[s0 5]) (l1 cI)),jS 100014 (bI (fun b=>[]) l0)] (ak (bC lS) (a1 (bC cI))) (R1 cI) [] func192 1 (u2 Ut) fun a=>akD a.1 a.2
theorem ahX (s:Str)(h:s.length<=9223372036854775807):(BG s).1.length<=s.length:=by
 unfold BG Ny;simp only[cZ,tq,bf,eU,bY,aI];have w0:dA .i64 ((s.length:Int) - 1)=(s.length:Int) - 1:=dU (k:= .i64) tZ;rw[w0];refine BR (fun(x:Int)=> -1<=x/\x < s.length) (fun(x:Int)=>(x+1).toNat) (fun(r:Str×Str)=>r.1.length<=s.length) (fun x b=> ?_) _ _ au au;by_cases a:0<=x
 ·simp only[a,decide_true,uu];cases((s.getD x.toNat 0).toNat:Int)==46 with
  | true=>exact .inr ⟨_,rfl,by simp[QA];omega⟩
  | false=>exact .inl ⟨_,rfl,by rw[dU (k:= .i64) tZ];omega,by rw[dU (k:= .i64) tZ];omega⟩
 ·simp only[a,decide_false,mX];exact .inr ⟨_,rfl,by simp⟩
def Mc (s:Str):Pg Bool:=.br (!Ky s) (.ret false) (.cnt oZ 0 120 (fun c (a:List UInt8)=> .br (a !=[]) (.ob (a.length<=9223372036854775807) (.lt (BG a) fun b=> .br (Hr b.2) (.ret (.inr false)) (rl b.1))) (.ret (.inr true))) (fun c (a:List UInt8)=> .ret true) s)
def A_ (s:Str):=(Mc s).val
theorem afm (s:Str)(h:s.length<=9223372036854775807):Is (Mc s):=
 by
 refine aT iR (fun _=>Hm (fun _ y=>y.length<=9223372036854775807) h au au (fun d b _ _ a=>⟨aT (fun _=>aY a (dI fun g f=>aT iR iR)) iR,fun i c=> ?_⟩) (fun d b _ _ _=>aQ));revert c;simp only[bf,bY,cZ,aI,Qa6];have:=ahX b a;(repeat' split)<;>intro e<;>cases e<;>omega
def JP:aZ Z:=E1 [auR,apj,af6] [jS 4 (bI (fun b=>[s0 3, s0 0]) (aB cI (l1 cStr)))] (a1 (bC cStr)) (R1 aG) [] func118 1 Mc (fun a=>a.length<=9223372036854775807) fun a h=>afm a h
def acs (s:Str):Pg Bool:=.br (xG s) (.ret !Hr s) (.ret false)
def uF (s:Str):=(acs s).val
theorem apU (s:Str):Is (acs s):=
 aT iR iR
def Og:aZ Z:=E0 [af6,ag6] [] (a1 (bC cStr)) (R1 aG) [] func119 1 acs fun a=>apU a
def WA (a:ah)(b:ah):Pg Bool:=.br (a.Kind==b.Kind) (.br (a.Bits==b.Bits) (.br (a.Text==b.Text) (aL a.List (aL a.Pairs (aL a.Slots (aL a.bM (aL b.List (aL b.Pairs (aL b.Slots (aL b.bM (.ret (dA .i64 (dA .i64 (dA .i64 (dA .i64 (dA .i64 (dA .i64 (dA .i64 ((↑a.List.length:Int)+(↑a.Pairs.length:Int))+(↑a.Slots.length:Int))+ (↑a.bM.length:Int))+ (↑b.List.length:Int))+ (↑b.Pairs.length:Int))+ (↑b.Slots.length:Int))+ (↑b.bM.length:Int))== 0)))))))))) (.ret false)) (.ret false)) (.ret false)
def Dj (a:ah)(b:ah):=(WA a b).val
theorem apt (a:ah)(b:ah):Is (WA a b):=
 dY (fun _=>dY (fun _=>aT (fun _=>gp fun _=>gp fun _=>gp fun _=>gp fun _=>gp fun _=>gp fun _=>gp fun _=>gp fun _=>aQ) iR) iR) iR
def asR:aZ Z:=E0 [] [] (ak (aJ aP) (a1 (aJ aP))) (R1 aG) [] func189 1 (u2 WA) fun a=>apt a.1 a.2
def sIs (k:Int):Pg Bool:=.br (decide (1<=k)) (.ret (decide (k<=9))) (.ret false)
def kM (k:Int):=(sIs k).val
def abh:aZ Z:=E0 [] [] (a1 (bC cI)) (R1 aG) [] func385 1 sIs
def avI (k:Int):Pg Bool:=.br (k==7) (.ret true) (.ret (k==8))
def aee (k:Int):=(avI k).val
def ah8:aZ Z:=E0 [] [] (a1 (bC cI)) (R1 aG) [] func442 1 avI
def av5 (v:ah):Pg Bool:=aL v.List (aL v.Pairs (aL v.Slots (aL v.bM (.lt (dA .i64 (dA .i64 (dA .i64 ((↑v.List.length:Int)+(↑v.Pairs.length:Int))+(↑v.Slots.length:Int))+(↑v.bM.length:Int))) fun a=> .br (decide (0 < a)) (.ret false) (.br (aee v.Kind) (.ret (v.Bits==0)) (.ret (v.Text==[])))))))
def acY (v:ah):=(av5 v).val
def anv:aZ Z:=E0 [ah8] [] (a1 (aJ aP)) (R1 aG) [] func386 1 av5
def acT (k:Int)(b:Int):Pg Bool:=.br (k==1) (.ret (decide (b<=1))) (.br (k==2) (.lt (dA .i64 b) fun a=> .br (decide ((-2147483648)<=a)) (.ret (decide (a<=2147483647))) (.ret false)) (.br (k==9) (.ret (decide (b<=2147483647))) (.br (k==4) (.ret (decide (b<=4294967295))) (.ret true))))
def ah5 (k:Int)(b:Int):=(acT k b).val
def aq5:aZ Z:=E0 [] [] (ak (bC cI) (a1 (bC (h_ .u64)))) (R1 aG) [] func387 1 (u2 acT)
def atQ (k:Int)(v:ah):Pg Bool:=.br (!kM k) (.ret false) (.br (v.Kind !=k) (.ret false) (.br (!acY v.re) (.ret false) (.br (!ah5 k v.Bits) (.ret false) (.br (decide (4096 < (↑(List.length v.Text):Int))) (.ret false) (.br (k !=7) (.ret true) (.ob (List.length v.Text<=9223372036854775700) (.ret (Ae v.Text))))))))
def O9 (k:Int)(v:ah):=(atQ k v).val
def UG:aZ Z:=E0 [BI,abh,anv,aq5] [] (ak (bC cI) (a1 (aJ aP))) (R1 aG) [] func286 1 (u2 atQ)
def ajG (b:Int):Pg Int:=.br (uO .u64 b (9218868437227405312:Int)==9218868437227405312) (.br (uO .u64 b (4503599627370495:Int) !=0) (.ret 0) (.br (uO .u64 b (9218868437227405312:Int)==9218868437227405312) (.ret 1) (.br (uO .u64 b (9218868437227405312:Int)==0) (.br (uO .u64 b (4503599627370495:Int)==0) (.ret 2) (.br (uO .u64 b (9218868437227405312:Int)==0) (.ret 3) (.ret 4))) (.br (uO .u64 b (9218868437227405312:Int)==0) (.ret 3) (.ret 4))))) (.br (uO .u64 b (9218868437227405312:Int)==9218868437227405312) (.ret 1) (.br (uO .u64 b (9218868437227405312:Int)==0) (.br (uO .u64 b (4503599627370495:Int)==0) (.ret 2) (.br (uO .u64 b (9218868437227405312:Int)==0) (.ret 3) (.ret 4))) (.br (uO .u64 b (9218868437227405312:Int)==0) (.ret 3) (.ret 4))))
def Ub (b:Int):=(ajG b).val
def agz:aZ Z:=E0 [] [] (a1 (bC (h_ .u64))) (R1 cI) [] func388 1 ajG
def ahx (v:ah):Pg ah:=.br (v.Kind==6) (.br (Ub v.Bits==0) (.ret (ah.mk v.Kind 9221120237041090560 v.Text v.List v.Pairs v.Slots v.bM)) (.ret v.re)) (.ret v.re)
def nK (v:ah):=(ahx v).val
def KT:aZ Z:=E0 [agz] [] (a1 (aJ aP)) (shr [.slot 0 true (nn 7)] (l1 aP)) [] func287 1 ahx
def axX:Pg (List (Str×iT)):=.ret (qO (qO (qO (qO (qO (qO (qO (qO (qO (qO (qO (qO (qO [] [100,101,112,114,101,99,97,116,101,100] (iT.mk 1 126)) [100,111,99] (iT.mk 7 126)) [97,108,105,97,115] (iT.mk 7 84)) [115,105,110,99,101] (iT.mk 4 84)) [117,110,116,105,108] (iT.mk 4 84)) [109,105,110] (iT.mk 3 4)) [109,97,120] (iT.mk 3 4)) [108,101,110,103,116,104] (iT.mk 4 4)) [115,101,99,114,101,116] (iT.mk 1 4)) [105,100,101,109,112,111,116,101,110,116] (iT.mk 1 64)) [116,105,109,101,111,117,116] (iT.mk 4 64)) [114,111,117,116,101] (iT.mk 7 64)) [111,119,110,101,114] (iT.mk 7 34))
def nD:List (Str×iT):=(axX).val
def ag7:aZ Z:=E0 [] [] a0 (R1 zY) [] func389 1 fun a=>axX
def axb (a:Str):Pg Int:=.ret (mZ kU.z nD a).kind
def PW (a:Str):=(axb a).val
def aCZ:aZ Z:=E0 [ag7] [] (a1 (bC cStr)) (R1 cI) [] func443 1 axb
def aiT (n:Note):Pg Bool:=.lt (PW n.Name) fun a=> .br (a !=0) (.ret (O9 a n.Val.re)) (.ret false)
def acG (n:Note):=(aiT n).val
def ay4:aZ Z:=E0 [UG,aCZ] [] (a1 (aJ CZ)) (R1 aG) [] func390 1 aiT
def aIS (n:Note)(a:Int)(b:Str)(c:Bool):Pg Int:=.br (!(SC kU D.kT nD).has (Pv.str n.Name)) (.ret 8) (.cut (fun(d:Bool)=> .br d (.ret 1) (.br (!acG (Note.mk n.Name n.Val.re)) (.ret 12) (.br c (.br (Op.bytesLess n.Name b) (.ret 11) (.br c (.br (n.Name==b) (.ret 9) (.ret 0)) (.ret 0))) (.br c (.br (n.Name==b) (.ret 9) (.ret 0)) (.ret 0))))) (.br (decide (a < 1)) (rl true) (.br (decide (6 < a)) (rl true) (.ob (0<=a) (rl (uO .i64 (Ar .i64 (mZ kU.z nD n.Name).targets a) (1:Int)==0))))))
def ayE (n:Note)(a:Int)(b:Str)(c:Bool):=(aIS n a b c).val
def aIz:aZ Z:=E0 [ag7,ay4] [jS 100005 (bI (fun b=>[s0 21]) (l1 aG))] (ak (aJ CZ) (ak (bC cI) (ak (bC cStr) (a1 (bC aG))))) (R1 cI) [] func289 1 (u4 aIS)
def als (l:List Note)(a:Int):Pg Int:=.br (decide (8 < (↑l.length:Int))) (.ret 3) (aL l (.each false oZ l sW (fun c b (e:List UInt8)=> .ix c l.length (.lt (ayE (Note.mk b.Name b.Val.re) a e (decide (0 < c))) fun d=> .br (d !=0) (.ret (.inr d)) (rl b.Name))) (fun c (e:List UInt8)=> .ret 0) []))
def UB (l:List Note)(a:Int):=(als l a).val
def aio:aZ Z:=E0 [aIz] [jS 5 (bI (fun b=>[s0 14, s0 5]) (aB cI (l1 cStr)))] (ak (bC lS) (a1 (bC cI))) (R1 cI) [] func204 1 (u2 als)
theorem qR {A:Type}(p:A->Bool)(l:List A):decide (0<=fM p l)=l.any p:=by
 rcases ql p l with⟨h,k⟩ | ⟨u,a,v,rfl,b,d,h⟩
 ·rw[h,qM au];exact(Qc.2 fun x c=>by rw[k x c];simp).symm
 ·rw[h,rY au];exact(Qbi.2 ⟨a,by simp,b⟩).symm
def isWord (s:Str):Pg Bool:=.cut (fun(a:Bool)=> .br a (.ret true) (.br (s==[105,109,112,111,114,116]) (.br (s==[105,109,112,111,114,116]) (.ret true) (.ret false)) (.br (s==[115,112,97,99,101]) (.br (s==[115,112,97,99,101]) (.ret true) (.ret false)) (.br (s==[114,112,99]) (.br (s==[114,112,99]) (.ret true) (.ret false)) (.br (s==[115,116,114,101,97,109]) (.br (s==[115,116,114,101,97,109]) (.ret true) (.ret false)) (.br (s==[114,101,116,117,114,110,115]) (.br (s==[114,101,116,117,114,110,115]) (.ret true) (.ret false)) (.br (s==[111,112,101,110]) (.br (s==[111,112,101,110]) (.ret true) (.ret false)) (.br (s==[116,114,117,101]) (.br (s==[116,114,117,101]) (.ret true) (.ret false)) (.br (s==[102,97,108,115,101]) (.br (s==[102,97,108,115,101]) (.ret true) (.ret false)) (.br (s==[110,97,110]) (.br (s==[110,97,110]) (.ret true) (.ret false)) (.br (s==[105,110,102]) (.ret true) (.ret false)))))))))))) (.br (s==[109,101,115,115,97,103,101]) (rl (s==[109,101,115,115,97,103,101])) (.br (s==[101,110,117,109]) (rl (s==[101,110,117,109])) (.br (s==[115,101,114,118,105,99,101]) (rl (s==[115,101,114,118,105,99,101])) (.br (s==[117,110,105,111,110]) (rl (s==[117,110,105,111,110])) (.br (s==[109,97,112]) (rl (s==[109,97,112])) (.br (s==[108,105,115,116]) (rl (s==[108,105,115,116])) (.br (s==[114,101,113,117,105,114,101,100]) (rl (s==[114,101,113,117,105,114,101,100])) (.br (s==[111,112,116,105,111,110,97,108]) (rl (s==[111,112,116,105,111,110,97,108])) (.br (s==[112,108,97,105,110]) (rl (s==[112,108,97,105,110])) (.br (s==[100,101,102,97,117,108,116]) (rl (s==[100,101,102,97,117,108,116])) (rl (s==[114,101,115,101,114,118,101,100]))))))))))))
def Ag (s:Str):=(isWord s).val
def Bi:aZ Z:=E0 [] [jS 100013 (bI (fun b=>[s0 4]) (l1 aG))] (a1 (bC cStr)) (R1 aG) [] func197 1 isWord
def aif:aZ Z:=EI [Bi] bV 197 func194 [] Ag
def agF:aZ Z:=EA [aif,Bi] bV 197 func129 Ag
def ayb (s:Str):Pg Bool:=.br (Jw s) (.ret !Ag s) (.ret false)
def Fa (s:Str):=(ayb s).val
def Uw:aZ Z:=E0 [Uk,Bi] [] (a1 (bC cStr)) (R1 aG) [] func140 1 ayb
def asH (s:Str):Pg Bool:=.ob (List.length s<=4294967296) (.br (Ve s) (.ob ([46]=wH/\List.length s<=4294967296) (.ret !(iU 46 s).any fun(x:Str)=>Ag x)) (.ret false))
def X9 (s:Str):=(asH s).val
def acF:aZ Z:=E1 [acE,VV,agF,Bi] [] (a1 (bC cStr)) (R1 aG) [] func135 1 asH fun a=>a.length<=4294967296
def ixS (l:List Str)(v:Str):Pg Int:=aL l (.each false uj l [] (fun a b (c:Unit)=> .ix a l.length (.br (v==b) (.ret (.inr a)) (rl ()))) (fun a (c:Unit)=> .ret (-1)) ())
theorem aHI (l:List Str)(v:Str):Is (ixS l v):=
 gp fun _=>gU (.inr au) (fun b a _ _=>b_ au au (aT iR iR)) (fun a _=>aQ)
def aEI:aZ Z:=E2 [] [jS 2 (bI (fun b=>[s0 8]) (l1 cI))] (ak (bC bV) (a1 (bC cStr))) (R1 cI) [] func156 1 (u2 ixS) (fun a=>none) (fun a=>fM (fun(x:Str)=>a.2==x) a.1) fun a h=>⟨aHI a.1 a.2,(fun(l:List Str) (v:Str)=>oK (fun(x:Str)=>v==x) l 0) a.1 a.2⟩
def coS (l:List Str)(v:Str):Pg Bool:=.lt (fM (fun(x:Str)=>v==x) l) fun a=> .ret (decide (0<=a))
theorem aF5 (l:List Str)(v:Str):Is (coS l v):=
 dI fun b a=>aQ
def ank:aZ Z:=E2 [aEI] [] (ak (bC bV) (a1 (bC cStr))) (R1 aG) [] func131 1 (u2 coS) (fun a=>none) (fun a=>a.1.any fun(x:Str)=>a.2==x) fun a h=>⟨aF5 a.1 a.2,(fun(l:List Str) (v:Str)=>qR (fun(x:Str)=>v==x) l) a.1 a.2⟩
def aJX (x:aO)(a:Str):Pg Bool:=.ret (x.Name==a)
def aw1 (x:aO)(a:Str):=(aJX x a).val
def au6:aZ Z:=xx [] [] (ak (aJ gu) (a1 (jf 0))) (b1 (aV cStr)) (R1 aG) [0] func196 1 (u11 aJX)
def avq:aZ Z:=Jf [au6] ug 196 [0] (b1 (aV cStr)) func195 dP fun x b=>aw1 x b
def Nh (s:ay)(b:Str):Pg (aO×Bool):=.lt (fM (fun(x:aO)=>aw1 x b) s.Messages) fun a=> .br (decide (a < 0)) (.ret (aO.mk [] [] [] [] [],false)) (.ix a s.Messages.length (.ret (s.Messages.getD a.toNat dP,true)))
def jb (s:ay)(a:Str):=(Nh s a).val
theorem agv (s:ay)(a:Str):Is (Nh s a):=
 dI fun c b=>dB iR (fun _=>b_ au (by have:=mO (fun(x:aO)=>aw1 x a) s.Messages;rw[b];exact this.1) (aQ))
def yA:aZ Z:=E0 [avq,au6] [] (ak (aJ bH) (a1 (bC cStr))) (shr [.slot 0 true (nn 5), s0 1] (aB gu (l1 aG))) [] func132 2 (u2 Nh) fun a=>agv a.1 a.2
def aKk (x:dV)(a:Str):Pg Bool:=.ret (x.Name==a)
def att (x:dV)(a:Str):=(aKk x a).val
def ath:aZ Z:=xx [] [] (ak (aJ kC) (a1 (jf 0))) (b1 (aV cStr)) (R1 aG) [0] func384 1 (u11 aKk)
def Eb:aZ Z:=Jf [ath] iK 384 [0] (b1 (aV cStr)) func226 kE fun x b=>att x b
def ayH (s:ay)(b:Str):Pg (dV×Bool):=.lt (fM (fun(x:dV)=>att x b) s.Enums) fun a=> .br (decide (a < 0)) (.ret (dV.mk [] false [] [] [],false)) (.ix a s.Enums.length (.ret (s.Enums.getD a.toNat kE,true)))
def ac5 (s:ay)(a:Str):=(ayH s a).val
theorem ax8 (s:ay)(a:Str):Is (ayH s a):=
 dI fun c b=>dB iR (fun _=>b_ au (by have:=mO (fun(x:dV)=>att x a) s.Enums;rw[b];exact this.1) (aQ))
def amG:aZ Z:=E0 [Eb,ath] [] (ak (aJ bH) (a1 (bC cStr))) (shr [.slot 0 true (nn 5), s0 1] (aB kC (l1 aG))) [] func282 2 (u2 ayH) fun a=>ax8 a.1 a.2
def aHx (x:mg)(n:Int):Pg Bool:=.br (decide (x.From<=n)) (.ret (decide (n<=x.To))) (.ret false)
def aoO (x:mg)(n:Int):=(aHx x n).val
def ak3:aZ Z:=xx [] [] (ak (aJ Tm) (a1 (jf 0))) (b1 (aV cI)) (R1 aG) [0] func209 1 (u11 aHx)
def aIL:aZ Z:=Jf [ak3] p_ 209 [0] (b1 (aV cI)) func291 tJ fun x b=>aoO x b
def aFO:aZ Z:=EAB [ak3,aIL] p_ 209 [0] (b1 (aV cI)) func208 fun x b=>aoO x b
def Pq (l:List mg)(n:Int):Pg Bool:=.ret (l.any fun(x:mg)=>aoO x n)
def vU (l:List mg)(n:Int):=(Pq l n).val
def FQ:aZ Z:=E0 [aFO,ak3] [] (ak (bC p_) (a1 (bC cI))) (R1 aG) [] func143 1 (u2 Pq)
def fname (f:aK):Pg (List UInt8):=.ret f.Name
def avp (f:aK):=(fname f).val
def ad9:aZ Z:=E0 [] [] (a1 (aJ eG)) (R1 cStr) [] func199 1 fname
def aFc (f:Item):Pg (List UInt8):=.ret f.Name
def awE (f:Item):=(aFc f).val
def acV:aZ Z:=E0 [] [] (a1 (aJ nz)) (R1 cStr) [] func142 1 aFc
def aMb (x:aK)(a:List aK)(b:Int):Pg Bool:=.ix b a.length (.ret (avp (aK.mk x.Num x.Name x.Card x.Key x.dH x.Union x.dD x.Default.re x.Notes)== avp (aK.mk (a.getD b.toNat aH).Num (a.getD b.toNat aH).Name (a.getD b.toNat aH).Card (a.getD b.toNat aH).Key (a.getD b.toNat aH).dH (a.getD b.toNat aH).Union (a.getD b.toNat aH).dD (a.getD b.toNat aH).Default.re (a.getD b.toNat aH).Notes)))
def abK (x:aK)(a:List aK)(b:Int):=(aMb x a b).val
def ala:aZ Z:=H7 [ad9] [] (ak (aJ eG) (ak (jf 0) (ak (jf 1) (a1 (jf 2))))) (ja (bFn 199 []) (ja (aV iw) (b1 (aV cI)))) (R1 aG) [0,1,2] func281 1 (fun a=>aMb a.1.1 a.2.2.1 a.2.2.2) fun a=>0<=a.2.2.2/\a.2.2.2 < a.2.2.1.length
def aKH (l:List aK)(d:List aK)(c:Int):Pg Int:=aL l (.each false uj l aH (fun b a (e:Unit)=> .ix b l.length (.ix c d.length (.br (abK (aK.mk a.Num a.Name a.Card a.Key a.dH a.Union a.dD a.Default.re a.Notes) d c) (.ret (.inr b)) (rl ())))) (fun b (e:Unit)=> .ret (-1)) ())
theorem az1 (l:List aK)(b:List aK)(a:Int)(h:0<=a/\a < b.length):Is (aKH l b a):=
 gp fun _=>gU (.inr au) (fun d c _ _=>b_ au au (b_ au au (aT iR iR))) (fun c _=>aQ)
def XD:aZ Z:=SI [ala] [jS 2 (bI (fun d=>[s0 8]) (l1 cI))] (ak (bC iw) (a1 (lH 281 [0,1,2]))) (ja (bFn 199 []) (ja (aV iw) (b1 (aV cI)))) (R1 cI) [0,1,2] func383 1 (fun a=>aKH a.1.1 a.2.2.1 a.2.2.2) (fun a=>some (0<=a.2.2.2/\a.2.2.2 < a.2.2.1.length)) (fun a=>fM (fun(x:aK)=>(abK x a.2.2.1 a.2.2.2)) a.1.1) fun a h=>⟨az1 a.1.1 a.2.2.1 a.2.2.2 h,(fun(l:List aK) c b _=>oK (fun(x:aK)=>(abK x c b)) l 0) a.1.1 a.2.2.1 a.2.2.2 h⟩
def aLS (l:List aK)(a:List aK)(b:Int):Pg Bool:=.ix b a.length (.lt (fM (fun(x:aK)=>abK x a b) l) fun c=> .ret (decide (0<=c)))
theorem aAt (l:List aK)(b:List aK)(a:Int)(h:0<=a/\a < b.length):Is (aLS l b a):=
 b_ au au (dI fun d c=>aQ)
def alu:aZ Z:=SI [ala,XD] [] (ak (bC iw) (a1 (lH 281 [0,1,2]))) (ja (bFn 199 []) (ja (aV iw) (b1 (aV cI)))) (R1 aG) [0,1,2] func280 1 (fun a=>aLS a.1.1 a.2.2.1 a.2.2.2) (fun a=>some (0<=a.2.2.2/\a.2.2.2 < a.2.2.1.length)) (fun a=>a.1.1.any fun(x:aK)=>(abK x a.2.2.1 a.2.2.2)) fun a h=>⟨aAt a.1.1 a.2.2.1 a.2.2.2 h,(fun(l:List aK) b c _=>qR _ l) a.1.1 a.2.2.1 a.2.2.2 h⟩
def aEB (l:List aK)(i:Int):Pg Bool:=.ob ((0:Int)<=0/\0<=i/\i<=(↑l.length:Int)) (.ix i l.length (.ret ((List.take i.toNat l).any fun(x:aK)=>abK x l i)))
def axE (l:List aK)(i:Int):=(aEB l i).val
def aCE:aZ Z:=E1 [ad9,alu,ala] [] (ak (bC iw) (ak (bC cI) (a1 (lH 199 [])))) (R1 aG) [] func198 1 (fun a=>aEB a.1 a.2.1) fun a=>0<=a.2.1/\a.2.1 < a.1.length
def aKg (x:Item)(a:List Item)(b:Int):Pg Bool:=.ix b a.length (.ret (awE x==awE (a.getD b.toNat jI)))
def aaB (x:Item)(a:List Item)(b:Int):=(aKg x a b).val
def ajv:aZ Z:=H7 [acV] [] (ak (aJ nz) (ak (jf 0) (ak (jf 1) (a1 (jf 2))))) (ja (bFn 142 []) (ja (aV iQ) (b1 (aV cI)))) (R1 aG) [0,1,2] func207 1 (fun a=>aKg a.1.1 a.2.2.1 a.2.2.2) fun a=>0<=a.2.2.2/\a.2.2.2 < a.2.2.1.length
def aL2 (l:List Item)(c:List Item)(b:Int):Pg Int:=aL l (.each false uj l jI (fun a d (e:Unit)=> .ix a l.length (.ix b c.length (.br (aaB d c b) (.ret (.inr a)) (rl ())))) (fun a (e:Unit)=> .ret (-1)) ())
theorem aAP (l:List Item)(b:List Item)(a:Int)(h:0<=a/\a < b.length):Is (aL2 l b a):=
 gp fun _=>gU (.inr au) (fun d c _ _=>b_ au au (b_ au au (aT iR iR))) (fun c _=>aQ)
def PI:aZ Z:=SI [ajv] [jS 2 (bI (fun d=>[s0 8]) (l1 cI))] (ak (bC iQ) (a1 (lH 207 [0,1,2]))) (ja (bFn 142 []) (ja (aV iQ) (b1 (aV cI)))) (R1 cI) [0,1,2] func290 1 (fun a=>aL2 a.1.1 a.2.2.1 a.2.2.2) (fun a=>some (0<=a.2.2.2/\a.2.2.2 < a.2.2.1.length)) (fun a=>fM (fun(x:Item)=>(aaB x a.2.2.1 a.2.2.2)) a.1.1) fun a h=>⟨aAP a.1.1 a.2.2.1 a.2.2.2 h,(fun(l:List Item) c b _=>oK (fun(x:Item)=>(aaB x c b)) l 0) a.1.1 a.2.2.1 a.2.2.2 h⟩
def aJL (l:List Item)(a:List Item)(b:Int):Pg Bool:=.ix b a.length (.lt (fM (fun(x:Item)=>aaB x a b) l) fun c=> .ret (decide (0<=c)))
theorem aB8 (l:List Item)(b:List Item)(a:Int)(h:0<=a/\a < b.length):Is (aJL l b a):=
 b_ au au (dI fun d c=>aQ)
def PP:aZ Z:=SI [ajv,PI] [] (ak (bC iQ) (a1 (lH 207 [0,1,2]))) (ja (bFn 142 []) (ja (aV iQ) (b1 (aV cI)))) (R1 aG) [0,1,2] func206 1 (fun a=>aJL a.1.1 a.2.2.1 a.2.2.2) (fun a=>some (0<=a.2.2.2/\a.2.2.2 < a.2.2.1.length)) (fun a=>a.1.1.any fun(x:Item)=>(aaB x a.2.2.1 a.2.2.2)) fun a h=>⟨aB8 a.1.1 a.2.2.1 a.2.2.2 h,(fun(l:List Item) b c _=>qR _ l) a.1.1 a.2.2.1 a.2.2.2 h⟩
def aE8 (l:List Item)(i:Int):Pg Bool:=.ob ((0:Int)<=0/\0<=i/\i<=(↑l.length:Int)) (.ix i l.length (.ret ((List.take i.toNat l).any fun(x:Item)=>aaB x l i)))
def akl (l:List Item)(i:Int):=(aE8 l i).val
def aAS:aZ Z:=E1 [acV,PP,ajv] [] (ak (bC iQ) (ak (bC cI) (a1 (lH 142 [])))) (R1 aG) [] func141 1 (fun a=>aE8 a.1 a.2.1) fun a=>0<=a.2.1/\a.2.1 < a.1.length
def adI (b:Int)(a:Int):Pg Bool:=.br (b !=5) (.ret (a==0)) (.br (decide (1<=a)) (.br (decide (a<=7)) (.ret (a !=6)) (.ret false)) (.ret false))
def CX (a:Int)(b:Int):=(adI a b).val
def awH:aZ Z:=E0 [] [] (ak (bC cI) (a1 (bC cI))) (R1 aG) [] func200 1 (u2 adI)
def aea (s:ay)(f:aK):Pg Bool:=.lt (ac5 s f.dH.Name) fun a=> .lt (jb s f.dH.Name) fun b=> .br (decide (1<=f.dH.Kind)) (.br (decide (f.dH.Kind<=8)) (.ret (f.dH.Name==[])) (.br (f.dH.Kind==9) (.ret a.2) (.br (f.dH.Kind==10) (.br b.2 (.ret (f.Card !=3)) (.ret false)) (.ret false)))) (.br (f.dH.Kind==9) (.ret a.2) (.br (f.dH.Kind==10) (.br b.2 (.ret (f.Card !=3)) (.ret false)) (.ret false)))
def HY (s:ay)(f:aK):=(aea s f).val
def auw:aZ Z:=E0 [yA,amG] [] (ak (aJ bH) (a1 (aJ eG))) (R1 aG) [] func201 1 (u2 aea)
def asE (v:ah):Pg Bool:=.br (v.Kind==0) (.br (v.Bits==0) (.br (v.Text==[]) (aL v.List (aL v.Pairs (aL v.Slots (aL v.bM (.ret (dA .i64 (dA .i64 (dA .i64 ((↑v.List.length:Int)+(↑v.Pairs.length:Int))+(↑v.Slots.length:Int))+(↑v.bM.length:Int))== 0)))))) (.ret false)) (.ret false)) (.ret false)
def aiR (v:ah):=(asE v).val
def aDH:aZ Z:=E0 [] [] (a1 (aJ aP)) (R1 aG) [] func285 1 asE
def aLV (x:aK)(f:aK):Pg Bool:=.ret (x.Name==f.Union)
def axx (x:aK)(f:aK):=(aLV x f).val
def ajq:aZ Z:=xx [] [] (ak (aJ eG) (a1 (jf 0))) (b1 (aV eG)) (R1 aG) [0] func283 1 (u11 aLV)
def adM:aZ Z:=Jf [ajq] iw 283 [0] (b1 (aV eG)) func383 aH fun x b=>axx x b
def ayW:aZ Z:=EAB [ajq,XD,adM] iw 283 [0] (b1 (aV eG)) func280 fun x b=>axx x b
def aLu (x:aK)(f:aK):Pg Bool:=.ret (x.Union==f.Union)
def avH (x:aK)(f:aK):=(aLu x f).val
def akf:aZ Z:=xx [] [] (ak (aJ eG) (a1 (jf 0))) (b1 (aV eG)) (R1 aG) [0] func284 1 (u11 aLu)
def ajH:aZ Z:=Jf [akf] iw 284 [0] (b1 (aV eG)) func383 aH fun x b=>avH x b
def asT:aZ Z:=EAB [akf,XD,adM,ajH] iw 284 [0] (b1 (aV eG)) func280 fun x b=>avH x b
def UH (m:aO)(i:Int):Pg Bool:=.ix i m.Fields.length (.br ((m.Fields.getD i.toNat aH).Union==[]) (.ret true) (.br ((m.Fields.getD i.toNat aH).Card !=2) (.ret false) (.br (!Fa (m.Fields.getD i.toNat aH).Union) (.ret false) (.br (m.Fields.any fun(x:aK)=> axx x (aK.mk (m.Fields.getD i.toNat aH).Num (m.Fields.getD i.toNat aH).Name (m.Fields.getD i.toNat aH).Card (m.Fields.getD i.toNat aH).Key (m.Fields.getD i.toNat aH).dH (m.Fields.getD i.toNat aH).Union (m.Fields.getD i.toNat aH).dD (m.Fields.getD i.toNat aH).Default.re (m.Fields.getD i.toNat aH).Notes)) (.ret false) (.ob ((0:Int)<=0/\0<=i/\i<=(↑m.Fields.length:Int)) (.br (!(List.take i.toNat m.Fields).any fun(x:aK)=> avH x (aK.mk (m.Fields.getD i.toNat aH).Num (m.Fields.getD i.toNat aH).Name (m.Fields.getD i.toNat aH).Card (m.Fields.getD i.toNat aH).Key (m.Fields.getD i.toNat aH).dH (m.Fields.getD i.toNat aH).Union (m.Fields.getD i.toNat aH).dD (m.Fields.getD i.toNat aH).Default.re (m.Fields.getD i.toNat aH).Notes)) (.ret true) (.lt (dA .i64 (i - 1)) fun a=> .ix a m.Fields.length (.ret ((m.Fields.getD a.toNat aH).Union==(m.Fields.getD i.toNat aH).Union)))))))))
def Yt (m:aO)(i:Int):=(UH m i).val
theorem aj_ (m:aO)(i:Int)(h:0<=i/\i < m.Fields.length/\m.Fields.length<=1048576):Is (UH m i):=
 by
 refine b_ au au (aT iR (fun _=>iW iR (fun _=>aT iR (fun _=>aT iR (fun _=>aY ⟨by omega,by omega,by omega⟩ (aT iR (fun b=> ?_)))))));have a:0 < i:=by
  rcases Int.lt_or_le 0 i with a | a
  ·exact a
  ·rw[show i.toNat=0 by omega,Qd4]at b;cases b
 exact ni fun d c e=>b_ au au aQ
def apC:aZ Z:=E1 [Uw,alu,ayW,asT,ajq,akf] [] (ak (aJ gu) (a1 (bC cI))) (R1 aG) [] func202 1 (u2 UH) (fun a=>0<=a.2/\a.2 < a.1.Fields.length/\a.1.Fields.length<=1048576) fun a h=>aj_ a.1 a.2 h
def aLd (x:Item)(f:aK):Pg Bool:=.ret (dA .u64 x.Num==f.Default.Bits)
def ayF (x:Item)(f:aK):=(aLd x f).val
def aiP:aZ Z:=xx [] [] (ak (aJ nz) (a1 (jf 0))) (b1 (aV eG)) (R1 aG) [0] func288 1 (u11 aLd)
def WC:aZ Z:=Jf [aiP] iQ 288 [0] (b1 (aV eG)) func290 jI fun x b=>ayF x b
def VJ:aZ Z:=EAB [aiP,PI,WC] iQ 288 [0] (b1 (aV eG)) func206 fun x b=>ayF x b
def Jg (s:ay)(f:aK):Pg Bool:=.br (!f.dD) (.ret (aiR f.Default.re)) (.br (f.Card !=2) (.ret false) (.br (f.Union !=[]) (.ret false) (.br (!O9 f.dH.Kind f.Default.re) (.ret false) (.br ((nK f.Default.re).Bits !=f.Default.Bits) (.ret false) (.br (f.dH.Kind !=9) (.ret true) (.lt (ac5 s f.dH.Name) fun a=> .br a.2 (.ret (a.1.Items.any fun(x:Item)=>ayF x (aK.mk f.Num f.Name f.Card f.Key f.dH f.Union f.dD f.Default.re f.Notes))) (.ret false)))))))
def EN (s:ay)(f:aK):=(Jg s f).val
def adz:aZ Z:=E0 [PP,VJ,amG,aDH,UG,KT,aiP] [] (ak (aJ bH) (a1 (aJ eG))) (R1 aG) [] func203 1 (u2 Jg)
def acP (m:aO):Pg (List Str):=aL m.Fields (.each false oZ m.Fields aH (fun c b (a:List Str)=> .ix c m.Fields.length (.br (b.Card==1) (.br (b.dH.Kind==10) (.ob (bZ (a.length+1) 16) (rl (a++[b.dH.Name]))) (rl a)) (rl a))) (fun c (a:List Str)=> .ret a) [])
def MH (m:aO):=(acP m).val
theorem akF (m:aO)(h:m.Fields.length<=1048576):j_ (acP m) (fun r=>r.length<=m.Fields.length):=
 bW <| dh (fun(c:Nat) a=>a.length<=c) qb au (fun c a e d=>have b:a.length<=c:=d;aW au au (dK (fun _=>dK (fun _=>ai ((dm au au)) (af qa8)) (fun _=>af qa8)) (fun _=>af qa8))) (fun a b=>have b:a.length<=m.Fields.length:=b;af qa8)
def agD:aZ Z:=E1 [] [jS 3 (bI (fun b=>[s0 9, .slot 3 false [some 9]]) (aB cI (l1 bV)))] (a1 (aJ gu)) (R1 bV) [] func133 1 acP (fun a=>a.Fields.length<=1048576) fun a h=>(akF a h).1
end
end Go.Proofs.YtgdmjfkdbfafjaaGreatDoor
