/- Server: the data. -/
import Derived.Test.YtihakigfhcankaaGreatDoorProg
import Derived.Test.YtihakigfhcankaaGreatDoorEng15
import Derived.Test.YtihakigfhcankaaGreatDoorEng14
import Derived.Lib.Strings
import Derived.Lib.Slices
import Derived.Lib.Walk
import Derived.Lib.Bytealg
import Derived.Lib.Builder
namespace Go.Proofs.YtihakigfhcankaaGreatDoor
noncomputable section
open Go.RowKit Go.Vc
open Tryz
set_option linter.unusedVariables false
set_option linter.unusedSimpArgs false
set_option maxRecDepth 100000
set_option maxHeartbeats 4000000
structure Raw where
 Num:Int
 fA:Int
 Bits:Int
 Data:Str
deriving DecidableEq
mutual
inductive af where
 | mk (Kind_:Int) (aug:Int) (aup:Str) (aul:_root_.List af) (aun:_root_.List Pair) (ahW:_root_.List Slot) (aHa:_root_.List Raw)
inductive Slot where
 | mk (aII:Int) (aH5:af)
inductive Pair where
 | mk (aIH:af) (aH5:af)
end
def af.Kind (x:af):Int:=
 match x with
 | .mk a _ _ _ _ _ _=>a
def af.Bits (x:af):Int:=
 match x with
 | .mk _ a _ _ _ _ _=>a
def af.Text (x:af):Str:=
 match x with
 | .mk _ _ a _ _ _ _=>a
def af.List (x:af):_root_.List af:=
 match x with
 | .mk _ _ _ a _ _ _=>a
def af.Pairs (x:af):_root_.List Pair:=
 match x with
 | .mk _ _ _ _ a _ _=>a
def af.Slots (x:af):_root_.List Slot:=
 match x with
 | .mk _ _ _ _ _ a _=>a
def af.bJ (x:af):_root_.List Raw:=
 match x with
 | .mk _ _ _ _ _ _ a=>a
def af.re (x:af):af:=af.mk x.Kind x.Bits x.Text x.List x.Pairs x.Slots x.bJ
@[simp] theorem af.dM (x:af):af.re x=x:=by cases x;rfl
theorem af.eta (x:af):af.mk x.Kind x.Bits x.Text x.List x.Pairs x.Slots x.bJ=x:=by cases x;rfl
def Slot.Num (x:Slot):Int:=
 match x with
 | .mk a _=>a
def Slot.Val (x:Slot):af:=
 match x with
 | .mk _ a=>a
def Slot.re (x:Slot):Slot:=Slot.mk x.Num x.Val
@[simp] theorem Slot.dM (x:Slot):Slot.re x=x:=by cases x;rfl
theorem Slot.eta (x:Slot):Slot.mk x.Num x.Val=x:=by cases x;rfl
def Pair.Key (x:Pair):af:=
 match x with
 | .mk a _=>a
def Pair.Val (x:Pair):af:=
 match x with
 | .mk _ a=>a
def Pair.re (x:Pair):Pair:=Pair.mk x.Key x.Val
@[simp] theorem Pair.dM (x:Pair):Pair.re x=x:=by cases x;rfl
theorem Pair.eta (x:Pair):Pair.mk x.Key x.Val=x:=by cases x;rfl
structure Note where
 Name:Str
 Val:af
structure sW where
 Kind:Int
 Name:Str
deriving DecidableEq
structure aJ where
 Num:Int
 Name:Str
 Card:Int
 Key:Int
 eF:sW
 Union:Str
 dn:Bool
 Default:af
 Notes:_root_.List Note
structure nN where
 From:Int
 To:Int
deriving DecidableEq
structure bg where
 Name:Str
 Fields:_root_.List aJ
 Reserved:_root_.List nN
 Gone:_root_.List Str
 Notes:_root_.List Note
structure dG where
 Name:Str
 In:Str
 Out:Str
 Shape:Int
 Notes:_root_.List Note
structure bG where
 Name:Str
 Methods:_root_.List dG
 Notes:_root_.List Note
structure Item where
 Name:Str
 Num:Int
 Notes:_root_.List Note
structure dU where
 Name:Str
 Open:Bool
 Items:_root_.List Item
 Reserved:_root_.List nN
 Notes:_root_.List Note
structure ay where
 Messages:_root_.List bg
 Enums:_root_.List dU
 dW:_root_.List bG
structure iY where
 Kind:Int
 Key:Str
 Val:Str
 Num:Int
 nN:Int
deriving DecidableEq
structure cO where
 Method:Str
 Kind:Int
 Num:Int
 auh:Int
deriving DecidableEq
structure iP where
 S:ay
 H:_root_.List cO
 L:_root_.List iY
 Most:Int
structure Trace where
 Method:Str
 Times:_root_.List Int
deriving DecidableEq
structure mJ where
 Key:Str
 Val:Str
deriving DecidableEq
structure Status where
 Code:Int
 Text:Str
deriving DecidableEq
structure ig where
 qB:Int
 Id:Int
 Method:Str
 eY:_root_.List mJ
 fF:Int
 In:_root_.List Str
 Ready:Int
 dP:_root_.List Str
 Status:Status
 nS:Bool
deriving DecidableEq
structure Server where
 Name:Str
 ay:ay
 Handlers:_root_.List cO
 iq:_root_.List iY
 Traces:_root_.List Trace
 Tasks:_root_.List ig
 Most:Int
 mM:Bool
structure Head where
 bG:Str
 Method:Str
 fF:Int
 eY:_root_.List mJ
deriving DecidableEq
structure dY where
 Kind:Int
 Now:Int
 qB:Int
 Id:Int
 H:Head
 Shape:Int
 Data:Str
deriving DecidableEq
structure Op where
 Num:Int
 Name:Str
 Alias:Str
 Card:Int
 Key:Int
 Kind:Int
 Target:Int
 Union:Int
deriving DecidableEq
structure bu where
 Name:Str
 Ops:_root_.List Op
 VK:Int
deriving DecidableEq
structure dC where
 a_:_root_.List bu
 Enums:_root_.List dU
structure dJ where
 s:ay
 h:cO
 m:dG
 CG:_root_.List af
 one:Bool
structure qA where
 Bytes:Int
 Depth:Int
 Nodes:Int
 Text:Int
deriving DecidableEq
structure ja where
 Def:Str
 Num:Int
 Err:Int
deriving DecidableEq
structure ax where
 Ih:Str
 num:Int
 out:_root_.List ja
deriving DecidableEq
structure ai where
 p:dC
structure jb where
 e:Int
 code:Int
deriving DecidableEq
structure aK where
 Data:Str
 At:Int
 End:Int
 Depth:Int
 Nodes:Int
 Text:Int
deriving DecidableEq
structure ae where
 p:dC
 c:aK
structure aB where
 p:dC
structure iD where
 kind:Int
 targets:Int
deriving DecidableEq
inductive D where
 | bg (l:List bg)
 | dU (l:List dU)
 | bG (l:List bG)
 | cO (l:List cO)
 | iY (l:List iY)
 | dY (l:List dY)
 | Trace (l:List Trace)
 | ig (l:List ig)
 | mJ (l:List mJ)
 | Note (l:List Note)
 | str (l:List Str)
 | af (l:List af)
 | Pair (l:List Pair)
 | Slot (l:List Slot)
 | Raw (l:List Raw)
 | aJ (l:List aJ)
 | nN (l:List nN)
 | dG (l:List dG)
 | ja (l:List ja)
 | bu (l:List bu)
 | ayC (l:List (List Str))
 | Item (l:List Item)
 | Op (l:List Op)
 | jb (l:List jb)
 | i64 (l:List Int)
 | bool (l:List Bool)
 | u8 (l:List Int)
 | aeZ (l:List (List af))
 | ae0 (l:List (List Pair))
 | auk (l:List (List Raw))
 | ak5 (l:List Unit)
 | nO (l:List (Str×Bool))
 | kW (l:List (Str×iD))
def mW (d:D):Option (List (Str×Bool)):=
 match d with
 | .nO l=>some l
 | _=>none
def lC:jq D (List (Str×Bool)):=aoR D.nO mW
def rq (d:D):Option (List (Str×iD)):=
 match d with
 | .kW l=>some l
 | _=>none
def yF:jq D (List (Str×iD)):=aoR D.kW rq
def LP (d:D):Option (List Unit):=
 match d with
 | .ak5 l=>some l
 | _=>none
def xU (d:D):Option (List bg):=
 match d with
 | .bg l=>some l
 | _=>none
def rQ:jq D (List bg):=qK D.bg xU []
def JW (d:D):Option (List dU):=
 match d with
 | .dU l=>some l
 | _=>none
def gY:jq D (List dU):=qK D.dU JW []
def x9 (d:D):Option (List bG):=
 match d with
 | .bG l=>some l
 | _=>none
def yl:jq D (List bG):=qK D.bG x9 []
def yC (d:D):Option (List cO):=
 match d with
 | .cO l=>some l
 | _=>none
def uT:jq D (List cO):=qK D.cO yC []
def EZ (d:D):Option (List iY):=
 match d with
 | .iY l=>some l
 | _=>none
def qg:jq D (List iY):=qK D.iY EZ []
def uF (d:D):Option (List dY):=
 match d with
 | .dY l=>some l
 | _=>none
def qF:jq D (List dY):=qK D.dY uF []
def wo (d:D):Option (List Trace):=
 match d with
 | .Trace l=>some l
 | _=>none
def jA:jq D (List Trace):=qK D.Trace wo []
def Jq (d:D):Option (List ig):=
 match d with
 | .ig l=>some l
 | _=>none
def zV:jq D (List ig):=qK D.ig Jq []
def IW (d:D):Option (List mJ):=
 match d with
 | .mJ l=>some l
 | _=>none
def su:jq D (List mJ):=qK D.mJ IW []
def I7 (d:D):Option (List Note):=
 match d with
 | .Note l=>some l
 | _=>none
def lJ:jq D (List Note):=qK D.Note I7 []
def QS (d:D):Option (List Str):=
 match d with
 | .str l=>some l
 | _=>none
def bY:jq D (List Str):=qK D.str QS []
def Kq (d:D):Option (List af):=
 match d with
 | .af l=>some l
 | _=>none
def jh:jq D (List af):=qK D.af Kq []
def oI (d:D):Option (List Pair):=
 match d with
 | .Pair l=>some l
 | _=>none
def dZ:jq D (List Pair):=qK D.Pair oI []
def jE (d:D):Option (List Slot):=
 match d with
 | .Slot l=>some l
 | _=>none
def bF:jq D (List Slot):=qK D.Slot jE []
def lD (d:D):Option (List Raw):=
 match d with
 | .Raw l=>some l
 | _=>none
def bD:jq D (List Raw):=qK D.Raw lD []
def uu (d:D):Option (List aJ):=
 match d with
 | .aJ l=>some l
 | _=>none
def gp:jq D (List aJ):=qK D.aJ uu []
def J3 (d:D):Option (List nN):=
 match d with
 | .nN l=>some l
 | _=>none
def qH:jq D (List nN):=qK D.nN J3 []
def yB (d:D):Option (List dG):=
 match d with
 | .dG l=>some l
 | _=>none
def yA:jq D (List dG):=qK D.dG yB []
def xW (d:D):Option (List ja):=
 match d with
 | .ja l=>some l
 | _=>none
def rP:jq D (List ja):=qK D.ja xW []
def Kr (d:D):Option (List bu):=
 match d with
 | .bu l=>some l
 | _=>none
def jk:jq D (List bu):=qK D.bu Kr []
def Rl (d:D):Option (List (List Str)):=
 match d with
 | .ayC l=>some l
 | _=>none
def JB (d:D):Option (List Item):=
 match d with
 | .Item l=>some l
 | _=>none
def g_:jq D (List Item):=qK D.Item JB []
def aaU (d:D):Option (List Op):=
 match d with
 | .Op l=>some l
 | _=>none
def nG:jq D (List Op):=qK D.Op aaU []
def Dy (d:D):Option (List jb):=
 match d with
 | .jb l=>some l
 | _=>none
def EG (d:D):Option (List Int):=
 match d with
 | .i64 l=>some l
 | _=>none
def BL:jq D (List Int):=qK D.i64 EG []
def oK (d:D):Option (List Bool):=
 match d with
 | .bool l=>some l
 | _=>none
def zI:jq D (List Bool):=qK D.bool oK []
def aby (d:D):Option (List Int):=
 match d with
 | .u8 l=>some l
 | _=>none
def MP:jq D (List Int):=qK D.u8 aby []
def EH (d:D):Option (List (List af)):=
 match d with
 | .aeZ l=>some l
 | _=>none
def Yy:jq D (List (List af)):=qK D.aeZ EH []
def Fa (d:D):Option (List (List Pair)):=
 match d with
 | .ae0 l=>some l
 | _=>none
def YM:jq D (List (List Pair)):=qK D.ae0 Fa []
def JA (d:D):Option (List (List Raw)):=
 match d with
 | .auk l=>some l
 | _=>none
def ad1:jq D (List (List Raw)):=qK D.auk JA []
def og:jq D Raw:=ni (bQ (gz .i64) (bQ (gz .i64) (bQ (gz .u64) cStr))) (fun p=>Raw.mk (p.1) (p.2.1) (p.2.2.1) (p.2.2.2)) (fun b=>(b.Num,b.fA,b.Bits,b.Data))
def aI:jq D af:=ni (bQ (gz .i64) (bQ (gz .u64) (bQ cStr (bQ jh (bQ dZ (bQ bF bD)))))) (fun p=>af.mk (p.1) (p.2.1) (p.2.2.1) (p.2.2.2.1) (p.2.2.2.2.1) (p.2.2.2.2.2.1) (p.2.2.2.2.2.2)) (fun b=>(b.Kind,b.Bits,b.Text,b.List,b.Pairs,b.Slots,b.bJ))
def mg:jq D Slot:=ni (bQ (gz .i64) aI) (fun p=>Slot.mk (p.1) (p.2)) (fun b=>(b.Num,b.Val))
def uI:jq D Pair:=ni (bQ aI aI) (fun p=>Pair.mk (p.1) (p.2)) (fun b=>(b.Key,b.Val))
def FB:jq D Note:=ni (bQ cStr aI) (fun p=>Note.mk (p.1) (p.2)) (fun b=>(b.Name,b.Val))
def uZ:jq D sW:=ni (bQ (gz .i64) cStr) (fun p=>sW.mk (p.1) (p.2)) (fun b=>(b.Kind,b.Name))
def eG:jq D aJ:=ni (bQ (gz .i64) (bQ cStr (bQ (gz .i64) (bQ (gz .i64) (bQ uZ (bQ cStr (bQ aG (bQ aI lJ)))))))) (fun p=>aJ.mk (p.1) (p.2.1) (p.2.2.1) (p.2.2.2.1) (p.2.2.2.2.1) (p.2.2.2.2.2.1) (p.2.2.2.2.2.2.1) (p.2.2.2.2.2.2.2.1) (p.2.2.2.2.2.2.2.2)) (fun b=>(b.Num,b.Name,b.Card,b.Key,b.eF,b.Union,b.dn,b.Default,b.Notes))
def PI:jq D nN:=ni (bQ (gz .i64) (gz .i64)) (fun p=>nN.mk (p.1) (p.2)) (fun b=>(b.From,b.To))
def gQ:jq D bg:=ni (bQ cStr (bQ gp (bQ qH (bQ bY lJ)))) (fun p=>bg.mk (p.1) (p.2.1) (p.2.2.1) (p.2.2.2.1) (p.2.2.2.2)) (fun b=>(b.Name,b.Fields,b.Reserved,b.Gone,b.Notes))
def mX:jq D dG:=ni (bQ cStr (bQ cStr (bQ cStr (bQ (gz .i64) lJ)))) (fun p=>dG.mk (p.1) (p.2.1) (p.2.2.1) (p.2.2.2.1) (p.2.2.2.2)) (fun b=>(b.Name,b.In,b.Out,b.Shape,b.Notes))
def pV:jq D bG:=ni (bQ cStr (bQ yA lJ)) (fun p=>bG.mk (p.1) (p.2.1) (p.2.2)) (fun b=>(b.Name,b.Methods,b.Notes))
def lS:jq D Item:=ni (bQ cStr (bQ (gz .i64) lJ)) (fun p=>Item.mk (p.1) (p.2.1) (p.2.2)) (fun b=>(b.Name,b.Num,b.Notes))
def jM:jq D dU:=ni (bQ cStr (bQ aG (bQ g_ (bQ qH lJ)))) (fun p=>dU.mk (p.1) (p.2.1) (p.2.2.1) (p.2.2.2.1) (p.2.2.2.2)) (fun b=>(b.Name,b.Open,b.Items,b.Reserved,b.Notes))
def bC:jq D ay:=ni (bQ rQ (bQ gY yl)) (fun p=>ay.mk (p.1) (p.2.1) (p.2.2)) (fun b=>(b.Messages,b.Enums,b.dW))
def wO:jq D iY:=ni (bQ (gz .i64) (bQ cStr (bQ cStr (bQ (gz .i64) (gz .i64))))) (fun p=>iY.mk (p.1) (p.2.1) (p.2.2.1) (p.2.2.2.1) (p.2.2.2.2)) (fun b=>(b.Kind,b.Key,b.Val,b.Num,b.nN))
def jm:jq D cO:=ni (bQ cStr (bQ (gz .i64) (bQ (gz .i64) (gz .i64)))) (fun p=>cO.mk (p.1) (p.2.1) (p.2.2.1) (p.2.2.2)) (fun b=>(b.Method,b.Kind,b.Num,b.auh))
def pX:jq D iP:=ni (bQ bC (bQ uT (bQ qg (gz .i64)))) (fun p=>iP.mk (p.1) (p.2.1) (p.2.2.1) (p.2.2.2)) (fun b=>(b.S,b.H,b.L,b.Most))
def DN:jq D Trace:=ni (bQ cStr BL) (fun p=>Trace.mk (p.1) (p.2)) (fun b=>(b.Method,b.Times))
def KN:jq D mJ:=ni (bQ cStr cStr) (fun p=>mJ.mk (p.1) (p.2)) (fun b=>(b.Key,b.Val))
def jy:jq D Status:=ni (bQ (gz .i64) cStr) (fun p=>Status.mk (p.1) (p.2)) (fun b=>(b.Code,b.Text))
def Fj:jq D ig:=ni (bQ (gz .i64) (bQ (gz .i64) (bQ cStr (bQ su (bQ (gz .i64) (bQ bY (bQ (gz .i64) (bQ bY (bQ jy aG))))))))) (fun p=>ig.mk (p.1) (p.2.1) (p.2.2.1) (p.2.2.2.1) (p.2.2.2.2.1) (p.2.2.2.2.2.1) (p.2.2.2.2.2.2.1) (p.2.2.2.2.2.2.2.1) (p.2.2.2.2.2.2.2.2.1) (p.2.2.2.2.2.2.2.2.2)) (fun b=>(b.qB,b.Id,b.Method,b.eY,b.fF,b.In,b.Ready,b.dP,b.Status,b.nS))
def gW:jq D Server:=ni (bQ cStr (bQ bC (bQ uT (bQ qg (bQ jA (bQ zV (bQ (gz .i64) aG))))))) (fun p=>Server.mk (p.1) (p.2.1) (p.2.2.1) (p.2.2.2.1) (p.2.2.2.2.1) (p.2.2.2.2.2.1) (p.2.2.2.2.2.2.1) (p.2.2.2.2.2.2.2)) (fun b=>(b.Name,b.ay,b.Handlers,b.iq,b.Traces,b.Tasks,b.Most,b.mM))
def qh:jq D Head:=ni (bQ cStr (bQ cStr (bQ (gz .i64) su))) (fun p=>Head.mk (p.1) (p.2.1) (p.2.2.1) (p.2.2.2)) (fun b=>(b.bG,b.Method,b.fF,b.eY))
def vT:jq D dY:=ni (bQ (gz .u8) (bQ (gz .i64) (bQ (gz .i64) (bQ (gz .i64) (bQ qh (bQ (gz .i64) cStr)))))) (fun p=>dY.mk (p.1) (p.2.1) (p.2.2.1) (p.2.2.2.1) (p.2.2.2.2.1) (p.2.2.2.2.2.1) (p.2.2.2.2.2.2)) (fun b=>(b.Kind,b.Now,b.qB,b.Id,b.H,b.Shape,b.Data))
def je:jq D Op:=ni (bQ (gz .i64) (bQ cStr (bQ cStr (bQ (gz .i64) (bQ (gz .i64) (bQ (gz .i64) (bQ (gz .i64) (gz .i64)))))))) (fun p=>Op.mk (p.1) (p.2.1) (p.2.2.1) (p.2.2.2.1) (p.2.2.2.2.1) (p.2.2.2.2.2.1) (p.2.2.2.2.2.2.1) (p.2.2.2.2.2.2.2)) (fun b=>(b.Num,b.Name,b.Alias,b.Card,b.Key,b.Kind,b.Target,b.Union))
def iF:jq D bu:=ni (bQ cStr (bQ nG (gz .i64))) (fun p=>bu.mk (p.1) (p.2.1) (p.2.2)) (fun b=>(b.Name,b.Ops,b.VK))
def dX:jq D dC:=ni (bQ jk gY) (fun p=>dC.mk (p.1) (p.2)) (fun b=>(b.a_,b.Enums))
def eH:jq D dJ:=ni (bQ bC (bQ jm (bQ mX (bQ jh aG)))) (fun p=>dJ.mk (p.1) (p.2.1) (p.2.2.1) (p.2.2.2.1) (p.2.2.2.2)) (fun b=>(b.s,b.h,b.m,b.CG,b.one))
def zG:jq D qA:=ni (bQ (gz .i64) (bQ (gz .i64) (bQ (gz .i64) (gz .i64)))) (fun p=>qA.mk (p.1) (p.2.1) (p.2.2.1) (p.2.2.2)) (fun b=>(b.Bytes,b.Depth,b.Nodes,b.Text))
def Ua:jq D ja:=ni (bQ cStr (bQ (gz .i64) (gz .i64))) (fun p=>ja.mk (p.1) (p.2.1) (p.2.2)) (fun b=>(b.Def,b.Num,b.Err))
def aQ:jq D ax:=ni (bQ cStr (bQ (gz .i64) rP)) (fun p=>ax.mk (p.1) (p.2.1) (p.2.2)) (fun b=>(b.Ih,b.num,b.out))
def fK:jq D ai:=ni dX (fun p=>ai.mk p) (fun b=>(b.p))
def Sj:jq D jb:=ni (bQ (gz .i64) (gz .i64)) (fun p=>jb.mk (p.1) (p.2)) (fun b=>(b.e,b.code))
def dN:jq D aK:=ni (bQ cStr (bQ (gz .i64) (bQ (gz .i64) (bQ (gz .i64) (bQ (gz .i64) (gz .i64)))))) (fun p=>aK.mk (p.1) (p.2.1) (p.2.2.1) (p.2.2.2.1) (p.2.2.2.2.1) (p.2.2.2.2.2)) (fun b=>(b.Data,b.At,b.End,b.Depth,b.Nodes,b.Text))
def aY:jq D ae:=ni (bQ dX dN) (fun p=>ae.mk (p.1) (p.2)) (fun b=>(b.p,b.c))
def jg:jq D aB:=ni dX (fun p=>aB.mk p) (fun b=>(b.p))
def oN:Raw:=Raw.mk 0 0 0 []
instance:Inhabited Raw:=⟨oN⟩
def fM:af:=af.mk 0 0 [] [] [] [] []
instance:Inhabited af:=⟨fM⟩
def bI:Slot:=Slot.mk 0 fM
def gG:Pair:=Pair.mk fM fM
def Nu:Note:=Note.mk [] fM
def auP:sW:=sW.mk 0 []
def aN:aJ:=aJ.mk 0 [] 0 0 auP [] false fM []
def DZ:nN:=nN.mk 0 0
def iW:bg:=bg.mk [] [] [] [] []
def jv:dG:=dG.mk [] [] [] 0 []
def mf:bG:=bG.mk [] [] []
def oU:Item:=Item.mk [] 0 []
def nD:dU:=dU.mk [] false [] [] []
def r_:iY:=iY.mk 0 [] [] 0 0
def kC:cO:=cO.mk [] 0 0 0
def jZ:Trace:=Trace.mk [] []
def Nh:mJ:=mJ.mk [] []
def auf:Status:=Status.mk 0 []
def bM:ig:=ig.mk 0 0 [] [] 0 [] 0 [] auf false
def aCM:Head:=Head.mk [] [] 0 []
def mD:dY:=dY.mk 0 0 0 0 aCM 0 []
def zT:Op:=Op.mk 0 [] [] 0 0 0 0 0
def bU:bu:=bu.mk [] [] 0
def aCL:dC:=dC.mk [] []
def anq:ja:=ja.mk [] 0 0
def fQ:jb:=jb.mk 0 0
def an2:aK:=aK.mk [] 0 0 0 0 0
def O8:ae:=ae.mk aCL an2
instance:Inhabited ae:=⟨O8⟩
def aez:iD:=iD.mk 0 0
def TM:El D:=⟨bg,gQ,iW,D.bg,xU⟩
def ajd:El D:=⟨dU,jM,nD,D.dU,JW⟩
def TB:El D:=⟨bG,pV,mf,D.bG,x9⟩
def Uz:El D:=⟨cO,jm,kC,D.cO,yC⟩
def aef:El D:=⟨iY,wO,r_,D.iY,EZ⟩
def JM:El D:=⟨dY,vT,mD,D.dY,uF⟩
def aev:El D:=⟨Trace,DN,jZ,D.Trace,wo⟩
def akC:El D:=⟨ig,Fj,bM,D.ig,Jq⟩
def akL:El D:=⟨mJ,KN,Nh,D.mJ,IW⟩
def akt:El D:=⟨Note,FB,Nu,D.Note,I7⟩
def atJ:El D:=⟨Str,cStr,[],D.str,QS⟩
def akE:El D:=⟨af,aI,fM,D.af,Kq⟩
def akQ:El D:=⟨Pair,uI,gG,D.Pair,oI⟩
def ajU:El D:=⟨Slot,mg,bI,D.Slot,jE⟩
def ap2:El D:=⟨Raw,og,oN,D.Raw,lD⟩
def Xh:El D:=⟨aJ,eG,aN,D.aJ,uu⟩
def aiW:El D:=⟨nN,PI,DZ,D.nN,J3⟩
def Si:El D:=⟨dG,mX,jv,D.dG,yB⟩
def TY:El D:=⟨ja,Ua,anq,D.ja,xW⟩
def aie:El D:=⟨bu,iF,bU,D.bu,Kr⟩
def ajh:El D:=⟨List Str,bY,[],D.ayC,Rl⟩
def aiz:El D:=⟨Item,lS,oU,D.Item,JB⟩
def azn:El D:=⟨Op,je,zT,D.Op,aaU⟩
def S9:El D:=⟨jb,Sj,fQ,D.jb,Dy⟩
def asf:El D:=⟨Int,(gz .i64),0,D.i64,EG⟩
def ajM:El D:=⟨Bool,aG,false,D.bool,oK⟩
def ay0:El D:=⟨Int,(gz .u8),0,D.u8,aby⟩
def ace:El D:=⟨List af,jh,[],D.aeZ,EH⟩
def acM:El D:=⟨List Pair,dZ,[],D.ae0,Fa⟩
def aiR:El D:=⟨List Raw,bD,[],D.auk,JA⟩
def Um:El D:=⟨Unit,aik,(),D.ak5,LP⟩
def view (d:D):Vw D:=
 match d with
 | .bg l=>⟨TM,l⟩
 | .dU l=>⟨ajd,l⟩
 | .bG l=>⟨TB,l⟩
 | .cO l=>⟨Uz,l⟩
 | .iY l=>⟨aef,l⟩
 | .dY l=>⟨JM,l⟩
 | .Trace l=>⟨aev,l⟩
 | .ig l=>⟨akC,l⟩
 | .mJ l=>⟨akL,l⟩
 | .Note l=>⟨akt,l⟩
 | .str l=>⟨atJ,l⟩
 | .af l=>⟨akE,l⟩
 | .Pair l=>⟨akQ,l⟩
 | .Slot l=>⟨ajU,l⟩
 | .Raw l=>⟨ap2,l⟩
 | .aJ l=>⟨Xh,l⟩
 | .nN l=>⟨aiW,l⟩
 | .dG l=>⟨Si,l⟩
 | .ja l=>⟨TY,l⟩
 | .bu l=>⟨aie,l⟩
 | .ayC l=>⟨ajh,l⟩
 | .Item l=>⟨aiz,l⟩
 | .Op l=>⟨azn,l⟩
 | .jb l=>⟨S9,l⟩
 | .i64 l=>⟨asf,l⟩
 | .bool l=>⟨ajM,l⟩
 | .u8 l=>⟨ay0,l⟩
 | .aeZ l=>⟨ace,l⟩
 | .ae0 l=>⟨acM,l⟩
 | .auk l=>⟨aiR,l⟩
 | .ak5 l=>⟨Um,l⟩
 | .nO _=>⟨Um,[]⟩
 | .kW _=>⟨Um,[]⟩
def BR:=(kvS false pvB false)
def pI:=(kvS true (aja (pvP (pvI .i64) (pvI .i64)) (fun p=>iD.mk (p.1) (p.2)) (fun b=>(b.kind,b.targets))) aez)
def Am (d:D):Option (Mp D):=
 match d with
 | .nO l=>some (Vu BR D.nO l)
 | .kW l=>some (Vu pI D.kW l)
 | _=>none
def Gl:TypeId->Option D:=lk [(154,D.nO []),(427,D.kW [])]
def aoP:List (Nat×El D):=[(83,TM),(159,ajd),(86,TB),(65,Uz),(108,aef),(50,JM),(274,aev),(58,akC),(349,akL),(240,akt),(9,atJ),(77,akE),(328,akQ),(257,ajU),(264,ap2),(79,Xh),(236,aiW),(53,Si),(207,TY),(185,aie),(56,ajh),(216,aiz),(232,azn),(201,S9),(3,asf),(4,ajM),(5,ay0),(72,ace),(73,acM),(75,aiR)]
def oH:TypeId->Option (El D):=lk aoP
def rowOf (e:TypeId)(s:List UInt8):Option D:=if Nat.beq e 5 then some (D.u8 (Vp s))else none
def ajO:List (Nat×D):=[(0,D.jb [⟨0,0⟩,⟨23,3⟩,⟨21,6⟩,⟨22,7⟩,⟨3,7⟩,⟨17,7⟩,⟨10,4⟩,⟨9,5⟩,⟨20,8⟩,⟨24,9⟩,⟨25,13⟩,⟨11,11⟩,⟨19,11⟩])]
def S:Sh D:=uf view oH (lk ajO) rowOf Am Gl
theorem zN (d:D)(a:List (Str×Bool))(h:mW d=some a):d=D.nO a:=by
 cases d<;>simp[mW]at h
 subst h;rfl
instance anC:cZ S lC:=ajp zN
instance ayF:tu S (alr D.nO mW):=ayh zN
theorem Cm (d:D)(a:List (Str×iD))(h:rq d=some a):d=D.kW a:=by
 cases d<;>simp[rq]at h
 subst h;rfl
instance ae6:cZ S yF:=ajp Cm
theorem Bi (d:D)(a:List Unit)(h:LP d=some a):d=D.ak5 a:=by
 cases d<;>simp[LP]at h
 subst h;rfl
theorem Dc (d:D)(a:List bg)(h:xU d=some a):d=D.bg a:=by
 cases d<;>simp[xU]at h
 subst h;rfl
instance auv:cZ S rQ:=iZ Dc rfl
theorem NV (d:D)(a:List dU)(h:JW d=some a):d=D.dU a:=by
 cases d<;>simp[JW]at h
 subst h;rfl
instance aAc:cZ S gY:=iZ NV rfl
theorem Ec (d:D)(a:List bG)(h:x9 d=some a):d=D.bG a:=by
 cases d<;>simp[x9]at h
 subst h;rfl
instance aux:cZ S yl:=iZ Ec rfl
theorem D6 (d:D)(a:List cO)(h:yC d=some a):d=D.cO a:=by
 cases d<;>simp[yC]at h
 subst h;rfl
instance auu:cZ S uT:=iZ D6 rfl
theorem Jm (d:D)(a:List iY)(h:EZ d=some a):d=D.iY a:=by
 cases d<;>simp[EZ]at h
 subst h;rfl
instance ayH:cZ S qg:=iZ Jm rfl
theorem zU (d:D)(a:List dY)(h:uF d=some a):d=D.dY a:=by
 cases d<;>simp[uF]at h
 subst h;rfl
instance Ny:cZ S qF:=iZ zU rfl
theorem BJ (d:D)(a:List Trace)(h:wo d=some a):d=D.Trace a:=by
 cases d<;>simp[wo]at h
 subst h;rfl
instance ayK:cZ S jA:=iZ BJ rfl
instance aHb {e:TypeId}:tu S (j_ e D.Trace wo):=BN BJ
theorem Ou (d:D)(a:List ig)(h:Jq d=some a):d=D.ig a:=by
 cases d<;>simp[Jq]at h
 subst h;rfl
instance aAi:cZ S zV:=iZ Ou rfl
theorem Ob (d:D)(a:List mJ)(h:IW d=some a):d=D.mJ a:=by
 cases d<;>simp[IW]at h
 subst h;rfl
instance aAf:cZ S su:=iZ Ob rfl
theorem OI (d:D)(a:List Note)(h:I7 d=some a):d=D.Note a:=by
 cases d<;>simp[I7]at h
 subst h;rfl
instance ae3:cZ S lJ:=iZ OI rfl
theorem SI (d:D)(a:List Str)(h:QS d=some a):d=D.str a:=by
 cases d<;>simp[QS]at h
 subst h;rfl
instance ahZ:cZ S bY:=iZ SI rfl
theorem NP (d:D)(a:List af)(h:Kq d=some a):d=D.af a:=by
 cases d<;>simp[Kq]at h
 subst h;rfl
instance ae2:cZ S jh:=iZ NP rfl
theorem DF (d:D)(a:List Pair)(h:oI d=some a):d=D.Pair a:=by
 cases d<;>simp[oI]at h
 subst h;rfl
instance ae4:cZ S dZ:=iZ DF rfl
instance aHL {e:TypeId}:tu S (j_ e D.Pair oI):=BN DF
theorem Dp (d:D)(a:List Slot)(h:jE d=some a):d=D.Slot a:=by
 cases d<;>simp[jE]at h
 subst h;rfl
instance aAh:cZ S bF:=iZ Dp rfl
instance aHM {e:TypeId}:tu S (j_ e D.Slot jE):=BN Dp
theorem Hm (d:D)(a:List Raw)(h:lD d=some a):d=D.Raw a:=by
 cases d<;>simp[lD]at h
 subst h;rfl
instance ahY:cZ S bD:=iZ Hm rfl
instance aH7 {e:TypeId}:tu S (j_ e D.Raw lD):=BN Hm
theorem yV (d:D)(a:List aJ)(h:uu d=some a):d=D.aJ a:=by
 cases d<;>simp[uu]at h
 subst h;rfl
instance auM:cZ S gp:=iZ yV rfl
instance aEo {e:TypeId}:tu S (j_ e D.aJ uu):=BN yV
theorem N_ (d:D)(a:List nN)(h:J3 d=some a):d=D.nN a:=by
 cases d<;>simp[J3]at h
 subst h;rfl
instance ae5:cZ S qH:=iZ N_ rfl
theorem C9 (d:D)(a:List dG)(h:yB d=some a):d=D.dG a:=by
 cases d<;>simp[yB]at h
 subst h;rfl
instance aut:cZ S yA:=iZ C9 rfl
theorem Du (d:D)(a:List ja)(h:xW d=some a):d=D.ja a:=by
 cases d<;>simp[xW]at h
 subst h;rfl
instance auw:cZ S rP:=iZ Du rfl
theorem Oc (d:D)(a:List bu)(h:Kr d=some a):d=D.bu a:=by
 cases d<;>simp[Kr]at h
 subst h;rfl
instance aAg:cZ S jk:=iZ Oc rfl
theorem acL (d:D)(a:List (List Str))(h:Rl d=some a):d=D.ayC a:=by
 cases d<;>simp[Rl]at h
 subst h;rfl
theorem NZ (d:D)(a:List Item)(h:JB d=some a):d=D.Item a:=by
 cases d<;>simp[JB]at h
 subst h;rfl
instance aAd:cZ S g_:=iZ NZ rfl
theorem Yq (d:D)(a:List Op)(h:aaU d=some a):d=D.Op a:=by
 cases d<;>simp[aaU]at h
 subst h;rfl
instance aEp:cZ S nG:=iZ Yq rfl
theorem Tt (d:D)(a:List jb)(h:Dy d=some a):d=D.jb a:=by
 cases d<;>simp[Dy]at h
 subst h;rfl
theorem GH (d:D)(a:List Int)(h:EG d=some a):d=D.i64 a:=by
 cases d<;>simp[EG]at h
 subst h;rfl
instance aDZ:cZ S BL:=iZ GH rfl
instance aH8 {e:TypeId}:tu S (j_ e D.i64 EG):=BN GH
theorem DD (d:D)(a:List Bool)(h:oK d=some a):d=D.bool a:=by
 cases d<;>simp[oK]at h
 subst h;rfl
instance aAj:cZ S zI:=iZ DD rfl
instance aHN {e:TypeId}:tu S (j_ e D.bool oK):=BN DD
theorem Xf (d:D)(a:List Int)(h:aby d=some a):d=D.u8 a:=by
 cases d<;>simp[aby]at h
 subst h;rfl
instance aEq:cZ S MP:=iZ Xf rfl
theorem KE (d:D)(a:List (List af))(h:EH d=some a):d=D.aeZ a:=by
 cases d<;>simp[EH]at h
 subst h;rfl
instance ayI:cZ S Yy:=iZ KE rfl
theorem Iw (d:D)(a:List (List Pair))(h:Fa d=some a):d=D.ae0 a:=by
 cases d<;>simp[Fa]at h
 subst h;rfl
instance ayJ:cZ S YM:=iZ Iw rfl
theorem NJ (d:D)(a:List (List Raw))(h:JA d=some a):d=D.auk a:=by
 cases d<;>simp[JA]at h
 subst h;rfl
instance aAe:cZ S ad1:=iZ NJ rfl
instance Y5:cZ S og:=gm inferInstance fun _=>rfl
instance VL:cZ S aI:=gm inferInstance fun _=>rfl
instance VS:cZ S mg:=gm inferInstance fun _=>rfl
instance VR:cZ S uI:=gm inferInstance fun _=>rfl
instance VQ:cZ S FB:=gm inferInstance fun _=>rfl
instance aAb:cZ S uZ:=gm inferInstance fun _=>rfl
instance KT:cZ S eG:=gm inferInstance fun _=>rfl
instance VT:cZ S PI:=gm inferInstance fun _=>rfl
instance zg:cZ S gQ:=gm inferInstance fun _=>rfl
instance Gu:cZ S mX:=gm inferInstance fun _=>rfl
instance Gw:cZ S pV:=gm inferInstance fun _=>rfl
instance VN:cZ S lS:=gm inferInstance fun _=>rfl
instance VM:cZ S jM:=gm inferInstance fun _=>rfl
instance ab5:cZ S bC:=gm inferInstance fun _=>rfl
instance O0:cZ S wO:=gm inferInstance fun _=>rfl
instance Gv:cZ S jm:=gm inferInstance fun _=>rfl
instance akZ:cZ S pX:=gm inferInstance fun _=>rfl
instance ae7:cZ S DN:=gm inferInstance fun _=>rfl
instance VO:cZ S KN:=gm inferInstance fun _=>rfl
instance ayN:cZ S jy:=gm inferInstance fun _=>rfl
instance ah1:cZ S Fj:=gm inferInstance fun _=>rfl
instance ayM:cZ S gW:=gm inferInstance fun _=>rfl
instance aDY:cZ S qh:=gm inferInstance fun _=>rfl
instance Cf:cZ S vT:=gm inferInstance fun _=>rfl
instance auy:cZ S je:=gm inferInstance fun _=>rfl
instance ah0:cZ S iF:=gm inferInstance fun _=>rfl
instance aD0:cZ S dX:=gm inferInstance fun _=>rfl
instance ak0:cZ S eH:=gm inferInstance fun _=>rfl
instance ayL:cZ S zG:=gm inferInstance fun _=>rfl
instance WZ:cZ S Ua:=gm inferInstance fun _=>rfl
instance oz:cZ S aQ:=gm inferInstance fun _=>rfl
instance aff:cZ S fK:=gm inferInstance fun _=>rfl
instance W9:cZ S Sj:=gm inferInstance fun _=>rfl
instance ayG:cZ S dN:=gm inferInstance fun _=>rfl
instance afe:cZ S aY:=gm inferInstance fun _=>rfl
instance afd:cZ S jg:=gm inferInstance fun _=>rfl
theorem aAE:auq S view oH:=by
 refine⟨fun e E h l=> ?_,fun d l=> ?_,fun d d2 l2 h=> ?_,fun d=> ?_⟩
 ·have:=Gz h;simp only[aoP,yR,V6,V7,or_false]at this;rcases this with⟨_,rfl⟩ | ⟨_,rfl⟩ | ⟨_,rfl⟩ | ⟨_,rfl⟩ | ⟨_,rfl⟩ | ⟨_,rfl⟩ | ⟨_,rfl⟩ | ⟨_,rfl⟩ | ⟨_,rfl⟩ | ⟨_,rfl⟩ | ⟨_,rfl⟩ | ⟨_,rfl⟩ | ⟨_,rfl⟩ | ⟨_,rfl⟩ | ⟨_,rfl⟩ | ⟨_,rfl⟩ | ⟨_,rfl⟩ | ⟨_,rfl⟩ | ⟨_,rfl⟩ | ⟨_,rfl⟩ | ⟨_,rfl⟩ | ⟨_,rfl⟩ | ⟨_,rfl⟩ | ⟨_,rfl⟩ | ⟨_,rfl⟩ | ⟨_,rfl⟩ | ⟨_,rfl⟩ | ⟨_,rfl⟩ | ⟨_,rfl⟩ | ⟨_,rfl⟩<;>rfl
 ·cases d<;>rfl
 ·cases d
  ·rw[Dc d2 l2 h];rfl
  ·rw[NV d2 l2 h];rfl
  ·rw[Ec d2 l2 h];rfl
  ·rw[D6 d2 l2 h];rfl
  ·rw[Jm d2 l2 h];rfl
  ·rw[zU d2 l2 h];rfl
  ·rw[BJ d2 l2 h];rfl
  ·rw[Ou d2 l2 h];rfl
  ·rw[Ob d2 l2 h];rfl
  ·rw[OI d2 l2 h];rfl
  ·rw[SI d2 l2 h];rfl
  ·rw[NP d2 l2 h];rfl
  ·rw[DF d2 l2 h];rfl
  ·rw[Dp d2 l2 h];rfl
  ·rw[Hm d2 l2 h];rfl
  ·rw[yV d2 l2 h];rfl
  ·rw[N_ d2 l2 h];rfl
  ·rw[C9 d2 l2 h];rfl
  ·rw[Du d2 l2 h];rfl
  ·rw[Oc d2 l2 h];rfl
  ·rw[acL d2 l2 h];rfl
  ·rw[NZ d2 l2 h];rfl
  ·rw[Yq d2 l2 h];rfl
  ·rw[Tt d2 l2 h];rfl
  ·rw[GH d2 l2 h];rfl
  ·rw[DD d2 l2 h];rfl
  ·rw[Xf d2 l2 h];rfl
  ·rw[KE d2 l2 h];rfl
  ·rw[Iw d2 l2 h];rfl
  ·rw[NJ d2 l2 h];rfl
  ·rw[Bi d2 l2 h];rfl
  ·rw[Bi d2 l2 h];rfl
  ·rw[Bi d2 l2 h];rfl
 ·cases d
  ·exact zg
  ·exact VM
  ·exact Gw
  ·exact Gv
  ·exact O0
  ·exact Cf
  ·exact ae7
  ·exact ah1
  ·exact VO
  ·exact VQ
  ·exact aaL
  ·exact VL
  ·exact VR
  ·exact VS
  ·exact Y5
  ·exact KT
  ·exact VT
  ·exact Gu
  ·exact WZ
  ·exact ah0
  ·exact ahZ
  ·exact VN
  ·exact auy
  ·exact W9
  ·exact(yg _)
  ·exact Vx
  ·exact(yg _)
  ·exact ae2
  ·exact ae4
  ·exact ahY
  ·exact JR
  ·exact JR
  ·exact JR
theorem aDw:aum S view oH S.Po S.text Am Gl where
 inj:=fun d l=>by cases d<;>rfl
 el:=fun e E h l=>by
  have:=Gz h;simp only[aoP,yR,V6,V7,or_false]at this;rcases this with⟨_,rfl⟩ | ⟨_,rfl⟩ | ⟨_,rfl⟩ | ⟨_,rfl⟩ | ⟨_,rfl⟩ | ⟨_,rfl⟩ | ⟨_,rfl⟩ | ⟨_,rfl⟩ | ⟨_,rfl⟩ | ⟨_,rfl⟩ | ⟨_,rfl⟩ | ⟨_,rfl⟩ | ⟨_,rfl⟩ | ⟨_,rfl⟩ | ⟨_,rfl⟩ | ⟨_,rfl⟩ | ⟨_,rfl⟩ | ⟨_,rfl⟩ | ⟨_,rfl⟩ | ⟨_,rfl⟩ | ⟨_,rfl⟩ | ⟨_,rfl⟩ | ⟨_,rfl⟩ | ⟨_,rfl⟩ | ⟨_,rfl⟩ | ⟨_,rfl⟩ | ⟨_,rfl⟩ | ⟨_,rfl⟩ | ⟨_,rfl⟩ | ⟨_,rfl⟩<;>rfl
 txt:=fun e s d h=>by
  have h:rowOf e s=some d:=h;unfold rowOf at h;split at h
  ·injection h with h
   subst h;rfl
  ·cases h
 Po:=fun i d h=>by
  have h:lk ajO i=some d:=h;have:=Gz h;simp only[ajO,yR,V6,V7,or_false]at this;rcases this with⟨_,rfl⟩<;>rfl
 size:=fun d m h=>by
  cases d<;>first
   | (cases h;done)
   | (have h2:=Qc1 h;subst h2;exact⟨rfl,rfl,ajb (apt aEi) (fun _=>rfl) _⟩)
   | (have h2:=Qc1 h;subst h2;exact⟨rfl,rfl,ajb (apt (ap_ (aEj (hc:=(auK .i64)) (hd:=(auK .i64))) (fun _=>rfl))) (fun _=>rfl) _⟩)
 new:=fun t d h=>by
  have:=Gz h;simp only[yR,V6,V7,or_false]at this;rcases this with⟨_,rfl⟩ | ⟨_,rfl⟩<;>exact⟨_,rfl,rfl⟩
theorem amq:jd S:=aqj aAE (fun e s d h=>by
 unfold rowOf at h;split at h
 ·injection h with h
  subst h;exact⟨rfl,yE s,fun i _=>Qd (Lf.int .u8) (asR s i)⟩
 ·cases h) aDw
def tys:List (Nat×Ty):=
 [(3,⟨23,false,1,8,[.int .i64 0],[],none,[],false,none,false,none⟩),
  (4,⟨1,false,1,1,[.bool false],[],none,[],false,none,false,none⟩),
  (5,⟨24,false,1,1,[.int .u8 0],[],none,[],false,none,false,none⟩),
  (9,⟨3,false,1,16,[.string ⟨#[]⟩],[],none,[],false,none,false,none⟩),
  (20,⟨0,false,1,16,[.nilIface],[],none,[],false,none,false,none⟩),
  (21,⟨22,false,1,4,[.int .i32 0],[],none,[],false,none,false,none⟩),
  (22,⟨4,false,1,24,[.slice none 0 0],[],some 83,[],false,none,false,none⟩),
  (23,⟨4,false,1,24,[.slice none 0 0],[],some 159,[],false,none,false,none⟩),
  (24,⟨4,false,1,24,[.slice none 0 0],[],some 86,[],false,none,false,none⟩),
  (26,⟨5,true,3,72,[.slice none 0 0, .slice none 0 0, .slice none 0 0],[(0,1,false),(1,1,false),(2,1,false)],none,[],false,none,true,none⟩),
  (27,⟨4,false,1,24,[.slice none 0 0],[],some 65,[],false,none,false,none⟩),
  (28,⟨4,false,1,24,[.slice none 0 0],[],some 108,[],false,none,false,none⟩),
  (30,⟨5,true,6,128,[.slice none 0 0, .slice none 0 0, .slice none 0 0, .slice none 0 0, .slice none 0 0, .int .i64 0],[(0,3,true),(3,1,false),(4,1,false),(5,1,false)],none,[],false,none,true,none⟩),
  (31,⟨4,false,1,24,[.slice none 0 0],[],some 50,[],false,none,false,none⟩),
  (34,⟨4,false,1,24,[.slice none 0 0],[],some 274,[],true,none,false,none⟩),
  (35,⟨4,false,1,24,[.slice none 0 0],[],some 58,[],false,none,false,none⟩),
  (37,⟨5,true,10,200,[.string ⟨#[]⟩, .slice none 0 0, .slice none 0 0, .slice none 0 0, .slice none 0 0, .slice none 0 0, .slice none 0 0, .slice none 0 0, .int .i64 0, .bool false],[(0,1,false),(1,3,true),(4,1,false),(5,1,false),(6,1,false),(7,1,false),(8,1,false),(9,1,false)],none,[],false,none,true,none⟩),
  (38,⟨23,false,1,8,[.int .i64 0],[],none,[],false,none,false,none⟩),
  (43,⟨5,true,2,24,[.int .i64 0, .string ⟨#[]⟩],[(0,1,false),(1,1,false)],none,[2,3],false,none,true,none⟩),
  (46,⟨4,false,1,24,[.slice none 0 0],[],some 349,[],true,none,false,none⟩),
  (48,⟨5,true,4,64,[.string ⟨#[]⟩, .string ⟨#[]⟩, .int .i64 0, .slice none 0 0],[(0,1,false),(1,1,false),(2,1,false),(3,1,false)],none,[],false,none,true,none⟩),
  (50,⟨5,true,10,120,[.int .u8 0, .int .i64 0, .int .i64 0, .int .i64 0, .string ⟨#[]⟩, .string ⟨#[]⟩, .int .i64 0, .slice none 0 0, .int .i64 0, .string ⟨#[]⟩],[(0,1,false),(1,1,false),(2,1,false),(3,1,false),(4,4,true),(8,1,false),(9,1,false)],none,[],false,none,true,none⟩),
  (51,⟨4,false,1,24,[.slice none 0 0],[],some 240,[],false,none,false,none⟩),
  (53,⟨5,true,5,80,[.string ⟨#[]⟩, .string ⟨#[]⟩, .string ⟨#[]⟩, .int .i64 0, .slice none 0 0],[(0,1,false),(1,1,false),(2,1,false),(3,1,false),(4,1,false)],none,[],false,none,true,none⟩),
  (56,⟨4,false,1,24,[.slice none 0 0],[],some 9,[],false,none,false,none⟩),
  (58,⟨5,true,11,152,[.int .i64 0, .int .i64 0, .string ⟨#[]⟩, .slice none 0 0, .int .i64 0, .slice none 0 0, .int .i64 0, .slice none 0 0, .int .i64 0, .string ⟨#[]⟩, .bool false],[(0,1,false),(1,1,false),(2,1,false),(3,1,false),(4,1,false),(5,1,false),(6,1,false),(7,1,false),(8,2,true),(10,1,false)],none,[],false,none,true,none⟩),
  (62,⟨7,false,1,8,[.nilFunc],[],none,[],false,none,false,none⟩),
  (65,⟨5,true,4,40,[.string ⟨#[]⟩, .int .i64 0, .int .i64 0, .int .i64 0],[(0,1,false),(1,1,false),(2,1,false),(3,1,false)],none,[3,2,2,2],false,none,true,none⟩),
  (70,⟨5,true,2,24,[.int .i64 0, .string ⟨#[]⟩],[(0,1,false),(1,1,false)],none,[2,3],false,none,true,none⟩),
  (71,⟨27,false,1,8,[.int .u64 0],[],none,[],false,none,false,none⟩),
  (72,⟨4,false,1,24,[.slice none 0 0],[],some 77,[],false,none,false,none⟩),
  (73,⟨4,false,1,24,[.slice none 0 0],[],some 328,[],false,none,false,none⟩),
  (74,⟨4,false,1,24,[.slice none 0 0],[],some 257,[],false,none,false,none⟩),
  (75,⟨4,false,1,24,[.slice none 0 0],[],some 264,[],false,none,false,none⟩),
  (77,⟨5,true,7,128,[.int .i64 0, .int .u64 0, .string ⟨#[]⟩, .slice none 0 0, .slice none 0 0, .slice none 0 0, .slice none 0 0],[(0,1,false),(1,1,false),(2,1,false),(3,1,false),(4,1,false),(5,1,false),(6,1,false)],none,[],false,none,true,none⟩),
  (79,⟨5,true,16,240,[.int .i64 0, .string ⟨#[]⟩, .int .i64 0, .int .i64 0, .int .i64 0, .string ⟨#[]⟩, .string ⟨#[]⟩, .bool false, .int .i64 0, .int .u64 0, .string ⟨#[]⟩, .slice none 0 0, .slice none 0 0, .slice none 0 0, .slice none 0 0, .slice none 0 0],[(0,1,false),(1,1,false),(2,1,false),(3,1,false),(4,2,true),(6,1,false),(7,1,false),(8,7,true),(15,1,false)],none,[],false,none,true,none⟩),
  (80,⟨4,false,1,24,[.slice none 0 0],[],some 79,[],false,none,false,none⟩),
  (81,⟨4,false,1,24,[.slice none 0 0],[],some 236,[],false,none,false,none⟩),
  (83,⟨5,true,5,112,[.string ⟨#[]⟩, .slice none 0 0, .slice none 0 0, .slice none 0 0, .slice none 0 0],[(0,1,false),(1,1,false),(2,1,false),(3,1,false),(4,1,false)],none,[],false,none,true,none⟩),
  (84,⟨4,false,1,24,[.slice none 0 0],[],some 53,[],false,none,false,none⟩),
  (86,⟨5,true,3,64,[.string ⟨#[]⟩, .slice none 0 0, .slice none 0 0],[(0,1,false),(1,1,false),(2,1,false)],none,[],false,none,true,none⟩),
  (100,⟨7,false,1,8,[.nilFunc],[],none,[],false,none,false,none⟩),
  (103,⟨4,false,1,24,[.slice none 0 0],[],some 207,[],false,none,false,none⟩),
  (108,⟨5,true,5,56,[.int .i64 0, .string ⟨#[]⟩, .string ⟨#[]⟩, .int .i64 0, .int .i64 0],[(0,1,false),(1,1,false),(2,1,false),(3,1,false),(4,1,false)],none,[2,3,3,2,2],false,none,true,none⟩),
  (113,⟨4,false,1,24,[.slice none 0 0],[],some 185,[],false,none,false,none⟩),
  (115,⟨5,true,2,48,[.slice none 0 0, .slice none 0 0],[(0,1,false),(1,1,false)],none,[],false,none,true,none⟩),
  (119,⟨5,true,14,224,[.slice none 0 0, .slice none 0 0, .slice none 0 0, .string ⟨#[]⟩, .int .i64 0, .int .i64 0, .int .i64 0, .string ⟨#[]⟩, .string ⟨#[]⟩, .string ⟨#[]⟩, .int .i64 0, .slice none 0 0, .slice none 0 0, .bool false],[(0,3,true),(3,4,true),(7,5,true),(12,1,false),(13,1,false)],none,[],false,none,true,none⟩),
  (123,⟨5,true,4,32,[.int .i64 0, .int .i64 0, .int .i64 0, .int .i64 0],[(0,1,false),(1,1,false),(2,1,false),(3,1,false)],none,[2,2,2,2],false,none,true,none⟩),
  (125,⟨7,false,1,8,[.nilFunc],[],none,[],false,none,false,none⟩),
  (146,⟨6,false,1,8,[.pointer none],[],none,[],false,none,false,some (148,148)⟩),
  (148,⟨5,true,3,48,[.string ⟨#[]⟩, .int .i64 0, .slice none 0 0],[(0,1,false),(1,1,false),(2,1,false)],none,[],false,none,true,none⟩),
  (149,⟨0,true,3,72,[.slice none 0 0, .slice none 0 0, .slice none 0 0],[],none,[],true,some (56,3),true,none⟩),
  (154,⟨0,false,1,8,[.map none],[],none,[],false,none,false,some (9,4)⟩),
  (157,⟨4,false,1,24,[.slice none 0 0],[],some 216,[],false,none,false,none⟩),
  (159,⟨5,true,5,96,[.string ⟨#[]⟩, .bool false, .slice none 0 0, .slice none 0 0, .slice none 0 0],[(0,1,false),(1,1,false),(2,1,false),(3,1,false),(4,1,false)],none,[],false,none,true,none⟩),
  (165,⟨7,false,1,8,[.nilFunc],[],none,[],false,none,false,none⟩),
  (168,⟨5,true,2,32,[.string ⟨#[]⟩, .string ⟨#[]⟩],[(0,1,false),(1,1,false)],none,[3,3],false,none,true,none⟩),
  (169,⟨5,true,2,32,[.string ⟨#[]⟩, .string ⟨#[]⟩],[(0,1,false),(1,1,false)],none,[3,3],false,none,true,none⟩),
  (172,⟨5,true,1,8,[.int .i64 0],[(0,1,false)],none,[2],false,none,true,none⟩),
  (175,⟨5,true,2,16,[.int .i64 0, .int .i64 0],[(0,1,false),(1,1,false)],none,[2,2],false,none,true,none⟩),
  (177,⟨5,true,1,8,[.int .i64 0],[(0,1,false)],none,[2],false,none,true,none⟩),
  (179,⟨5,true,0,0,[],[],none,[],false,none,true,none⟩),
  (183,⟨4,false,1,24,[.slice none 0 0],[],some 232,[],false,none,false,none⟩),
  (185,⟨5,true,3,48,[.string ⟨#[]⟩, .slice none 0 0, .int .i64 0],[(0,1,false),(1,1,false),(2,1,false)],none,[],false,none,true,none⟩),
  (195,⟨5,true,2,48,[.slice none 0 0, .slice none 0 0],[(0,2,true)],none,[],false,none,true,none⟩),
  (201,⟨5,true,2,16,[.int .i64 0, .int .i64 0],[(0,1,false),(1,1,false)],none,[2,2],false,none,true,none⟩),
  (202,⟨0,true,26,208,[.int .i64 0, .int .i64 0, .int .i64 0, .int .i64 0, .int .i64 0, .int .i64 0, .int .i64 0, .int .i64 0, .int .i64 0, .int .i64 0, .int .i64 0, .int .i64 0, .int .i64 0, .int .i64 0, .int .i64 0, .int .i64 0, .int .i64 0, .int .i64 0, .int .i64 0, .int .i64 0, .int .i64 0, .int .i64 0, .int .i64 0, .int .i64 0, .int .i64 0, .int .i64 0],[],none,[],false,some (201,13),true,none⟩),
  (207,⟨5,true,3,32,[.string ⟨#[]⟩, .int .i64 0, .int .i64 0],[(0,1,false),(1,1,false),(2,1,false)],none,[3,2,2],false,none,true,none⟩),
  (216,⟨5,true,3,48,[.string ⟨#[]⟩, .int .i64 0, .slice none 0 0],[(0,1,false),(1,1,false),(2,1,false)],none,[],false,none,true,none⟩),
  (218,⟨7,false,1,8,[.nilFunc],[],none,[],false,none,false,none⟩),
  (223,⟨7,false,1,8,[.nilFunc],[],none,[],false,none,false,none⟩),
  (226,⟨7,false,1,8,[.nilFunc],[],none,[],false,none,false,none⟩),
  (228,⟨7,false,1,8,[.nilFunc],[],none,[],false,none,false,none⟩),
  (232,⟨5,true,8,80,[.int .i64 0, .string ⟨#[]⟩, .string ⟨#[]⟩, .int .i64 0, .int .i64 0, .int .i64 0, .int .i64 0, .int .i64 0],[(0,1,false),(1,1,false),(2,1,false),(3,1,false),(4,1,false),(5,1,false),(6,1,false),(7,1,false)],none,[2,3,3,2,2,2,2,2],false,none,true,none⟩),
  (236,⟨5,true,2,16,[.int .i64 0, .int .i64 0],[(0,1,false),(1,1,false)],none,[2,2],false,none,true,none⟩),
  (240,⟨5,true,8,144,[.string ⟨#[]⟩, .int .i64 0, .int .u64 0, .string ⟨#[]⟩, .slice none 0 0, .slice none 0 0, .slice none 0 0, .slice none 0 0],[(0,1,false),(1,7,true)],none,[],false,none,true,none⟩),
  (242,⟨5,true,6,56,[.string ⟨#[]⟩, .int .i64 0, .int .i64 0, .int .i64 0, .int .i64 0, .int .i64 0],[(0,1,false),(1,1,false),(2,1,false),(3,1,false),(4,1,false),(5,1,false)],none,[3,2,2,2,2,2],false,none,true,none⟩),
  (245,⟨6,false,1,8,[.pointer none],[],none,[],false,none,false,some (247,247)⟩),
  (247,⟨5,true,8,104,[.slice none 0 0, .slice none 0 0, .string ⟨#[]⟩, .int .i64 0, .int .i64 0, .int .i64 0, .int .i64 0, .int .i64 0],[(0,2,true),(2,6,true)],none,[],false,none,true,none⟩),
  (252,⟨7,false,1,8,[.nilFunc],[],none,[],false,none,false,none⟩),
  (257,⟨5,true,8,136,[.int .i64 0, .int .i64 0, .int .u64 0, .string ⟨#[]⟩, .slice none 0 0, .slice none 0 0, .slice none 0 0, .slice none 0 0],[(0,1,false),(1,7,true)],none,[],false,none,true,none⟩),
  (260,⟨5,true,2,48,[.slice none 0 0, .slice none 0 0],[(0,2,true)],none,[],false,none,true,none⟩),
  (264,⟨5,true,4,40,[.int .i64 0, .int .i64 0, .int .u64 0, .string ⟨#[]⟩],[(0,1,false),(1,1,false),(2,1,false),(3,1,false)],none,[2,2,2,3],false,none,true,none⟩),
  (272,⟨4,false,1,24,[.slice none 0 0],[],some 3,[],false,none,false,none⟩),
  (274,⟨5,true,2,40,[.string ⟨#[]⟩, .slice none 0 0],[(0,1,false),(1,1,false)],none,[],false,none,true,none⟩),
  (277,⟨7,false,1,8,[.nilFunc],[],none,[],false,none,false,none⟩),
  (282,⟨0,true,26,416,[.string ⟨#[]⟩, .string ⟨#[]⟩, .string ⟨#[]⟩, .string ⟨#[]⟩, .string ⟨#[]⟩, .string ⟨#[]⟩, .string ⟨#[]⟩, .string ⟨#[]⟩, .string ⟨#[]⟩, .string ⟨#[]⟩, .string ⟨#[]⟩, .string ⟨#[]⟩, .string ⟨#[]⟩, .string ⟨#[]⟩, .string ⟨#[]⟩, .string ⟨#[]⟩, .string ⟨#[]⟩, .string ⟨#[]⟩, .string ⟨#[]⟩, .string ⟨#[]⟩, .string ⟨#[]⟩, .string ⟨#[]⟩, .string ⟨#[]⟩, .string ⟨#[]⟩, .string ⟨#[]⟩, .string ⟨#[]⟩],[],none,[3,3,3,3,3,3,3,3,3,3,3,3,3,3,3,3,3,3,3,3,3,3,3,3,3,3],false,some (9,26),true,none⟩),
  (287,⟨7,false,1,8,[.nilFunc],[],none,[],false,none,false,none⟩),
  (293,⟨7,false,1,8,[.nilFunc],[],none,[],false,none,false,none⟩),
  (295,⟨7,false,1,8,[.nilFunc],[],none,[],false,none,false,none⟩),
  (298,⟨27,false,1,8,[.int .u64 0],[],none,[],false,none,false,none⟩),
  (302,⟨0,true,256,256,(List.replicate 256 (.bool false)),[],none,(List.replicate 256 1),false,some (4,256),true,none⟩),
  (306,⟨6,false,1,8,[.pointer none],[],none,[],false,none,false,some (302,302)⟩),
  (309,⟨7,false,1,8,[.nilFunc],[],none,[],false,none,false,none⟩),
  (326,⟨7,false,1,8,[.nilFunc],[],none,[],false,none,false,none⟩),
  (328,⟨5,true,14,256,[.int .i64 0, .int .u64 0, .string ⟨#[]⟩, .slice none 0 0, .slice none 0 0, .slice none 0 0, .slice none 0 0, .int .i64 0, .int .u64 0, .string ⟨#[]⟩, .slice none 0 0, .slice none 0 0, .slice none 0 0, .slice none 0 0],[(0,7,true),(7,7,true)],none,[],false,none,true,none⟩),
  (333,⟨7,false,1,8,[.nilFunc],[],none,[],false,none,false,none⟩),
  (335,⟨7,false,1,8,[.nilFunc],[],none,[],false,none,false,none⟩),
  (337,⟨6,false,1,8,[.pointer none],[],none,[],false,none,false,some (340,340)⟩),
  (338,⟨4,false,1,24,[.slice none 0 0],[],some 5,[],true,none,false,none⟩),
  (340,⟨5,true,2,32,[.pointer none, .slice none 0 0],[(0,1,false),(1,1,false)],none,[],true,none,true,none⟩),
  (344,⟨0,false,1,16,[.nilIface],[],none,[],false,none,false,none⟩),
  (349,⟨5,true,2,32,[.string ⟨#[]⟩, .string ⟨#[]⟩],[(0,1,false),(1,1,false)],none,[3,3],false,none,true,none⟩),
  (352,⟨7,false,1,8,[.nilFunc],[],none,[],false,none,false,none⟩),
  (375,⟨7,false,1,8,[.nilFunc],[],none,[],false,none,false,none⟩),
  (380,⟨7,false,1,8,[.nilFunc],[],none,[],false,none,false,none⟩),
  (383,⟨6,false,1,8,[.pointer none],[],none,[],false,none,false,some (264,264)⟩),
  (385,⟨7,false,1,8,[.nilFunc],[],none,[],false,none,false,none⟩),
  (387,⟨5,true,1,8,[.nilFunc],[(0,1,false)],none,[],false,none,true,none⟩),
  (400,⟨7,false,1,8,[.nilFunc],[],none,[],false,none,false,none⟩),
  (402,⟨7,false,1,8,[.nilFunc],[],none,[],false,none,false,none⟩),
  (404,⟨7,false,1,8,[.nilFunc],[],none,[],false,none,false,none⟩),
  (406,⟨7,false,1,8,[.nilFunc],[],none,[],false,none,false,none⟩),
  (408,⟨7,false,1,8,[.nilFunc],[],none,[],false,none,false,none⟩),
  (411,⟨4,false,1,24,[.slice none 0 0],[],some 4,[],false,none,false,none⟩),
  (418,⟨6,false,1,8,[.pointer none],[],none,[],false,none,false,some (5,5)⟩),
  (425,⟨5,true,2,16,[.int .i64 0, .int .i64 0],[(0,1,false),(1,1,false)],none,[2,2],false,none,true,none⟩),
  (427,⟨0,false,1,8,[.map none],[],none,[],false,none,false,some (9,425)⟩),
  (452,⟨7,false,1,8,[.nilFunc],[],none,[],false,none,false,none⟩),
  (453,⟨7,false,1,8,[.nilFunc],[],none,[],false,none,false,none⟩),
  (482,⟨5,true,7,128,[.int .i64 0, .int .u64 0, .string ⟨#[]⟩, .slice none 0 0, .slice none 0 0, .slice none 0 0, .slice none 0 0],[(0,1,false),(1,1,false),(2,1,false),(3,1,false),(4,1,false),(5,1,false),(6,1,false)],none,[],false,none,true,none⟩),
  (483,⟨4,false,1,24,[.slice none 0 0],[],some 77,[],false,none,false,none⟩),
  (485,⟨4,false,1,24,[.slice none 0 0],[],some 328,[],false,none,false,none⟩),
  (488,⟨5,true,2,48,[.slice none 0 0, .slice none 0 0],[(0,1,false),(1,1,false)],none,[],false,none,true,none⟩),
  (494,⟨4,false,1,24,[.slice none 0 0],[],some 72,[],false,none,false,none⟩),
  (496,⟨4,false,1,24,[.slice none 0 0],[],some 73,[],false,none,false,none⟩),
  (498,⟨4,false,1,24,[.slice none 0 0],[],some 75,[],false,none,false,none⟩),
  (502,⟨7,false,1,8,[.nilFunc],[],none,[],false,none,false,none⟩)]
def T:TypeId->Option Ty:=lk tys
theorem aep:∀t ty,T t=some ty->fU Tryz.prog t ty:=by
 intro t ty h;have:=Gz h;simp only[tys,yR,V6,V7,or_false]at this;rcases this with⟨rfl,rfl⟩ | ⟨rfl,rfl⟩ | ⟨rfl,rfl⟩ | ⟨rfl,rfl⟩ | ⟨rfl,rfl⟩ | ⟨rfl,rfl⟩ | ⟨rfl,rfl⟩ | ⟨rfl,rfl⟩ | ⟨rfl,rfl⟩ | ⟨rfl,rfl⟩ | ⟨rfl,rfl⟩ | ⟨rfl,rfl⟩ | ⟨rfl,rfl⟩ | ⟨rfl,rfl⟩ | ⟨rfl,rfl⟩ | ⟨rfl,rfl⟩ | ⟨rfl,rfl⟩ | ⟨rfl,rfl⟩ | ⟨rfl,rfl⟩ | ⟨rfl,rfl⟩ | ⟨rfl,rfl⟩ | ⟨rfl,rfl⟩ | ⟨rfl,rfl⟩ | ⟨rfl,rfl⟩ | ⟨rfl,rfl⟩ | ⟨rfl,rfl⟩ | ⟨rfl,rfl⟩ | ⟨rfl,rfl⟩ | ⟨rfl,rfl⟩ | ⟨rfl,rfl⟩ | ⟨rfl,rfl⟩ | ⟨rfl,rfl⟩ | ⟨rfl,rfl⟩ | ⟨rfl,rfl⟩ | ⟨rfl,rfl⟩ | ⟨rfl,rfl⟩ | ⟨rfl,rfl⟩ | ⟨rfl,rfl⟩ | ⟨rfl,rfl⟩ | ⟨rfl,rfl⟩ | ⟨rfl,rfl⟩ | ⟨rfl,rfl⟩ | ⟨rfl,rfl⟩ | ⟨rfl,rfl⟩ | ⟨rfl,rfl⟩ | ⟨rfl,rfl⟩ | ⟨rfl,rfl⟩ | ⟨rfl,rfl⟩ | ⟨rfl,rfl⟩ | ⟨rfl,rfl⟩ | ⟨rfl,rfl⟩ | ⟨rfl,rfl⟩ | ⟨rfl,rfl⟩ | ⟨rfl,rfl⟩ | ⟨rfl,rfl⟩ | ⟨rfl,rfl⟩ | ⟨rfl,rfl⟩ | ⟨rfl,rfl⟩ | ⟨rfl,rfl⟩ | ⟨rfl,rfl⟩ | ⟨rfl,rfl⟩ | ⟨rfl,rfl⟩ | ⟨rfl,rfl⟩ | ⟨rfl,rfl⟩ | ⟨rfl,rfl⟩ | ⟨rfl,rfl⟩ | ⟨rfl,rfl⟩ | ⟨rfl,rfl⟩ | ⟨rfl,rfl⟩ | ⟨rfl,rfl⟩ | ⟨rfl,rfl⟩ | ⟨rfl,rfl⟩ | ⟨rfl,rfl⟩ | ⟨rfl,rfl⟩ | ⟨rfl,rfl⟩ | ⟨rfl,rfl⟩ | ⟨rfl,rfl⟩ | ⟨rfl,rfl⟩ | ⟨rfl,rfl⟩ | ⟨rfl,rfl⟩ | ⟨rfl,rfl⟩ | ⟨rfl,rfl⟩ | ⟨rfl,rfl⟩ | ⟨rfl,rfl⟩ | ⟨rfl,rfl⟩ | ⟨rfl,rfl⟩ | ⟨rfl,rfl⟩ | ⟨rfl,rfl⟩ | ⟨rfl,rfl⟩ | ⟨rfl,rfl⟩ | ⟨rfl,rfl⟩ | ⟨rfl,rfl⟩ | ⟨rfl,rfl⟩ | ⟨rfl,rfl⟩ | ⟨rfl,rfl⟩ | ⟨rfl,rfl⟩ | ⟨rfl,rfl⟩ | ⟨rfl,rfl⟩ | ⟨rfl,rfl⟩ | ⟨rfl,rfl⟩ | ⟨rfl,rfl⟩ | ⟨rfl,rfl⟩ | ⟨rfl,rfl⟩ | ⟨rfl,rfl⟩ | ⟨rfl,rfl⟩ | ⟨rfl,rfl⟩ | ⟨rfl,rfl⟩ | ⟨rfl,rfl⟩ | ⟨rfl,rfl⟩ | ⟨rfl,rfl⟩ | ⟨rfl,rfl⟩ | ⟨rfl,rfl⟩ | ⟨rfl,rfl⟩ | ⟨rfl,rfl⟩ | ⟨rfl,rfl⟩ | ⟨rfl,rfl⟩ | ⟨rfl,rfl⟩ | ⟨rfl,rfl⟩ | ⟨rfl,rfl⟩ | ⟨rfl,rfl⟩ | ⟨rfl,rfl⟩ | ⟨rfl,rfl⟩ | ⟨rfl,rfl⟩ | ⟨rfl,rfl⟩ | ⟨rfl,rfl⟩ | ⟨rfl,rfl⟩ | ⟨rfl,rfl⟩ | ⟨rfl,rfl⟩<;>(clear h;show _=_;kernel_rfl)
theorem mixed:Tryz.prog.follows .mixedOrders=true:=by kernel_rfl
@[reducible] noncomputable def Z:Seat D:=⟨Tryz.prog,S,T,mixed,aep,amq⟩
def action (x:iY):Pg (Option mO):=.br (x.Kind==1) (.ret (some (mO.mk 168 true [Pv.str x.Key,Pv.str x.Val]))) (.br (x.Kind==2) (.ret (some (mO.mk 172 true [Pv.int .i64 x.Num]))) (.br (x.Kind==3) (.ret (some (mO.mk 175 true [Pv.int .i64 x.Num,Pv.int .i64 x.nN]))) (.br (x.Kind==4) (.ret (some (mO.mk 169 true [Pv.str x.Key,Pv.str x.Val]))) (.br (x.Kind==5) (.ret (some (mO.mk 177 true [Pv.int .i64 x.Num]))) (.br (x.Kind==6) (.ret (some (mO.mk 179 true []))) (.ret none))))))
def qV (x:iY):=(action x).val
def Sr:aU Z:=E0 [] [] (a1 (aF wO)) (R1 avK) [] func75 1 action
def within (n:Int)(lo:Int)(hi:Int):Pg Bool:=.br (decide (lo<=n)) (.ret (decide (n<=hi))) (.ret false)
def QL (n:Int)(lo:Int)(hi:Int):=(within n lo hi).val
def anX:aU Z:=E0 [] [] (aj (bn cI) (aj (bn cI) (a1 (bn cI)))) (R1 aG) [] func77 1 (u3 within)
def bare (x:iY)(key:Bool)(num:Bool)(span:Bool):Pg Bool:=.br key (.br num (.br span (.ret true) (.ret (x.nN==0))) (.br (x.Num==0) (.br span (.ret true) (.ret (x.nN==0))) (.ret false))) (.br (x.Key==[]) (.br (x.Val==[]) (.br num (.br span (.ret true) (.ret (x.nN==0))) (.br (x.Num==0) (.br span (.ret true) (.ret (x.nN==0))) (.ret false))) (.ret false)) (.ret false))
def ail (x:iY)(key:Bool)(num:Bool)(span:Bool):=(bare x key num span).val
def aBk:aU Z:=E0 [] [] (aj (aF wO) (aj (bn aG) (aj (bn aG) (a1 (bn aG))))) (R1 aG) [] func76 1 (u4 bare)
theorem wL (x:iY):mO.ok (qV x) 168 true [Value.string (ByteArray.mk #[]),Value.string (ByteArray.mk #[])]=true/\mO.ok (qV x) 169 true [Value.string (ByteArray.mk #[]),Value.string (ByteArray.mk #[])]=true/\mO.ok (qV x) 172 true [Value.int IntKind.i64 0]=true/\
  mO.ok (qV x) 175 true [Value.int IntKind.i64 0,Value.int IntKind.i64 0]=true/\mO.ok (qV x) 177 true [Value.int IntKind.i64 0]=true/\mO.ok (qV x) 179 true []=true:=by
 unfold qV action;simp only[bH,aV];cases x.Kind==1<;>cases x.Kind==2<;>cases x.Kind==3<;>cases x.Kind==4<;>cases x.Kind==5<;>cases x.Kind==6<;>exact⟨rfl,rfl,rfl,rfl,rfl,rfl⟩
def formed (x:iY):Pg Bool:=.lt (qV x) fun(v1:Option mO)=> .ob (mO.ok v1 168 true [Value.string (ByteArray.mk (Array.mk [])),Value.string (ByteArray.mk (Array.mk []))]=true) (.ob (mO.ok v1 169 true [Value.string (ByteArray.mk (Array.mk [])),Value.string (ByteArray.mk (Array.mk []))]=true) (.br (bif mO.is v1 168 then true else mO.is v1 169) (.ret (ail x true false false)) (.ob (mO.ok v1 172 true [Value.int .i64 0]=true) (.lt (ail x false true false) fun(v2:Bool)=> .br (mO.is v1 172) (.br v2 (.ret (QL x.Num 0 65536)) (.ret false)) (.ob (mO.ok v1 175 true [Value.int .i64 0,Value.int .i64 0]=true) (.br (mO.is v1 175) (.br (ail x false true true) (.br (QL x.Num 1 1000) (.ret (QL x.nN 1 1099511627776)) (.ret false)) (.ret false)) (.ob (mO.ok v1 177 true [Value.int .i64 0]=true) (.br (mO.is v1 177) (.br v2 (.ret (QL x.Num 1 1099511627776)) (.ret false)) (.ob (mO.ok v1 179 true []=true) (.br (mO.is v1 179) (.ret (ail x false false false)) (.ret false)))))))))))
def awN (x:iY):=(formed x).val
theorem ak8 (x:iY):Is (formed x):=
 dB fun v1 hv1=>aX ((hv1▸wL x).1) (aX ((hv1▸wL x).2.1) (di iR (fun _=>aX ((hv1▸wL x).2.2.1) (dB fun v2 hv2=>di (fun _=>di iR iR) (fun _=>aX ((hv1▸wL x).2.2.2.1) (di (fun _=>di (fun _=>di iR iR) iR) (fun _=>aX ((hv1▸wL x).2.2.2.2.1) (di (fun _=>di iR iR) (fun _=>aX ((hv1▸wL x).2.2.2.2.2) (di iR iR))))))))))
def apX:aU Z:=E0 [Sr,aBk,anX] [] (a1 (aF wO)) (R1 aG) [] func35 1 formed fun a=>ak8 a
def errText (e:Int):Pg (List UInt8):=.ob (26=26) (.br (decide (e < 0)) (.ret [117,110,107,110,111,119,110]) (.br (decide (26<=e)) (.ret [117,110,107,110,111,119,110]) (.ob (0<=e/\e < 26) (.ob (e.toNat < 26) (.ret ([[111,107],[97,114,103,117,109,101,110,116], [115,121,110,116,97,120], [108,105,109,105,116],[115,104,111,114,116], [102,111,114,109],[114,97,110,103,101], [117,116,102],[110,97,109,101], [116,119,105,99,101],[110,111,110,101], [111,114,100,101,114],[116,121,112,101], [119,105,114,101], [109,105,115,115,105,110,103], [117,110,105,111,110],[101,110,117,109], [100,101,112,116,104],[101,120,116,114,97], [99,121,99,108,101],[115,116,97,116,101], [100,101,110,105,101,100],[102,117,108,108], [108,97,116,101], [99,111,110,102,108,105,99,116], [115,117,109]].getD e.toNat []))))))
def as8 (e:Int):=(errText e).val
def am0:aU Z:=E0 [] [] (a1 (bn cI)) (R1 cStr) [] func97 1 errText
abbrev O3:=[jb.mk 0 0,jb.mk 23 3,jb.mk 21 6,jb.mk 22 7, jb.mk 3 7,jb.mk 17 7,jb.mk 10 4,jb.mk 9 5, jb.mk 20 8,jb.mk 24 9,jb.mk 25 13,jb.mk 11 11, jb.mk 19 11]
def ato (e:Int):Pg Status:=.cut (fun(y1:Int)=> .cut (fun(y4:Int)=> .br (e==0) (.ret (Status.mk 0 [])) (.ret (Status.mk y4 (as8 e)))) (.ob (13=13) (.cnt qw 0 13 (fun(i2 y3:Int)=> .ob (0<=i2/\i2 < 13) (.br ([(O3.getD 0 fQ).e, (O3.getD 1 fQ).e, (O3.getD 2 fQ).e, (O3.getD 3 fQ).e, (O3.getD 4 fQ).e, (O3.getD 5 fQ).e, (O3.getD 6 fQ).e, (O3.getD 7 fQ).e, (O3.getD 8 fQ).e, (O3.getD 9 fQ).e, (O3.getD 10 fQ).e, (O3.getD 11 fQ).e, (O3.getD 12 fQ).e].getD i2.toNat 0== e) (rl ([(O3.getD 0 fQ).code, (O3.getD 1 fQ).code, (O3.getD 2 fQ).code, (O3.getD 3 fQ).code, (O3.getD 4 fQ).code, (O3.getD 5 fQ).code, (O3.getD 6 fQ).code, (O3.getD 7 fQ).code, (O3.getD 8 fQ).code, (O3.getD 9 fQ).code, (O3.getD 10 fQ).code, (O3.getD 11 fQ).code, (O3.getD 12 fQ).code].getD i2.toNat 0)) (rl y3))) (fun(i2 y3:Int)=> rl y3) y1))) (.br (decide (0 < e)) (.br (decide (e<=25)) (rl 2) (rl 11)) (rl 11))
def SL (e:Int):=(ato e).val
theorem axT (e:Int):Is (ato e):=
 oQ (dV (fun _=>dV iR iR) iR) (fun y1 hy1=>oQ (aX au (RX au au (fun i2 y3 _ _=>aX au (lh iR iR)) (fun i2 y3 _ _=>aT))) (fun y4 hy4=>lh iR iR))
def ag1:aU Z:=E0 [am0] [jS 5 (bP (fun sl=>[s0 13, s0 3]) (az cI (l1 cI))),jS 100004 (bP (fun sl=>[s0 3]) (l1 cI)),jS 100010 (bP (fun sl=>[s0 3]) (l1 cI))] (a1 (bn cI)) (shr [.slot 0 true [none,none]] (l1 jy)) [] func54 1 ato fun a=>axT a
def message (l:List iY)(n:Int):Pg Status:=aL l (.each false tX l r_ (fun i1 a3 (y2:Unit)=> .ix i1 l.length (.lt (qV a3) fun(v4:Option mO)=> .ob (mO.ok v4 172 true [Value.int .i64 0]=true) (.br (mO.is v4 172) (.lt (Pv.gI (mO.get v4 172 0)) fun(v5:Int)=> .br (decide (v5 < n)) (.ret (.inr (SL 3))) (rl ())) (rl ())))) (fun i1 (y2:Unit)=> .ret (Status.mk 0 [])) ())
def aqk (l:List iY)(n:Int):=(message l n).val
theorem afC (l:List iY)(n:Int):Is (message l n):=
 iH fun _=>gU (.inr au) (fun i1 y2 _ _=>dm au au (dB fun v4 hv4=>aX ((hv4▸(wL _).2.2.1)) (di (fun _=>dB fun v5 hv5=>dV iR iR) iR))) (fun y2 _=>aT)
def amY:aU Z:=E0 [ag1,Sr] [jS 2 (bP (fun sl=>[s0 11]) (l1 cI))] (aj (bn qg) (a1 (bn cI))) (shr [.slot 0 true [none,none]] (l1 jy)) [] func52 1 (u2 message) fun a=>afC a.1 a.2
def azL (h:Head)(key:Str):Pg (List UInt8×Bool):=aL h.eY (.each false tX h.eY Nh (fun i1 a3 (y2:Unit)=> .ix i1 h.eY.length (.br (a3.Key==key) (.ret (.inr (a3.Val,true))) (rl ()))) (fun i1 (y2:Unit)=> .ret ([],false)) ())
def aBI (h:Head)(key:Str):=(azL h key).val
def avh:aU Z:=E0 [] [jS 2 (bP (fun sl=>[s0 11]) (l1 cI))] (aj (aF qh) (a1 (bn cStr))) (shr [s0 0, s0 1] (az cStr (l1 aG))) [] func144 2 (u2 azL)
def earlier (a:Int)(b:Int):Pg Int:=.br (decide (a < 1)) (.br (decide (b < 1)) (.ret 0) (.br (decide (a < 1)) (.ret b) (.br (decide (b < 1)) (.ret a) (.ret (min a b))))) (.br (decide (a < 1)) (.ret b) (.br (decide (b < 1)) (.ret a) (.ret (min a b))))
def aq_ (a:Int)(b:Int):=(earlier a b).val
def al_:aU Z:=E0 [] [] (aj (bn cI) (a1 (bn cI))) (R1 cI) [] func147 1 (u2 earlier)
def after (a:Int)(b:Int):Pg Int:=.ret (min (dD .i64 (min (max a 0) 1099511627776+min (max b 0) 1099511627776)) 1099511627776)
def Ve (a:Int)(b:Int):=(after a b).val
def aiT:aU Z:=E0 [] [] (aj (bn cI) (a1 (bn cI))) (R1 cI) [] func55 1 (u2 after)
set_option maxHeartbeats 1000000 in
set_option maxRecDepth 100000 in
theorem Us (s:ByteArray)(c:Int)(w:World):
  Calls Tryz.prog 175 #[.string s, .int .u8 c] w fun e w'=>e= .returned (.int .i64 (Lib.indexByte s.data.toList c.toNat.toUInt8))/\w'=w:=by
 go_enter func175,ntmps175
 go_wp2
 rw[run_callFunc_extern func253 dS dS dS (e:=Extern.BytealgIndexByte.indexByte) dS,Lib.run_indexByteString];simp only[Result.andThen];rw[Oper.upon_value]
 go_wp2
 go_ret
 exact⟨rfl,rfl⟩
theorem adP {D:Type}{S:Sh D}:fV Tryz.prog S 175 (Ea BO):=UF (enters_of func175 dS dS) Us
set_option maxHeartbeats 1000000 in
set_option maxRecDepth 100000 in
theorem count_walk (s:ByteArray)(c:UInt8)(w:World):
  Calls Tryz.prog 180 #[.string s, .string ⟨#[c]⟩] w fun e w'=>e= .returned (.int .i64 (Lib.countByte s.data.toList c))/\w'=w:=by
 go_enter func180,ntmps180
 go_wp2
 rw[run_callFunc_extern func257 dS dS dS (e:=Extern.BytealgCount.count) dS,Lib.run_countString];simp only[Result.andThen];rw[Oper.upon_value]
 go_wp2
 go_ret
 exact⟨rfl,rfl⟩
theorem axf {D:Type}{S:Sh D}:fV Tryz.prog S 180 (Ea ZJ):=afw (enters_of func180 dS dS) count_walk
theorem azj:∃j,Tryz.prog.info? 340=some j/\j.size=2:=Qcm.1 (show(Tryz.prog.info? 340).map (·.size)=some 2 by kernel_rfl)
theorem aGU:liesAt Tryz.prog Tryz.prog.depth 340 (2 / Tryz.prog.cellsOf 340) 0 340 1=true:=by kernel_rfl
set_option maxHeartbeats 1000000 in
set_option maxRecDepth 100000 in
theorem RF (b:Nat)(w:World)(h0:w.cell? ⟨b,0,none⟩=some (.pointer (some ⟨b,0,none⟩))):
  Calls Tryz.prog 340 #[.pointer (some ⟨b,0,none⟩)] w fun e w'=>e= .returned (.tuple #[])/\w'=w:=by
 obtain⟨j,hj,_⟩:=azj
 go_enter func340,ntmps340
 go_wp2
 rw[Lib.run_neq_ptr_same w _ underlying337 hj]
 go_wp2
 go_end0
 exact⟨rfl,rfl⟩
set_option maxHeartbeats 1000000 in
set_option maxRecDepth 100000 in
theorem O9 (b:Nat)(w:World)(h0:w.cell? ⟨b,0,none⟩=some (.pointer none))(hsh:w.shape? b=some (340,2))(hfz:w.frozen? ⟨b,0,none⟩=false):
  Calls Tryz.prog 340 #[.pointer (some ⟨b,0,none⟩)] w fun e w'=>e= .returned (.tuple #[])/\w'=w.setCell ⟨b,0,none⟩ (.pointer (some ⟨b,0,none⟩)):=by
 obtain⟨j,hj,hjs⟩:=azj
 go_enter func340,ntmps340
 go_wp2
 rw[Lib.run_to_unsafe w ⟨b,0,none⟩ underlying337 underlying467 hj (by rw[hjs];decide) hsh (Nat.zero_lt_succ 1)];simp only[Result.andThen];rw[Oper.upon_value]
 go_wp2
 rw[run_callFunc_extern func402 dS dS dS (e:=Extern.AbiNoEscape.same) dS];rw[Lib.run_noEscape];simp only[Result.andThen];rw[Oper.upon_value]
 go_wp2
 rw[Lib.run_from_unsafe w ⟨b,0,none⟩ underlying467 underlying337 hj hsh aGU];simp only[Result.andThen];rw[Oper.upon_value]
 go_wp2
 go_end0
 exact⟨rfl,rfl⟩
theorem au0 {D:Type}{S:Sh D}:fV Tryz.prog S 340 (Ql 340):=ahx (enters_of func340 dS dS) RF O9
def N7:aU Z:=⟨175,Ea BO,adP⟩
def avn:aU Z:=⟨180,Ea ZJ,axf⟩
def acW:aU Z:=⟨340,Ql 340,au0⟩
def Gi:aU Z:=aGW Z [acW] 225 func225 dS
def YF:aU Z:=aGW Z [] 229 func229 dS
def byteAt (s:Str)(p:Nat):Nat:=(s.getD p 0).toNat
def aFA (s:Str)(p:Nat):Bool:=decide (p < s.length)
def asY (s:Str)(p:Nat):Bool:=aFA s p && (decide (128<=byteAt s p) && decide (byteAt s p<=191))
def dcN (b0 b1 b2 b3:Nat)(c1 c2 c3:Bool):Nat×Nat:=
 if b0 < 0x80 then(b0,1)
 else if b0 / 32==6 && c1 then(if (b0 % 32)*64+b1 % 64≥0x80 then((b0 % 32)*64+b1 % 64,2)else(65533,1))
 else if b0 / 16==14 && c1 && c2 then(if (b0 % 16)*4096+(b1 % 64)*64+b2 % 64≥0x800 && Utf8.valid (((b0 % 16)*4096+(b1 % 64)*64+b2 % 64:Nat):Int)then((b0 % 16)*4096+(b1 % 64)*64+b2 % 64,3)else(65533,1))
 else if b0 / 8==30 && c1 && c2 && c3 then(if (b0 % 8)*262144+(b1 % 64)*4096+(b2 % 64)*64+b3 % 64≥0x10000 && Utf8.valid (((b0 % 8)*262144+(b1 % 64)*4096+(b2 % 64)*64+b3 % 64:Nat):Int)then((b0 % 8)*262144+(b1 % 64)*4096+(b2 % 64)*64+b3 % 64,4)else(65533,1))
 else(65533,1)
theorem Zh (s:Str)(p:Nat):Utf8.decode ⟨s.toArray⟩ p=dcN (byteAt s p) (byteAt s (p+1)) (byteAt s (p+2)) (byteAt s (p+3)) (asY s (p+1)) (asY s (p+2)) (asY s (p+3)):=by
 have hb:∀k,((ByteArray.mk s.toArray).get! (p+k)).toNat=byteAt s (p+k):=by
  intro k;unfold byteAt;have:(ByteArray.mk s.toArray).get! (p+k)=s.getD (p+k) 0:=by
   show s.toArray[p+k]! =_
   simp[List.getD,List.getElem!_eq_getElem?_getD];rfl
  rw[this]
 have hc:∀k,(decide (p+k < (ByteArray.mk s.toArray).size) && byteAt s (p+k) / 64==2)=asY s (p+k):=by
  intro k;unfold asY aFA;have hs:(ByteArray.mk s.toArray).size=s.length:=by show s.toArray.size=_;simp
  rw[hs];congr 1;rw[Qb5];simp only[Qc6,jY,Qbj];omega
 have h0:=hb 0;rw[MB]at h0;unfold Utf8.decode dcN;simp only[hb,hc,Utf8.runeError];simp only[MB]
def csK:Str:=[97,98,99,100,101,102,103,104,105,106,107,108,109,110,111,112,113,114,115,116,117,118,119,120,121,122,48,49,50,51,52,53,54,55,56,57,45]
def Ue (c:Int)(a:List Bool):Pg Bool:=.ob (0<=c/\c < 256) (.ob (c.toNat < a.length) (.ret (a.getD c.toNat false)))
theorem WS (c:Int)(a:List Bool)(h:0<=c/\c < 256/\a.length=256):Is (Ue c a):=
 aX au (aX au (aT))
def IR:aU Z:=O6 [] [] (aj (anZ 0 1) (a1 (bn (gz .u8)))) (b1 (j_ 302 D.bool oK)) (R1 aG) [0] func258 1 (fun a=>Ue a.1.2 a.2) (fun a=>some (0<=a.1.2/\a.1.2 < 256/\a.2.length=256)) (fun a=>a.2.getD a.1.2.toNat false) fun a h=>⟨WS a.1.2 a.2 h,rfl⟩
def aa0 (s:Str)(a:List Bool):Pg (List UInt8):=.wh (s.length+1) default (fun(x1:List UInt8)=> .br (decide (0 < (↑x1.length:Int))) (.ix 0 x1.length (.ob (0<=(↑(x1.getD 0 0).toNat:Int)/\(↑(x1.getD 0 0).toNat:Int) < 256/\a.length=256) (.br (!a.getD (x1.getD 0 0).toNat false) (.ret (.inr x1)) (.ob ((0:Int)<=1/\1<=(↑x1.length:Int)/\(↑x1.length:Int)<=(↑x1.length:Int)) (rl (List.drop 1 (List.take x1.length x1))))))) (.ret (.inr x1))) s
def aa_ (s:Str)(a:List Bool):Pg (List UInt8):=.wh (s.length+1) default (fun(x1:List UInt8)=> .br (decide (0 < (↑x1.length:Int))) (.lt (dD .i64 ((↑x1.length:Int) - 1)) fun(v2:Int)=> .ix v2 x1.length (.ob (0<=(↑(x1.getD v2.toNat 0).toNat:Int)/\(↑(x1.getD v2.toNat 0).toNat:Int) < 256/\a.length=256) (.br (!a.getD (x1.getD v2.toNat 0).toNat false) (.ret (.inr x1)) (.ob ((0:Int)<=0/\0<=v2/\v2<=(↑x1.length:Int)) (rl (List.take v2.toNat x1)))))) (.ret (.inr x1))) s
theorem alR (s:Str)(a:List Bool)(h:a.length=256):(aa0 s a).val=s.dropWhile fun c=>a.getD c.toNat false:=by
 unfold aa0;rw[Bv]
 suffices key:∀(s:Str) (n:Nat),s.length < n->V8 _ default n s=s.dropWhile fun c=>a.getD c.toNat false from key s _ (Qcy _)
 intro s;induction s with
 | nil=>
  intro n hn;cases n with
  | zero=>simp at hn
  | succ n=>rfl
 | cons c s ih=>
  intro n hn;cases n with
  | zero=>simp at hn
  | succ n=>
   have h0:(0:Int) < ((c::s).length:Int):=by simp only[xH];omega
   have hc:((c::s).getD 0 0).toNat=c.toNat:=rfl;simp only[V8,bH,iV,dK,aV,h0,decide_true,wB,hc,List.dropWhile_cons];cases hb:a.getD c.toNat false with
   | false=>simp[hb]
   | true=>
    simp only[hb,Qby,nR,if_true];have:List.drop 1 (List.take (c::s).length (c::s))=s:=by simp
    rw[this];exact ih n (by simpa using hn)
theorem amC (s:Str)(a:List Bool)(hh:a.length=256/\s.length<=9223372036854775807):(aa_ s a).val=(s.reverse.dropWhile fun c=>a.getD c.toNat false).reverse:=by
 unfold aa_;rw[Bv]
 suffices key:∀(r:Str) (n:Nat),r.length < n->r.length<=9223372036854775807->V8 _ default n r.reverse=(r.dropWhile fun c=>a.getD c.toNat false).reverse by
  have:=key s.reverse (s.length+1) oJ (by simpa using hh.2);rwa [List.reverse_reverse]at this
 intro r;induction r with
 | nil=>
  intro n hn _;cases n with
  | zero=>simp at hn
  | succ n=>rfl
 | cons c r ih=>
  intro n hn hm;cases n with
  | zero=>simp at hn
  | succ n=>
   have hlen:((c::r).reverse).length=r.length+1:=by simp
   have h0:(0:Int) < (((c::r).reverse).length:Int):=by rw[hlen];omega
   have hw:dD .i64 ((((c::r).reverse).length:Int) - 1)=(r.length:Int):=by
    rw[hlen,fO (k:= .i64) (by simp only[yZ];simp at hm;omega)];omega
   have hc:((c::r).reverse).getD ((r.length:Int)).toNat 0=c:=by simp[List.getD]
   have h2:List.take r.length (c::r).reverse=r.reverse:=by simp
   simp only[V8,bH,dE,iV,dK,aV,h0,decide_true,wB,hw,zk]at hc h2⊢;simp only[hc,h2,List.dropWhile_cons];cases hb:a.getD c.toNat false with
   | false=>simp[hb]
   | true=>
    simp only[hb,Qby,nR,if_true];exact ih n (by simpa using hn) (by simp at hm;omega)
theorem amu (s:Str)(a:List Bool)(h:a.length=256):Is (aa0 s a):=
 by
 refine Gg (fun _=>True) List.length trivial (Qcy _) (fun x1 _=>⟨dV (fun _=>dm au au (aX ⟨by omega,by have:=Qei (x1.getD 0 0);omega,h⟩ (di iR (fun _=>aX au (aT))))) iR,fun x' hx=>⟨trivial,?_⟩⟩);revert hx;simp only[bH,iV,dK,aV];by_cases h0:(0:Int) < (x1.length:Int)
 ·simp only[h0,decide_true,wB];generalize a.getD _ false=q;cases q<;>intro e<;>cases e
  simp only[PW,uP,Nat.min_self];omega
 ·simp only[h0,decide_false,nR];intro e;cases e
def apm:aU Z:=O6 [IR] [jS 1 (bP (fun sl=>[s0 0]) (l1 cStr))] (aj (bn cStr) (a1 (anZ 0 1))) (b1 (j_ 302 D.bool oK)) (R1 cStr) [0] func185 1 (u11 aa0) (fun a=>some (a.2.length=256)) (fun a=>a.1.1.dropWhile fun c=>a.2.getD c.toNat false) fun a h=>⟨amu a.1.1 a.2 h,alR a.1.1 a.2 h⟩
theorem amR (s:Str)(a:List Bool)(h:a.length=256/\s.length<=9223372036854775807):Is (aa_ s a):=
 by
 refine Gg (fun x=>x.length<=9223372036854775807) List.length h.2 (Qcy _) (fun x1 hx1=>⟨dV (fun _=>pK fun v2 hv2 _=>dm au au (aX ⟨by omega,by have:=Qei (x1.getD v2.toNat 0);omega,h.1⟩ (di iR (fun _=>aX au (aT))))) iR,fun x' hx=> ?_⟩);revert hx;simp only[bH,dE,iV,dK,aV];by_cases h0:(0:Int) < (x1.length:Int)
 ·simp only[h0,decide_true,wB];generalize a.getD _ false=q;cases q<;>intro e<;>cases e
  rw[fO (k:= .i64) zO];simp only[uP];omega
 ·simp only[h0,decide_false,nR];intro e;cases e
def ap6:aU Z:=O6 [IR] [jS 1 (bP (fun sl=>[s0 0]) (l1 cStr))] (aj (bn cStr) (a1 (anZ 0 1))) (b1 (j_ 302 D.bool oK)) (R1 cStr) [0] func186 1 (u11 aa_) (fun a=>some (a.2.length=256/\a.1.1.length<=9223372036854775807)) (fun a=>(a.1.1.reverse.dropWhile fun(c:UInt8)=>a.2.getD c.toNat false).reverse) fun a h=>⟨amR a.1.1 a.2 h,amC a.1.1 a.2 h⟩
def ar9 (s:Str):Pg (List Bool×Bool):=.each true qw s 0 (fun i1 a3 (y2:List Bool)=> .ix i1 (List.length s) (.br (decide (128<=(↑a3.toNat:Int))) (.ob (y2.length=256) (.ob (y2.length=256) (.ret (.inr (vI 256 false (vI 256 false y2),false))))) (.ob (0<=(↑a3.toNat:Int)/\(↑a3.toNat:Int) < 256) (.ob (a3.toNat < y2.length) (rl (y2.set a3.toNat true)))))) (fun i1 (y2:List Bool)=> .ob (y2.length=256) (.ob (y2.length=256) (.ret (vI 256 false (vI 256 false y2),true)))) (List.replicate 256 false)
def aaZ (s:Str):=(ar9 s).val
theorem anH (s:Str):Is (ar9 s):=
 by
 refine Ku (fun _ y=>y.length=256) Qc0 (.inl rfl) (fun i1 y2 _ _ hI=>⟨dm au au (dV (fun _=>aX hI (aX hI (aT))) (fun _=>aX (by have:=Qei (s.getD i1 0);omega) (aX (by have hI:y2.length=256:=hI;have:=Qei (s.getD i1 0);omega) (aT)))),fun y' hy=> ?_⟩) (fun y2 _ hI=>aX hI (aX hI (aT)));revert hy;simp only[bH,iV,dK,aV];by_cases h0:(128:Int)<=↑(s.getD i1 0).toNat
 ·simp only[h0,decide_true,wB];intro e;cases e
 ·simp only[h0,decide_false,nR];intro e;cases e;rw[Qbq];exact hI
def awJ:aU Z:=E0 [] [jS 2 (bP (fun sl=>[s0 4, .row (pid (sl 2)) 302]) (az cI (l1 zI)))] (a1 (bn cStr)) (shr [.slot 0 true (nn 256), s0 1] (az (FT 256 false aG) (l1 aG))) [] func184 2 ar9 fun a=>anH a
theorem aji:(aaZ csK).2=true:=by kernel_rfl
def ac9 (c:UInt8):Bool:=(97<=c && c<=122) || (48<=c && c<=57) || c==45
theorem anh:((List.range 256).all fun i=>(vI 256 false (aaZ csK).1).getD i false==ac9 (UInt8.ofNat i))=true:=by kernel_rfl
theorem avc (c:UInt8):(vI 256 false (aaZ csK).1).getD c.toNat false=ac9 c:=by
 have:=MX.1 anh c.toNat (Qcs.2 c.toNat_lt);have h:=eq_of_beq this;rw[h];congr 1;exact UInt8.ofNat_toNat
def ajs (s:Str):Pg (List UInt8):=.br (s==[]) (.ret s) (.cut (fun(y1:Unit)=> .ob (256=256) (.lt (aaZ csK) fun(v2:List Bool×Bool)=> .br v2.2 (.ob ((vI 256 false v2.1).length=256/\List.length s<=9223372036854775807) (.ob ((vI 256 false v2.1).length=256) (.ret (List.dropWhile (fun(c:UInt8)=>(vI 256 false v2.1).getD c.toNat false) (List.dropWhile (fun(c:UInt8)=>(vI 256 false v2.1).getD c.toNat false) (List.reverse s)).reverse)))) (.no default))) (rl ()))
theorem apI (s:Str)(h:s.length<=9223372036854775807):(ajs s).val=((s.reverse.dropWhile ac9).reverse).dropWhile ac9:=by
 unfold ajs;simp only[bH,aV,mr,dK,dE,oO,aji,wB];cases s with
 | nil=>rfl
 | cons c s=>
  have:((c::s)==[])=false:=rfl;simp only[this,nR,avc]
theorem aqb (s:Str)(h:s.length<=9223372036854775807):Is (ajs s):=
 di iR (fun _=>oQ (aT) (fun y1 hy1=>aX rfl (dB fun v2 hv2=>di (fun _=>aX ⟨by simp[vI],h⟩ (aX (by simp[vI]) (aT))) (fun hb=>by rw[hv2,aji]at hb;cases hb))))
def axJ:aU Z:=vS Z [awJ,apm,ap6] [jS 100005 (bP (fun sl=>[]) l0)] (args (aj (bn cStr) (a1 (bn cStr)))) (kL (n:=43) rfl) (R1 cStr) [] func119 ntmps119 dS 1 rfl (fun a=>ajs (a.1)) (fun a=>some ((a.2=csK)/\((a.1).length<=9223372036854775807))) (fun⟨s,cs⟩ e h=>by have hf0:cs=csK:=h.1;subst hf0;show _=_;kernel_rfl) (fun a=>(((a.1).reverse.dropWhile ac9).reverse).dropWhile ac9) (fun a h=>⟨aqb (a.1) h.2,apI (a.1) h.2⟩)
def aiw (s:Str)(p:Str):Pg Bool:=.br (decide ((↑(List.length p):Int)<=(↑(List.length s):Int))) (.ob ((0:Int)<=0/\0<=(↑(List.length p):Int)/\(↑(List.length p):Int)<=(↑(List.length s):Int)) (.as (List.length s<=9223372036854775807) (.as (List.length p<=9223372036854775807) (.as (List.length p<=9223372036854775807) (.ret (List.take (List.length p) s==p)))))) (.as (List.length s<=9223372036854775807) (.as (List.length p<=9223372036854775807) (.ret false)))
def apD (s:Str)(p:Str):=(aiw s p).val
def als:aU Z:=E0 [] [] (aj (bn cStr) (a1 (bn cStr))) (R1 aG) [] func356 1 (u2 aiw)
def anU (s:Str)(p:Str):Pg Bool:=.ret (apD s p)
def avb (s:Str)(p:Str):=(anU s p).val
def apY:aU Z:=E0 [als] [] (aj (bn cStr) (a1 (bn cStr))) (R1 aG) [] func261 1 (u2 anU)
def wrong (s:Str)(at_:Int)(c:Int):Pg Bool:=.br (c==65533) (.ob (0<=at_/\at_<=(↑(List.length s):Int)/\(↑(List.length s):Int)<=(↑(List.length s):Int)) (.ret !avb (List.drop at_.toNat (List.take (List.length s) s)) [239,191,189])) (.ret false)
def aCb (s:Str)(at_:Int)(c:Int):=(wrong s at_ c).val
def avo:aU Z:=E1 [apY] [] (aj (bn cStr) (aj (bn cI) (a1 (bn (gz .i32))))) (R1 aG) [] func189 1 (u3 wrong) fun a=>0<=a.2.1/\a.2.1<=a.1.length
def bad (s:Str):Pg Int:=.wh (s.length+1) default (fun(x1:List UInt8×Int)=> .br (decide (x1.2.toNat < x1.1.length)) (.ob (0<=(↑x1.2.toNat:Int)/\(↑x1.2.toNat:Int)<=(↑(List.length s):Int)) (.br (aCb s (↑x1.2.toNat:Int) (um x1.1 x1.2.toNat)) (.ret (.inr (↑x1.2.toNat:Int))) (rl (x1.1,(↑(x1.2.toNat+DJ x1.1 x1.2.toNat):Int))))) (.ret (.inr (-1)))) (s,0)
def aHX (s:Str):=(bad s).val
theorem asA (s:Str)(p:Nat):1<=DJ s p/\DJ s p<=4:=by
 unfold DJ;rw[Zh];unfold dcN;(repeat' split)<;>exact⟨by simp,by simp⟩
theorem aCO (s:Str)(h:s.length<=9223372036854775700):Is (bad s):=
 by
 refine Gg (fun x=>x.1=s/\0<=x.2/\x.2<=s.length+4) (fun x=>s.length - x.2.toNat) ⟨rfl,by omega,by omega⟩ au (fun x hx=>⟨dV (fun hlt=>aX (by rw[hx.1]at*;omega) (di iR iR)) iR,fun x' hx'=> ?_⟩);obtain⟨t,x⟩:=x;obtain⟨rfl,h2,h3⟩:=hx;have hd:=asA t x.toNat;revert hx';simp only[bH,dK,aV,Qb6];(repeat' split)<;>intro e<;>cases e
 rename_i h0 _;simp only[Qbj]at h0;exact⟨⟨rfl,by omega,by omega⟩,by simp only[zk];omega⟩
def aE0:aU Z:=E1 [avo] [jS 2 (bP (fun sl=>[.iter (pid (sl 6))]) (l1 (bQ cStr cI)))] (a1 (bn cStr)) (R1 cI) [] func120 1 bad (fun a=>a.length<=9223372036854775700) fun a h=>aCO a h
def an7 (s:Str):Pg Bool:=.ob (List.length s<=9223372036854775700) (.lt (aHX s) fun(v1:Int)=> .ret (decide (v1 < 0)))
def BG (s:Str):=(an7 s).val
def zK:aU Z:=E1 [aE0] [] (a1 (bn cStr)) (R1 aG) [] func79 1 an7 fun a=>a.length<=9223372036854775700
def isKey (s:Str):Pg Bool:=.br (s !=[]) (.br (decide ((↑(List.length s):Int)<=40)) (.ob ([97,98,99,100,101,102,103,104,105,106,107, 108,109,110,111,112,113,114,115,116,117,118, 119,120,121,122,48,49,50,51,52,53,54, 55,56,57,45]= csK/\ List.length s<=9223372036854775807) (.ret (List.dropWhile ac9 (List.dropWhile ac9 (List.reverse s)).reverse==[]))) (.ret false)) (.ret false)
def aAt (s:Str):=(isKey s).val
theorem arO (s:Str)(h:s.length<=9223372036854775700):Is (isKey s):=
 di (fun _=>dV (fun _=>aX ((⟨rfl,by omega⟩)) (aT)) iR) iR
def avd:aU Z:=E1 [axJ] [] (a1 (bn cStr)) (R1 aG) [] func78 1 isKey (fun a=>a.length<=9223372036854775700) fun a h=>arO a h
def entry (key:Str)(val:Str):Pg Int:=.ob (List.length key<=9223372036854775700) (.br (!aAt key) (.ret 8) (.br (decide (200 < (↑(List.length val):Int))) (.ret 3) (.ob (List.length val<=9223372036854775700) (.br (!BG val) (.ret 7) (.ret 0)))))
def aqG (key:Str)(val:Str):=(entry key val).val
def ajL:aU Z:=E1 [avd,zK] [] (aj (bn cStr) (a1 (bn cStr))) (R1 cI) [] func36 1 (u2 entry) fun a=>a.1.length<=9223372036854775700
def check (l:List iY):Pg Int:=.br (decide (8 < (↑l.length:Int))) (.ret 3) (aL l (.each false tX l r_ (fun i1 a3 (y2:Unit)=> .ix i1 l.length (.br (!awN a3) (.ret (.inr 1)) (.lt (aqG a3.Key a3.Val) fun(v4:Int)=> .br (a3.Kind==1) (.ob (List.length a3.Key<=9223372036854775700) (.br (v4 !=0) (.ret (.inr v4)) (rl ()))) (.br (a3.Kind==4) (.ob (List.length a3.Key<=9223372036854775700) (.br (v4 !=0) (.ret (.inr v4)) (rl ()))) (rl ()))))) (fun i1 (y2:Unit)=> .ret 0) ()))
def aDM (l:List iY):=(check l).val
def H8 (l:List iY):Prop:=∀x∈l,x.Key.length<=1048576
theorem atN (l:List iY)(h:H8 l):Is (check l):=
 dV iR (fun _=>iH fun _=>gU (.inr au) (fun i1 y2 _ _=>dm au au (di iR (fun _=>dB fun v4 hv4=>lh (fun _=>aX qcc (jG iR iR)) (fun _=>lh (fun _=>aX qcc (jG iR iR)) iR)))) (fun y2 _=>aT))
def axh:aU Z:=E1 [apX,ajL] [jS 4 (bP (fun sl=>[s0 11]) (l1 cI))] (a1 (bn qg)) (R1 cI) [] func15 1 check (fun a=>H8 a) fun a h=>atN a h
def pcB (c:UInt8):Bool:=(decide (97<=c.toNat) && decide (c.toNat<=122)) || (decide (65<=c.toNat) && decide (c.toNat<=90))
def pnB (c:UInt8):Bool:=pcB c || (decide (48<=c.toNat) && decide (c.toNat<=57)) || decide (c.toNat=95)
def IP (s:Str):Bool:=decide (s.length<=40) && match s with
 | []=>false
 | c::r=>pcB c && r.all pnB
theorem ajl (c:UInt8):pcB c=true ↔ (97<=c.toNat/\c.toNat<=122)\/(65<=c.toNat/\c.toNat<=90):=by
 unfold pcB;simp only[Qbt,jY,Qbj]
theorem aiF (c:UInt8):pnB c=true ↔ ((97<=c.toNat/\c.toNat<=122)\/(65<=c.toNat/\c.toNat<=90))\/(48<=c.toNat/\c.toNat<=57)\/c.toNat=95:=by
 unfold pnB;simp only[Qbt,jY,Qbj,ajl,or_assoc]
theorem aj9 {s:Str}{p:Nat}(h:byteAt s p < 128):um s p=(byteAt s p:Int)/\DJ s p=1:=by
 unfold um DJ;rw[Zh];unfold dcN;rw[Qb h];exact⟨rfl,rfl⟩
theorem apU {s:Str}{p:Nat}(h:128<=byteAt s p):128<=um s p:=by
 unfold um;rw[Zh];unfold dcN;rw[qC au];have key:∀(a b:Prop) [Decidable a] [Decidable b] (x y z:Nat×Nat),128<=x.1->128<=y.1->128<=z.1->True:=fun _ _ _ _ _ _ _ _ _ _=>trivial
 (repeat' split)<;>simp_all<;>omega
def cls (c:Int):Pg Int:=.br (decide (97<=c)) (.br (decide (c<=122)) (.ret 1) (.br (decide (65<=c)) (.br (decide (c<=90)) (.ret 2) (.br (decide (48<=c)) (.br (decide (c<=57)) (.ret 3) (.br (c==95) (.ret 4) (.ret 0))) (.br (c==95) (.ret 4) (.ret 0)))) (.br (decide (48<=c)) (.br (decide (c<=57)) (.ret 3) (.br (c==95) (.ret 4) (.ret 0))) (.br (c==95) (.ret 4) (.ret 0))))) (.br (decide (65<=c)) (.br (decide (c<=90)) (.ret 2) (.br (decide (48<=c)) (.br (decide (c<=57)) (.ret 3) (.br (c==95) (.ret 4) (.ret 0))) (.br (c==95) (.ret 4) (.ret 0)))) (.br (decide (48<=c)) (.br (decide (c<=57)) (.ret 3) (.br (c==95) (.ret 4) (.ret 0))) (.br (c==95) (.ret 4) (.ret 0))))
def Aa (c:Int):=(cls c).val
def aF1:aU Z:=E0 [] [] (a1 (bn (gz .i32))) (R1 cI) [] func71 1 cls
theorem ayj (c:Int):Aa c=if 97<=c/\c<=122 then 1 else if 65<=c/\c<=90 then 2 else if 48<=c/\c<=57 then 3 else if c=95 then 4 else 0:=by
 unfold Aa cls;simp only[bH,aV,Qb6,Qbj,Qc6];(repeat' split)<;>first | rfl | omega
theorem IZ (s:Str)(p:Nat):(Aa (um s p)=0 ↔ pnB (s.getD p 0)=false)/\((Aa (um s p)=1\/Aa (um s p)=2) ↔ pcB (s.getD p 0)=true):=by
 have hp:=ajl (s.getD p 0);have hn:=aiF (s.getD p 0);rw[ayj,Bool.eq_false_iff,ne_eq,hp,hn];have hb:byteAt s p=(s.getD p 0).toNat:=rfl;by_cases h:byteAt s p < 128
 ·rw[(aj9 h).1,hb];generalize (s.getD p 0).toNat=b;(repeat' split)<;>omega
 ·have:=apU (s:=s) (p:=p) au;rw[hb]at h;generalize (s.getD p 0).toNat=b at*;generalize um s p=c at*;(repeat' split)<;>omega
theorem U3 {s:Str}{p:Nat}(h:pnB (s.getD p 0)=true):DJ s p=1:=by
 have:=(aiF _).1 h;exact(aj9 (s:=s) (p:=p) (by show(s.getD p 0).toNat < 128;omega)).2
theorem aGT {c:UInt8}(h:pcB c=true):pnB c=true:=by unfold pnB;rw[h];rfl
theorem apP {s:Str}{p:Nat}(h:p < s.length):s.drop p=s.getD p 0::s.drop (p+1):=by
 rw[Qbm h];simp[List.getD,h]
def akA (s:Str):Pg Bool:=.wh (s.length+1) default (fun(x1:List UInt8×Int)=> .br (decide (x1.2.toNat < x1.1.length)) (.lt (Aa (um x1.1 x1.2.toNat)) fun(v2:Int)=> .br (v2==0) (.ret (.inr false)) (.br ((↑x1.2.toNat:Int)==0) (.br (v2 !=1) (.br (v2 !=2) (.ret (.inr false)) (rl (x1.1,(↑(x1.2.toNat+DJ x1.1 x1.2.toNat):Int)))) (rl (x1.1,(↑(x1.2.toNat+DJ x1.1 x1.2.toNat):Int)))) (rl (x1.1,(↑(x1.2.toNat+DJ x1.1 x1.2.toNat):Int))))) (.br (decide (1<=(↑(List.length s):Int))) (.ret (.inr (decide ((↑(List.length s):Int)<=40)))) (.ret (.inr false)))) (s,0)
def Hf (s:Str):=(akA s).val
theorem aoh (s:Str):Is (akA s):=
 by
 refine Gg (fun x=>x.1=s/\0<=x.2) (fun x=>s.length - x.2.toNat) ⟨rfl,by omega⟩ oJ (fun x hx=>⟨dV (fun _=>dB fun v2 hv2=>lh iR (fun _=>lh (fun _=>jG (fun _=>jG iR iR) iR) iR)) (fun _=>dV iR iR),fun x' hx'=> ?_⟩);obtain⟨t,x⟩:=x;obtain⟨rfl,h2⟩:=hx;dsimp only at h2 hx'⊢;revert hx';simp only[bH,dE,aV];by_cases h0:x.toNat < t.length
 ·rw[qW h0,wB];by_cases h1:Aa (um t x.toNat)=0
  ·rw[h1];intro e;cases e
  ·have hp:pnB (t.getD x.toNat 0)=true:=by
    rw[<-Bool.not_eq_false];exact fun e=>h1 ((IZ t x.toNat).1.2 e)
   have hw:=U3 hp;have:(Aa (um t x.toNat)==0)=false:=by simpa using h1
   rw[this,nR,hw];intro e;have e2:x'=(t,((x.toNat+1:Nat):Int)):=by
    revert e;cases((x.toNat:Int)==0)<;>cases(Aa (um t x.toNat) !=1)<;>cases(Aa (um t x.toNat) !=2)<;>simp only[wB,nR]<;>intro e<;>first | (cases e;rfl) | (cases e;done)
   subst e2;exact⟨⟨rfl,by omega⟩,by show t.length - (((x.toNat+1:Nat):Int)).toNat < _;omega⟩
 ·rw[qo h0,nR];intro e;revert e;cases decide ((1:Int)<=(t.length:Int))<;>intro e<;>cases e
def Qk:aU Z:=E0 [aF1] [jS 2 (bP (fun sl=>[.iter (pid (sl 7))]) (l1 (bQ cStr cI)))] (a1 (bn cStr)) (R1 aG) [] func33 1 akA fun a=>aoh a
theorem ack (s:Str):Hf s=IP s:=by
 have key:∀(m p:Nat),1<=p->p<=s.length->s.length - p < m->V8 (fun(x1:List UInt8×Int)=>bif decide (x1.2.toNat < x1.1.length)then(bif Aa (um x1.1 x1.2.toNat)==0 then(Sum.inr false:(List UInt8×Int)⊕Bool)else(bif ((x1.2.toNat:Nat):Int)==0 then(bif Aa (um x1.1 x1.2.toNat) !=1 then(bif Aa (um x1.1 x1.2.toNat) !=2 then .inr false else .inl (x1.1,((x1.2.toNat+DJ x1.1 x1.2.toNat:Nat):Int)))else .inl (x1.1,((x1.2.toNat+DJ x1.1 x1.2.toNat:Nat):Int)))else .inl (x1.1,((x1.2.toNat+DJ x1.1 x1.2.toNat:Nat):Int))))else(bif decide (1<=((s.length:Nat):Int))then .inr (decide (((s.length:Nat):Int)<=40))else .inr false)) default m (s,(p:Int))=((s.drop p).all pnB && decide (s.length<=40)):=by
  intro m;induction m with
  | zero=>intro p _ _ h;omega
  | succ m ih=>
   intro p h1 h2 h3;unfold V8;simp only[zk];by_cases h:p < s.length
   ·rw[qW h,wB,apP h,Qcx];cases hp:pnB (s.getD p 0)with
    | false=>
     rw[(IZ s p).1.2 hp];rfl
    | true=>
     have:(Aa (um s p)==0)=false:=by
      rw[Qb7];exact fun e=>by rw[(IZ s p).1.1 e]at hp;cases hp
     have hz:((p:Int)==0)=false:=by rw[Qb7];omega
     rw[this,hz,U3 hp];simp only[nR];rw[ih (p+1) au au au,Qcw]
   ·have:p=s.length:=by omega
    subst this;rw[qo h,qW (show(1:Int)<=(s.length:Int) by omega),List.drop_length];simp only[nR,wB,List.all_nil,Qcw];congr 1;rw[eq_iff_iff];omega
 unfold Hf akA;rw[Bv];simp only[bH,dE,aV];unfold IP;cases s with
 | nil=>rfl
 | cons c r=>
  unfold V8;simp only[Int.toNat_zero];rw[qW (show 0 < (c::r).length by simp),wB];have hk:=IZ (c::r) 0;have e0:(c::r).getD 0 0=c:=rfl;rw[e0]at hk;cases hp:pcB c with
  | false=>
   rw[hp]at hk;have h1:(Aa (um (c::r) 0) !=1)=true:=by
    rw[Qd5];exact fun e=>by have:=hk.2.1 (.inl e);cases this
   have h2:(Aa (um (c::r) 0) !=2)=true:=by
    rw[Qd5];exact fun e=>by have:=hk.2.1 (.inr e);cases this
   rw[h1,h2];cases Aa (um (c::r) 0)==0<;>simp
  | true=>
   rw[hp]at hk;have h12:=hk.2.2 rfl;have h0:(Aa (um (c::r) 0)==0)=false:=by rw[Qb7];omega
   have hw:DJ (c::r) 0=1:=U3 (s:=c::r) (p:=0) (aGT hp);have:=key ((c::r).length) 1 au oJ oJ;have hz:(((0:Nat):Int)==0)=true:=rfl;rw[h0,hw,hz];have e:(bif Aa (um (c::r) 0) !=1 then(bif Aa (um (c::r) 0) !=2 then(Sum.inr false:(List UInt8×Int)⊕Bool)else .inl (c::r,((0+1:Nat):Int)))else .inl (c::r,((0+1:Nat):Int)))= .inl (c::r,((1:Nat):Int)):=by
    rcases h12 with h | h
    ·rw[h];rfl
    ·rw[h];rfl
   simp only[nR,wB];rw[e];refine this.trans ?_;rw[Qcw,Bool.and_comm];rfl
def Qr (b:Int):Pg Bool:=.br (decide (97<=b)) (.ret (decide (b<=122))) (.ret false)
def u_ (b:Int):=(Qr b).val
theorem ahA (b:Int):Is (Qr b):=
 dV iR iR
def alA:aU Z:=E0 [] [] (a1 (bn (gz .u8))) (R1 aG) [] func57 1 Qr fun a=>ahA a
def ajr (b:Int):Pg Bool:=.br (decide (65<=b)) (.ret (decide (b<=90))) (.ret false)
def Eb (b:Int):=(ajr b).val
theorem aqg (b:Int):Is (ajr b):=
 dV iR iR
def axU:aU Z:=E0 [] [] (a1 (bn (gz .u8))) (R1 aG) [] func58 1 ajr fun a=>aqg a
def aaA (s:Str):Pg Bool:=.br ((↑(List.length s):Int)==0) (.ret false) (.br (decide (40 < (↑(List.length s):Int))) (.ret false) (.ix 0 (List.length s) (.br (!u_ (↑(List.getD s 0 0).toNat:Int)) (.ix 0 (List.length s) (.br (!Eb (↑(List.getD s 0 0).toNat:Int)) (.ret false) (.Pn [] (some (List.length s<=9223372036854775807)) tX 1 (↑(List.length s):Int) (fun i1 (y2:Unit)=> .ix i1 (List.length s) (.br (!u_ (↑(List.getD s i1.toNat 0).toNat:Int)) (.ix i1 (List.length s) (.br (!Eb (↑(List.getD s i1.toNat 0).toNat:Int)) (.ix i1 (List.length s) (.br ((↑(List.getD s i1.toNat 0).toNat:Int) !=95) (.ix i1 (List.length s) (.br (decide ((↑(List.getD s i1.toNat 0).toNat:Int) < 48)) (.ret (.inr false)) (.ix i1 (List.length s) (.br (decide (57 < (↑(List.getD s i1.toNat 0).toNat:Int))) (.ret (.inr false)) (rl ()))))) (rl ()))) (rl ()))) (rl ()))) (fun i1 (y2:Unit)=> .ret true) ()))) (.Pn [] (some (List.length s<=9223372036854775807)) tX 1 (↑(List.length s):Int) (fun i3 (y4:Unit)=> .ix i3 (List.length s) (.br (!u_ (↑(List.getD s i3.toNat 0).toNat:Int)) (.ix i3 (List.length s) (.br (!Eb (↑(List.getD s i3.toNat 0).toNat:Int)) (.ix i3 (List.length s) (.br ((↑(List.getD s i3.toNat 0).toNat:Int) !=95) (.ix i3 (List.length s) (.br (decide ((↑(List.getD s i3.toNat 0).toNat:Int) < 48)) (.ret (.inr false)) (.ix i3 (List.length s) (.br (decide (57 < (↑(List.getD s i3.toNat 0).toNat:Int))) (.ret (.inr false)) (rl ()))))) (rl ()))) (rl ()))) (rl ()))) (fun i3 (y4:Unit)=> .ret true) ()))))
def vY (s:Str):=(aaA s).val
theorem amn (s:Str):Is (aaA s):=
 lh iR (fun _=>dV iR (fun _=>dm au au (di (fun _=>dm au au (di iR (fun _=>Bc trivial au (fun h=>by simp only[ql]at h;omega) (fun i1 y2 _ _ _=>dm au au (di (fun _=>dm au au (di (fun _=>dm au au (jG (fun _=>dm au au (dV iR (fun _=>dm au au (dV iR iR)))) iR)) iR)) iR)) (fun i1 y2 _ _=>aT)))) (fun _=>Bc trivial au (fun h=>by simp only[ql]at h;omega) (fun i3 y4 _ _ _=>dm au au (di (fun _=>dm au au (di (fun _=>dm au au (jG (fun _=>dm au au (dV iR (fun _=>dm au au (dV iR iR)))) iR)) iR)) iR)) (fun i3 y4 _ _=>aT)))))
def adY:aU Z:=E0 [alA,axU] [jS 4 (bP (fun sl=>[s0 3]) (l1 cI))] (a1 (bn cStr)) (R1 aG) [] func26 1 aaA fun a=>amn a
theorem aAa (c:UInt8):(u_ (c.toNat:Int) || Eb (c.toNat:Int))=pcB c:=by
 unfold u_ Qr Eb ajr pcB;simp only[bH,aV];rw[Qb5];simp only[Qb6,Qbt,jY,Qbj];(repeat' split)<;>simp<;>omega
theorem LY (s:Str):vY s=IP s:=by
 have loop:∀(r:Str) (c0:List UInt8),vW (fun(i1:Int) (y2:Unit)=>bif !u_ (((c0++r).getD i1.toNat 0).toNat:Int)then(bif !Eb (((c0++r).getD i1.toNat 0).toNat:Int)then(bif (((c0++r).getD i1.toNat 0).toNat:Int) !=95 then(bif decide ((((c0++r).getD i1.toNat 0).toNat:Int) < 48)then(Sum.inr false:Unit⊕Bool)else(bif decide (57 < (((c0++r).getD i1.toNat 0).toNat:Int))then .inr false else .inl ()))else .inl ())else .inl ())else .inl ()) (fun(_:Int) (_:Unit)=>true) r.length (c0.length:Int) ()=r.all pnB:=by
  intro r;induction r with
  | nil=>intro c0;rfl
  | cons c r ih=>
   intro c0;rw[xH,amZ,Qcx];have e:(c0++c::r).getD ((c0.length:Int)).toNat 0=c:=by simp[List.getD]
   rw[e];have hi:=ih (c0++[c]);rw[Qba,pz]at hi;have e1:(((c0.length+[c].length:Nat)):Int)=(c0.length:Int)+1:=rfl;rw[e1]at hi;have hc:pnB c=(pcB c || (decide (48<=c.toNat) && decide (c.toNat<=57)) || decide (c.toNat=95)):=rfl;have hl:=aAa c;rw[<-hl]at hc;have k1:((c.toNat:Int) !=95)= !decide (c.toNat=95):=by rw[Qb5];simp;omega
   have k2:decide ((c.toNat:Int) < 48)= !decide (48<=c.toNat):=by rw[Qb5];simp;omega
   have k3:decide (57 < (c.toNat:Int))= !decide (c.toNat<=57):=by rw[Qb5];simp;omega
   rw[hc,k1,k2,k3];have hi':vW _ _ r.length ((c0.length:Int)+1) ()=r.all pnB:=hi;cases u_ (c.toNat:Int)<;>cases Eb (c.toNat:Int)<;>cases decide (c.toNat=95)<;>cases decide (48<=c.toNat)<;>cases decide (c.toNat<=57)<;>first | rfl | (refine Eq.trans hi' ?_;simp)
 unfold vY aaA IP;simp only[bH,iV,apl,aV];cases s with
 | nil=>rfl
 | cons c r=>
  have hz:(((c::r).length:Int)==0)=false:=by rw[Qb7];simp only[xH];omega
  have e0:(c::r).getD 0 0=c:=rfl;have hlen:(((c::r).length:Int) - 1).toNat=r.length:=by simp only[xH];omega
  have hl:=loop r [c];have hk:=aAa c;have h40:decide (40 < ((c::r).length:Int))= !decide ((c::r).length<=40):=by rw[Qb5];simp;omega
  rw[hz,e0,hlen,h40];have hl':vW _ _ r.length 1 ()=r.all pnB:=hl;dsimp only;cases decide ((c::r).length<=40)with
  | false=>rfl
  | true=>
   simp only[Qby,nR,Qcw];rw[<-hk];cases u_ (c.toNat:Int)<;>cases Eb (c.toNat:Int)<;>first | rfl | (refine Eq.trans hl' ?_;simp)
def aae (s:Str):Pg Bool:=.br (decide (120 < (↑(List.length s):Int))) (.ret false) (.each true qw s 0 (fun i1 a3 (y2:List UInt8)=> .ix i1 (List.length s) (.br ((↑a3.toNat:Int) !=46) (.lt (dD .i64 (i1+1)) fun(v4:Int)=> .ob (0<=i1/\i1<=v4/\v4<=(↑(List.length s):Int)) (.ob (y2.length+(List.drop i1.toNat (List.take v4.toNat s)).length<=9223372036854775807) (rl (y2++List.drop i1.toNat (List.take v4.toNat s))))) (.br (!vY y2) (.ret (.inr false)) (.ret (.inl []))))) (fun i1 (y2:List UInt8)=> .ret (vY y2)) [])
def QJ (s:Str):=(aae s).val
theorem amh (s:Str):Is (aae s):=
 by
 refine dV iR fun h0=>Ku (fun k y=>y.length<=k) (lU _) (.inl rfl) (fun i1 y2 h1 hm hI=> ?_) (fun y2 _ _=>aT);have hI:y2.length<=i1:=hI;have w:dD .i64 ((i1:Int)+1)=((i1+1:Nat):Int):=pU au;rw[w];have hl:(List.drop i1 (List.take (i1+1) s)).length=1:=by rw[PW,uP];omega
 refine⟨dm au au (jG (fun _=>dB fun v4 hv4=>aX au (aX (by subst hv4;rw[zk,zk,hl];omega) aT)) (fun _=>di iR iR)),fun y' hy'=> ?_⟩;revert hy';simp only[iV,bH,dE,dK,aV,zk];show _->y'.length<=i1+1
 cases((s.getD i1 0).toNat:Int) !=46<;>cases !vY y2<;>simp only[wB,nR]<;>intro e<;>first | (cases e;simp only[pz,A7,hl];omega) | (cases e;done)
def arq:aU Z:=E0 [adY] [jS 5 (bP (fun sl=>[s0 4, s0 3]) (az cI (l1 cStr)))] (a1 (bn cStr)) (R1 aG) [] func25 1 aae fun a=>amh a
theorem alK (s:Str):QJ s=(decide (s.length<=120) && (jD 46 s).all IP):=by
 have loop:∀(r c0:Str) (y:List UInt8),(c0++r).length<=9223372036854775000->BA (fun(k:Nat) (a3:UInt8) (y2:List UInt8)=>bif (a3.toNat:Int) !=46 then(Sum.inl (y2++List.drop k (List.take (dD .i64 ((k:Int)+1)).toNat (c0++r))):List UInt8⊕Bool)else(bif !vY y2 then .inr false else .inl [])) (fun _ y2=>vY y2) r c0.length y=(headB y (jD 46 r)).all IP:=by
  intro r;induction r with
  | nil=>
   intro c0 y _;show vY y=_
   rw[LY];simp[jD,headB]
  | cons c r ih=>
   intro c0 y hb;unfold BA;have hlen:c0.length < 9223372036854775807:=by rw[pz,xH]at hb;omega
   have hw:(dD .i64 ((c0.length:Int)+1)).toNat=c0.length+1:=by rw[pU hlen];rfl
   have hd:List.drop c0.length (List.take (dD .i64 ((c0.length:Int)+1)).toNat (c0++c::r))=[c]:=by
    rw[hw,List.take_append];simp
   have hi:=fun y=>ih (c0++[c]) y (by simpa using hb)
   simp only[Qba,Qbu,Qcc]at hi;have hl:(c0++[c]).length=c0.length+1:=by simp
   rw[hl]at hi;rw[hd];cases hx:c==46 with
   | false=>
    have h46:((c.toNat:Int) !=46)=true:=by
     rw[Qd5];intro e;have:c=46:=UInt8.toNat_inj.1 (by have:(46:UInt8).toNat=46:=rfl;omega);subst this;simp at hx
    rw[h46,wB,afE 46 c r y hx];exact hi (y++[c])
   | true=>
    have hc:=eq_of_beq hx;subst hc;have h46:(((46:UInt8).toNat:Int) !=46)=false:=rfl;rw[h46,nR,Vg hx,LY];cases hp:IP y with
    | false=>simp[headB,hp]
    | true=>
     have:=hi [];rw[Yl (YA 46 r)]at this;simp only[Qby,nR];rw[this];simp[headB,hp]
 unfold QJ aae;simp only[bH,qJ,iV,dE,dK,aV,zk];by_cases h:s.length<=120
 ·rw[qW h,qo (show ¬(120:Int) < (s.length:Int) by omega),nR,Qcw];have:=loop s [] [] (by rw[Qcc];omega);rw[Yl (YA 46 s)]at this;exact this
 ·rw[qo h,qW (show(120:Int) < (s.length:Int) by omega)];rfl
def uX:Str:=[46]
def akb (s:Str):Pg Int:=.as (List.length uX<=9223372036854775807) (.br (uX==s) (.ret 0) (.ix 0 (List.length uX) (.ret (Lib.indexByte s (List.getD uX 0 0).toNat.toUInt8))))
def aaI (s:Str):=(akb s).val
theorem aoY (s:Str):Is (akb s):=
 iH fun _=>di iR (fun _=>dm lY lY aT)
def aio:aU Z:=vS Z [N7] [jS 15 (bP (fun sl=>[s0 8, s0 10]) (az cI (l1 cI)))] (args (aj (bn cStr) (a1 (bn cStr)))) (kL (n:=143) rfl) (R1 cI) [] func115 ntmps115 dS 1 rfl (fun a=>akb (a.1)) (fun a=>some (a.2=uX)) (fun⟨s,p⟩ e h=>by have hf0:p=uX:=h;subst hf0;show _=_;kernel_rfl) (fun a=>aaI (a.1)) (fun a h=>⟨aoY (a.1),rfl⟩)
theorem atv (s:Str):aaI s=Lib.indexByte s 46:=by
 unfold aaI akb;simp only[kN,mr,bH,dK,aV];by_cases h:uX=s
 ·subst h;rfl
 ·have:(uX==s)=false:=by simpa using h
  rw[this];rfl
theorem aaK:((List.length uX:Nat):Int)=1:=rfl
def aGY (s:Str):Pg Int:=.ob (uX=uX) (.ret (aaI s))
theorem av3 (s:Str):Is (aGY s):=
 aX rfl aT
def aBJ:aU Z:=vS Z [aio] [] (args (aj (bn cStr) (a1 (bn cStr)))) (kL (n:=8) rfl) (R1 cI) [] func181 ntmps181 dS 1 rfl (fun a=>aGY (a.1)) (fun a=>some (a.2=uX)) (fun⟨s,p⟩ e h=>by have hf0:p=uX:=h;subst hf0;show _=_;kernel_rfl) (fun a=>Lib.indexByte (a.1) 46) (fun a h=>⟨av3 (a.1),atv (a.1)⟩)
def abL (i:Int)(y:List UInt8×List Str):(List UInt8×List Str)⊕((List UInt8×Int×List Str)⊕List Str):=
 bif decide (Lib.indexByte y.1 46 < 0)then .inr (.inl (y.1,i,y.2))else .inl (List.drop (dD .i64 (Lib.indexByte y.1 46+1)).toNat (List.take y.1.length y.1),y.2.set i.toNat (List.take (dD .i64 (Lib.indexByte y.1 46+0)).toNat y.1))
def azW (i:Int)(y:List UInt8×List Str):(List UInt8×Int×List Str)⊕List Str:= .inl (y.1,i,y.2)
theorem Xx {r:Str}(hr:r.length<=4294967296)(h:0 < Lib.countByte r 46):∃m:Nat,Lib.indexByte r 46=(m:Int)/\m < r.length/\jD 46 r=r.take m::jD 46 (r.drop (m+1))/\Lib.countByte r 46=Lib.countByte (r.drop (m+1)) 46+1:=by
 have hge:=Lib.indexByte_ge r 46;by_cases h1:Lib.indexByte r 46= -1
 ·have:=(H5 h1).2;omega
 ·obtain⟨m,hm⟩:∃m:Nat,Lib.indexByte r 46=(m:Int):=⟨(Lib.indexByte r 46).toNat,by omega⟩;obtain⟨k1,k2,k3⟩:=GI hm;exact⟨m,hm,k1,k2,k3⟩
theorem aw1 {r:Str}{a:List Str}{i:Nat}(hr:r.length<=4294967296)(h:0 < Lib.countByte r 46):∃m:Nat,abL (i:Int) (r,a)= .inl (r.drop (m+1),a.set i (r.take m))/\jD 46 r=r.take m::jD 46 (r.drop (m+1))/\Lib.countByte r 46=Lib.countByte (r.drop (m+1)) 46+1:=by
 obtain⟨m,hm,k1,k2,k3⟩:=Xx hr h;refine⟨m,?_,k2,k3⟩;unfold abL;have w1:dD .i64 ((m:Int)+1)=((m+1:Nat):Int):=pU au;have w2:dD .i64 ((m:Int)+0)=((m:Nat):Int):=by rw[Int.add_zero,fO (k:= .i64) zO]
 rw[hm,w1,w2,qo (show ¬(m:Int) < 0 by omega),nR,DT,zk,zk,zk]
theorem abP:∀(n i:Nat) (r:Str) (a:List Str),Lib.countByte r 46=n->a.length=i+n+1->r.length<=4294967296->∃r' a',vW abL azW n (i:Int) (r,a)= .inl (r',((i+n:Nat):Int),a')/\a'.length=i+n+1/\a'.take (i+n)++[r']=a.take i++jD 46 r
 | 0,i,r,a,hc,ha,hr=>by
  have h1:Lib.indexByte r 46= -1:=by
   have hge:=Lib.indexByte_ge r 46;by_cases h1:Lib.indexByte r 46= -1
   ·exact h1
   ·obtain⟨_,_,k3⟩:=GI (s:=r) (c:=46) (m:=(Lib.indexByte r 46).toNat) au;omega
  exact⟨r,a,rfl,ha,by rw[(H5 h1).1];rfl⟩
 | n+1,i,r,a,hc,ha,hr=>by
  obtain⟨m,hb,k2,k3⟩:=aw1 (a:=a) (i:=i) hr au;have hr1:(r.drop (m+1)).length<=4294967296:=by rw[PW];omega
  obtain⟨r',a',h1,h2,h3⟩:=abP n (i+1) (r.drop (m+1)) (a.set i (r.take m)) au qcd hr1;refine⟨r',a',?_,by omega,?_⟩
  ·unfold vW;rw[hb];have e:((i:Int)+1)=((i+1:Nat):Int):=rfl;rw[e];simp only;rw[h1,show i+1+n=i+(n+1) by omega]
  ·rw[show i+(n+1)=i+1+n by omega,h3,k2];have:(a.set i (r.take m)).take (i+1)=a.take i++[r.take m]:=by
    rw[Qel,Qd1,Wy au];have hlt:(a.take i).length=i:=by rw[uP];omega
    simp only[Option.toList_some];rw[Qd3 _ _ au,hlt,Qef];rfl
   rw[this,Qba];rfl
theorem aFc (s:Str)(h:s.length<=4294967296):min (dD .i64 ((Lib.countByte s 46:Int)+1)) (dD .i64 ((s.length:Int)+1))=((Lib.countByte s 46+1:Nat):Int)/\dD .i64 (((Lib.countByte s 46+1:Nat):Int) - 1)=((Lib.countByte s 46:Nat):Int):=by
 have hc:=count_le 46 s;have w1:dD .i64 ((Lib.countByte s 46:Int)+1)=((Lib.countByte s 46+1:Nat):Int):=pU au;have w2:dD .i64 ((s.length:Int)+1)=((s.length+1:Nat):Int):=pU au;rw[w1,w2,fO (k:= .i64) zO];omega
def abH (s:Str):Pg (List Str):=.cut (fun(y1:Int)=> .lt (dD .i64 ((↑(List.length s):Int)+1)) fun(v5:Int)=> .ob (min y1 v5=min y1 v5/\0<=min y1 v5/\min y1 v5*(16:Int)<=281474976710656/\min y1 v5<=1099511627776) (.cut (fun(y4:List UInt8×Int×List Str)=> .ix y4.2.1 y4.2.2.length (.ob (y4.2.1.toNat < y4.2.2.length) (.lt (y4.2.2.set y4.2.1.toNat y4.1) fun(v6:List Str)=> .lt (dD .i64 (y4.2.1+1)) fun(v7:Int)=> .ob ((0:Int)<=0/\0<=v7/\v7<=(↑v6.length:Int)) (.ret (List.take v7.toNat v6))))) (.lt (dD .i64 (min y1 v5 - 1)) fun(v8:Int)=> .cnt qw 0 v8 (fun i2 (y3:List UInt8×List Str)=> .ob (uX=uX) (.br (decide (Lib.indexByte y3.1 46 < 0)) (.ret (.inr (.inl (y3.1,i2,y3.2)))) (.lt (dD .i64 (Lib.indexByte y3.1 46+0)) fun(v9:Int)=> .ob ((0:Int)<=0/\0<=v9/\v9<=(↑y3.1.length:Int)) (.ix i2 y3.2.length (.ob (i2.toNat < y3.2.length) (.lt (dD .i64 (Lib.indexByte y3.1 46+(↑(List.length uX):Int))) fun(v10:Int)=> .ob (0<=v10/\v10<=(↑y3.1.length:Int)/\(↑y3.1.length:Int)<=(↑y3.1.length:Int)) (.as (List.length uX<=9223372036854775807) (rl (List.drop v10.toNat (List.take y3.1.length y3.1),y3.2.set i2.toNat (List.take v9.toNat y3.1)))))))))) (fun i2 (y3:List UInt8×List Str)=> rl (y3.1,i2,y3.2)) (s,List.replicate (min y1 v5).toNat [])))) (rl (dD .i64 ((↑(Lib.countByte s 46):Int)+1)))
def QI (s:Str):=(abH s).val
theorem alm (s:Str)(h:s.length<=4294967296):Is (abH s):=
 by
 obtain⟨hn,hc⟩:=aFc s h;have hcl:=count_le 46 s;refine oQ aT (fun y1 hy1=> ?_);have hy1:dD .i64 ((Lib.countByte s 46:Int)+1)=y1:=by injection hy1
 subst hy1;refine dB fun v5 hv5=> ?_;subst hv5;rw[hn];refine aX ⟨rfl,by omega,by omega,by omega⟩ (oQ (dB fun v8 Py=> ?_) fun y4 hy4=> ?_)
 ·subst Py;rw[hc];refine I9 (fun i y=>0<=i/\y.2.length=Lib.countByte s 46+1/\(Lib.countByte y.1 46:Int)=(Lib.countByte s 46:Int) - i/\y.1.length<=s.length) ⟨by omega,by rw[Qc0];omega,by show(Lib.countByte s 46:Int)=_;omega,lU _⟩ au au (fun i2 y3 h1 h2 hI=> ?_) (fun i2 y3 _ _ _=>aT);obtain⟨hi,q1,q2,q3⟩:=hI;obtain⟨m,hm,k1,k2,k3⟩:=Xx (r:=y3.1) au au;have w1:dD .i64 ((m:Int)+1)=((m+1:Nat):Int):=pU au;have w2:dD .i64 ((m:Int)+0)=((m:Nat):Int):=by rw[Int.add_zero,fO (k:= .i64) zO]
  rw[hm];rw[aaK,w1,w2];refine⟨aX rfl (dV iR (fun _=>dB fun v10 Ij=>aX au (dm au au (aX au (dB fun v11 Xa=>aX au (iH fun _=>aT)))))),fun y' hy'=> ?_⟩
  ·revert hy';simp only[dK,dE,bH,iV,kN,aV];rw[qo (show ¬(m:Int) < 0 by omega),nR,DT];intro e;injection e with e
   subst e;refine⟨by omega,by simp only[Qbq];exact q1,?_,?_⟩
   ·show(Lib.countByte (List.drop ((m+1:Nat):Int).toNat y3.1) 46:Int)=_
    rw[zk];omega
   ·show(List.drop ((m+1:Nat):Int).toNat y3.1).length<=_
    rw[PW];omega
 ·obtain⟨r',a',h1,h2,h3⟩:=abP (Lib.countByte s 46) 0 s (List.replicate (((Lib.countByte s 46+1:Nat):Int)).toNat []) rfl (by rw[Qc0];omega) h;have e:y4=(r',((0+Lib.countByte s 46:Nat):Int),a'):=by
   have:=hy4;simp only[dE,BM,dK,bH,iV,kN,aV,hc,aaK]at this;have h1':=h1;rw[show(((Lib.countByte s 46:Nat):Int) - 0).toNat=Lib.countByte s 46 by omega]at this;have h4:=this.symm.trans h1';injection h4
  subst e;dsimp only;have w:dD .i64 (((0+Lib.countByte s 46:Nat):Int)+1)=((0+Lib.countByte s 46+1:Nat):Int):=pU au;exact dm au au (aX au (dB fun v6 hv6=>dB fun v7 hv7=>aX (by rw[hv7,w,hv6,Qbq];omega) aT))
def apR:aU Z:=vS Z [avn,aBJ] [jS 11 (bP (fun sl=>[s0 10, s0 0, .row (pid (sl 9)) 9]) (az cI (az cStr (l1 bY)))),jS 100007 (bP (fun sl=>[s0 3]) (l1 cI)),jS 100017 (bP (fun sl=>[s0 0, s0 10, .row (pid (sl 9)) 9]) (az cStr (az cI (l1 bY))))] (args (aj (bn cStr) (aj (bn cStr) (aj (bn cI) (a1 (bn cI)))))) (kL (n:=66) rfl) (R1 bY) [] func116 ntmps116 dS 1 rfl (fun a=>abH (a.1)) (fun a=>some ((a.2.1=uX/\a.2.2.1=0/\a.2.2.2=(-1))/\((a.1).length<=4294967296))) (fun⟨s,p,save,n⟩ e h=>by have hf0:p=uX:=h.1.1;subst hf0;have hf1:save=0:=h.1.2.1;subst hf1;have hf2:n=(-1):=h.1.2.2;subst hf2;show _=_;kernel_rfl) (fun a=>QI (a.1)) (fun a h=>⟨alm (a.1) h.2,rfl⟩)
theorem alN (s:Str)(h:s.length<=4294967296):QI s=jD 46 s:=by
 obtain⟨hn,hc⟩:=aFc s h;have hcl:=count_le 46 s;obtain⟨r',a',h1,h2,h3⟩:=abP (Lib.countByte s 46) 0 s (List.replicate (((Lib.countByte s 46+1:Nat):Int)).toNat []) rfl (by rw[Qc0];omega) h;unfold QI abH;simp only[mr,dE,BM,dK,bH,iV,kN,aV,oO,hn,hc,aaK];rw[show(((Lib.countByte s 46:Nat):Int) - 0).toNat=Lib.countByte s 46 by omega];have h1':(vW abL azW (Lib.countByte s 46) 0 (s,List.replicate (((Lib.countByte s 46+1:Nat):Int)).toNat []):(List UInt8×Int×List Str)⊕List Str)= .inl (r',((0+Lib.countByte s 46:Nat):Int),a'):=h1;refine(Qd (fun x:(List UInt8×Int×List Str)⊕List Str=>thenS x _) h1').trans ?_;rw[oO];have w:dD .i64 (((0+Lib.countByte s 46:Nat):Int)+1)=((0+Lib.countByte s 46+1:Nat):Int):=pU au;dsimp only;rw[w,zk,zk];rw[BZ]at*;rw[List.take_zero,Qcc]at h3;rw[<-h3,Qel,Qd1,Wy au];have hlt:(a'.take (Lib.countByte s 46)).length=Lib.countByte s 46:=by rw[uP];omega
 simp only[Option.toList_some];rw[Qd3 _ _ au,hlt,Qef];rfl
def aq9 (s:Str):Pg (List Str):=.ob ((uX=uX/\(0:Int)=0/\(-1)=(-1))/\List.length s<=4294967296) (.ret (QI s))
theorem ald (s:Str)(h:s.length<=4294967296):Is (aq9 s):=
 aX ⟨⟨rfl,rfl,rfl⟩,h⟩ aT
def UV:aU Z:=vS Z [apR] [] (args (aj (bn cStr) (a1 (bn cStr)))) (kL (n:=8) rfl) (R1 bY) [] func70 ntmps70 dS 1 rfl (fun a=>aq9 (a.1)) (fun a=>some ((a.2=uX)/\((a.1).length<=4294967296))) (fun⟨s,p⟩ e h=>by have hf0:p=uX:=h.1;subst hf0;show _=_;kernel_rfl) (fun a=>jD 46 (a.1)) (fun a h=>⟨ald (a.1) h.2,alN (a.1) h.2⟩)
def an8 (s:Str):Pg Bool:=.ob ([46]=uX/\List.length s<=4294967296) (.as ((jD 46 s).length<=9223372036854775807) (.each false tX (jD 46 s) [] (fun i1 a3 (y2:Unit)=> .ix i1 (jD 46 s).length (.br (!Hf a3) (.ret (.inr false)) (rl ()))) (fun i1 (y2:Unit)=> .ret (decide ((↑(List.length s):Int)<=120))) ()))
def RN (s:Str):=(an8 s).val
def Zz:aU Z:=E1 [Qk,UV] [jS 2 (bP (fun sl=>[s0 8]) (l1 cI))] (a1 (bn cStr)) (R1 aG) [] func32 1 an8 fun a=>a.length<=4294967296
theorem aoo (s:Str):RN s=QJ s:=by
 unfold RN an8;simp only[dK,dE,kN,qJ,iV,bH,aV];rw[alK];have key:∀(l:List Str) (k:Nat),BA (fun(_:Nat) (a3:Str) (_:Unit)=>bif !Hf a3 then(Sum.inr false:Unit⊕Bool)else .inl ()) (fun(_:Nat) (_:Unit)=>decide ((s.length:Int)<=120)) l k ()=(decide (s.length<=120) && l.all IP):=by
  intro l;induction l with
  | nil=>intro k;show decide ((s.length:Int)<=120)=_;rw[List.all_nil,Bool.and_true];congr 1;rw[eq_iff_iff];omega
  | cons a l ih=>
   intro k;unfold BA;rw[ack,Qcx];cases IP a with
   | true=>exact ih (k+1)
   | false=>simp
 exact key _ 0

def sIs (k:Int):Pg Bool:=.br (decide (1<=k)) (.ret (decide (k<=9))) (.ret false)
def jQ (k:Int):=(sIs k).val
def Yc:aU Z:=E0 [] [] (a1 (bn cI)) (R1 aG) [] func347 1 sIs
def aqK (k:Int):Pg Bool:=.br (k==7) (.ret true) (.ret (k==8))
def aj8 (k:Int):=(aqK k).val
def ac2:aU Z:=E0 [] [] (a1 (bn cI)) (R1 aG) [] func405 1 aqK
def ayZ (v:af):Pg Bool:=aL v.List (aL v.Pairs (aL v.Slots (aL v.bJ (.lt (dD .i64 (dD .i64 (dD .i64 ((↑v.List.length:Int)+(↑v.Pairs.length:Int))+(↑v.Slots.length:Int))+(↑v.bJ.length:Int))) fun(v1:Int)=> .br (decide (0 < v1)) (.ret false) (.br (aj8 v.Kind) (.ret (v.Bits==0)) (.ret (v.Text==[])))))))
def ap4 (v:af):=(ayZ v).val
def akM:aU Z:=E0 [ac2] [] (a1 (aF aI)) (R1 aG) [] func348 1 ayZ
def akK (k:Int)(b:Int):Pg Bool:=.br (k==1) (.ret (decide (b<=1))) (.br (k==2) (.lt (dD .i64 b) fun(v1:Int)=> .br (decide ((-2147483648)<=v1)) (.ret (decide (v1<=2147483647))) (.ret false)) (.br (k==9) (.ret (decide (b<=2147483647))) (.br (k==4) (.ret (decide (b<=4294967295))) (.ret true))))
def anG (k:Int)(b:Int):=(akK k b).val
def alY:aU Z:=E0 [] [] (aj (bn cI) (a1 (bn (gz .u64)))) (R1 aG) [] func349 1 (u2 akK)
def azU (k:Int)(v:af):Pg Bool:=.br (!jQ k) (.ret false) (.br (v.Kind !=k) (.ret false) (.br (!ap4 v.re) (.ret false) (.br (!anG k v.Bits) (.ret false) (.br (decide (4096 < (↑(List.length v.Text):Int))) (.ret false) (.br (k !=7) (.ret true) (.ob (List.length v.Text<=9223372036854775700) (.ret (BG v.Text))))))))
def TU (k:Int)(v:af):=(azU k v).val
def Qz:aU Z:=E0 [zK,Yc,akM,alY] [] (aj (bn cI) (a1 (aF aI))) (R1 aG) [] func247 1 (u2 azU)
def aq5 (b:Int):Pg Int:=.br (vk .u64 b (9218868437227405312:Int)==9218868437227405312) (.br (vk .u64 b (4503599627370495:Int) !=0) (.ret 0) (.br (vk .u64 b (9218868437227405312:Int)==9218868437227405312) (.ret 1) (.br (vk .u64 b (9218868437227405312:Int)==0) (.br (vk .u64 b (4503599627370495:Int)==0) (.ret 2) (.br (vk .u64 b (9218868437227405312:Int)==0) (.ret 3) (.ret 4))) (.br (vk .u64 b (9218868437227405312:Int)==0) (.ret 3) (.ret 4))))) (.br (vk .u64 b (9218868437227405312:Int)==9218868437227405312) (.ret 1) (.br (vk .u64 b (9218868437227405312:Int)==0) (.br (vk .u64 b (4503599627370495:Int)==0) (.ret 2) (.br (vk .u64 b (9218868437227405312:Int)==0) (.ret 3) (.ret 4))) (.br (vk .u64 b (9218868437227405312:Int)==0) (.ret 3) (.ret 4))))
def akW (b:Int):=(aq5 b).val
def acx:aU Z:=E0 [] [] (a1 (bn (gz .u64))) (R1 cI) [] func350 1 aq5
def akj (v:af):Pg af:=.br (v.Kind==6) (.br (akW v.Bits==0) (.ret (af.mk v.Kind 9221120237041090560 v.Text v.List v.Pairs v.Slots v.bJ)) (.ret v.re)) (.ret v.re)
def nK (v:af):=(akj v).val
def JF:aU Z:=E0 [acx] [] (a1 (aF aI)) (shr [.slot 0 true (nn 7)] (l1 aI)) [] func248 1 akj
def an4:Pg (List (Str×iD)):=.ret (sU (sU (sU (sU (sU (sU (sU (sU (sU (sU (sU (sU (sU [] [100,101,112,114,101,99,97,116,101,100] (iD.mk 1 126)) [100,111,99] (iD.mk 7 126)) [97,108,105,97,115] (iD.mk 7 84)) [115,105,110,99,101] (iD.mk 4 84)) [117,110,116,105,108] (iD.mk 4 84)) [109,105,110] (iD.mk 3 4)) [109,97,120] (iD.mk 3 4)) [108,101,110,103,116,104] (iD.mk 4 4)) [115,101,99,114,101,116] (iD.mk 1 4)) [105,100,101,109,112,111,116,101,110,116] (iD.mk 1 64)) [116,105,109,101,111,117,116] (iD.mk 4 64)) [114,111,117,116,101] (iD.mk 7 64)) [111,119,110,101,114] (iD.mk 7 34))
def aa8:List (Str×iD):=(an4).val
def aeW:aU Z:=E0 [] [] a0 (R1 yF) [] func351 1 fun a=>an4
def ay5 (name:Str):Pg Int:=.ret (zD pI.z aa8 name).kind
def aDt (name:Str):=(ay5 name).val
def aw4:aU Z:=E0 [aeW] [] (a1 (bn cStr)) (R1 cI) [] func406 1 ay5
def aub (n:Note):Pg Bool:=.lt (aDt n.Name) fun(v1:Int)=> .br (v1 !=0) (.ret (TU v1 n.Val.re)) (.ret false)
def aw6 (n:Note):=(aub n).val
def atu:aU Z:=E0 [Qz,aw4] [] (a1 (aF FB)) (R1 aG) [] func352 1 aub
def aFP (n:Note)(target:Int)(last:Str)(ok:Bool):Pg Int:=.br (!(Vu pI D.kW aa8).has (Pv.str n.Name)) (.ret 8) (.cut (fun(y1:Bool)=> .br y1 (.ret 1) (.br (!aw6 (Note.mk n.Name n.Val.re)) (.ret 12) (.br ok (.br (Op.bytesLess n.Name last) (.ret 11) (.br ok (.br (n.Name==last) (.ret 9) (.ret 0)) (.ret 0))) (.br ok (.br (n.Name==last) (.ret 9) (.ret 0)) (.ret 0))))) (.br (decide (target < 1)) (rl true) (.br (decide (6 < target)) (rl true) (.ob (0<=target) (rl (vk .i64 (Aq .i64 (zD pI.z aa8 n.Name).targets target) (1:Int)==0))))))
def aGD (n:Note)(target:Int)(last:Str)(ok:Bool):=(aFP n target last ok).val
def aCI:aU Z:=E0 [aeW,atu] [jS 100005 (bP (fun sl=>[s0 21]) (l1 aG))] (aj (aF FB) (aj (bn cI) (aj (bn cStr) (a1 (bn aG))))) (R1 cI) [] func250 1 (u4 aFP)
def atw (l:List Note)(target:Int):Pg Int:=.br (decide (8 < (↑l.length:Int))) (.ret 3) (aL l (.each false qw l Nu (fun i1 a3 (y2:List UInt8)=> .ix i1 l.length (.lt (aGD (Note.mk a3.Name a3.Val.re) target y2 (decide (0 < i1))) fun(v4:Int)=> .br (v4 !=0) (.ret (.inr v4)) (rl a3.Name))) (fun i1 (y2:List UInt8)=> .ret 0) []))
def ajo (l:List Note)(target:Int):=(atw l target).val
def adI:aU Z:=E0 [aCI] [jS 5 (bP (fun sl=>[s0 14, s0 5]) (az cI (l1 cStr)))] (aj (bn lJ) (a1 (bn cI))) (R1 cI) [] func169 1 (u2 atw)
theorem pY {A:Type}(p:A->Bool)(l:List A):decide (0<=fG p l)=l.any p:=by
 rcases rF p l with⟨h,k⟩ | ⟨u,a,v,rfl,ha,hu,h⟩
 ·rw[h,qo au];exact(Qck.2 fun x hx=>by rw[k x hx];simp).symm
 ·rw[h,qW au];exact(Qcr.2 ⟨a,by simp,ha⟩).symm
def isWord (s:Str):Pg Bool:=.cut (fun(y1:Bool)=> .br y1 (.ret true) (.br (s==[105,109,112,111,114,116]) (.br (s==[105,109,112,111,114,116]) (.ret true) (.ret false)) (.br (s==[115,112,97,99,101]) (.br (s==[115,112,97,99,101]) (.ret true) (.ret false)) (.br (s==[114,112,99]) (.br (s==[114,112,99]) (.ret true) (.ret false)) (.br (s==[115,116,114,101,97,109]) (.br (s==[115,116,114,101,97,109]) (.ret true) (.ret false)) (.br (s==[114,101,116,117,114,110,115]) (.br (s==[114,101,116,117,114,110,115]) (.ret true) (.ret false)) (.br (s==[111,112,101,110]) (.br (s==[111,112,101,110]) (.ret true) (.ret false)) (.br (s==[116,114,117,101]) (.br (s==[116,114,117,101]) (.ret true) (.ret false)) (.br (s==[102,97,108,115,101]) (.br (s==[102,97,108,115,101]) (.ret true) (.ret false)) (.br (s==[110,97,110]) (.br (s==[110,97,110]) (.ret true) (.ret false)) (.br (s==[105,110,102]) (.ret true) (.ret false)))))))))))) (.br (s==[109,101,115,115,97,103,101]) (rl (s==[109,101,115,115,97,103,101])) (.br (s==[101,110,117,109]) (rl (s==[101,110,117,109])) (.br (s==[115,101,114,118,105,99,101]) (rl (s==[115,101,114,118,105,99,101])) (.br (s==[117,110,105,111,110]) (rl (s==[117,110,105,111,110])) (.br (s==[109,97,112]) (rl (s==[109,97,112])) (.br (s==[108,105,115,116]) (rl (s==[108,105,115,116])) (.br (s==[114,101,113,117,105,114,101,100]) (rl (s==[114,101,113,117,105,114,101,100])) (.br (s==[111,112,116,105,111,110,97,108]) (rl (s==[111,112,116,105,111,110,97,108])) (.br (s==[112,108,97,105,110]) (rl (s==[112,108,97,105,110])) (.br (s==[100,101,102,97,117,108,116]) (rl (s==[100,101,102,97,117,108,116])) (rl (s==[114,101,115,101,114,118,101,100]))))))))))))
def Eu (s:Str):=(isWord s).val
def zF:aU Z:=E0 [] [jS 100013 (bP (fun sl=>[s0 4]) (l1 aG))] (a1 (bn cStr)) (R1 aG) [] func162 1 isWord
def aet:aU Z:=EI [zF] bY 162 func159 [] Eu
def aea:aU Z:=EA [aet,zF] bY 162 func100 Eu
def azN (s:Str):Pg Bool:=.br (Hf s) (.ret !Eu s) (.ret false)
def abW (s:Str):=(azN s).val
def Qu:aU Z:=E0 [Qk,zF] [] (a1 (bn cStr)) (R1 aG) [] func111 1 azN
def azm (s:Str):Pg Bool:=.ob (List.length s<=4294967296) (.br (RN s) (.ob ([46]=uX/\List.length s<=4294967296) (.ret !(jD 46 s).any fun(x:Str)=>Eu x)) (.ret false))
def ahb (s:Str):=(azm s).val
def Y7:aU Z:=E1 [Zz,UV,aea,zF] [] (a1 (bn cStr)) (R1 aG) [] func106 1 azm fun a=>a.length<=4294967296
def ixS (l:List Str)(v:Str):Pg Int:=aL l (.each false tX l [] (fun i1 a3 (y2:Unit)=> .ix i1 l.length (.br (v==a3) (.ret (.inr i1)) (rl ()))) (fun i1 (y2:Unit)=> .ret (-1)) ())
theorem aBF (l:List Str)(v:Str):Is (ixS l v):=
 iH fun _=>gU (.inr au) (fun i1 y2 _ _=>dm au au (di iR iR)) (fun y2 _=>aT)
def azS:aU Z:=E2 [] [jS 2 (bP (fun sl=>[s0 8]) (l1 cI))] (aj (bn bY) (a1 (bn cStr))) (R1 cI) [] func127 1 (u2 ixS) (fun a=>none) (fun a=>fG (fun(x:Str)=>a.2==x) a.1) fun a h=>⟨aBF a.1 a.2,(fun(l:List Str) (v:Str)=>o5 (fun(x:Str)=>v==x) l 0) a.1 a.2⟩
def coS (l:List Str)(v:Str):Pg Bool:=.lt (fG (fun(x:Str)=>v==x) l) fun(v1:Int)=> .ret (decide (0<=v1))
theorem aBM (l:List Str)(v:Str):Is (coS l v):=
 dB fun v1 hv1=>aT
def aif:aU Z:=E2 [azS] [] (aj (bn bY) (a1 (bn cStr))) (R1 aG) [] func102 1 (u2 coS) (fun a=>none) (fun a=>a.1.any fun(x:Str)=>a.2==x) fun a h=>⟨aBM a.1 a.2,(fun(l:List Str) (v:Str)=>pY (fun(x:Str)=>v==x) l) a.1 a.2⟩
def aGb (x:bg)(name:Str):Pg Bool:=.ret (x.Name==name)
def apW (x:bg)(name:Str):=(aGb x name).val
def aoF:aU Z:=vX [] [] (aj (aF gQ) (a1 (iM 0))) (b1 (aP cStr)) (R1 aG) [0] func161 1 (u11 aGb)
def aqx:aU Z:=GG [aoF] rQ 161 [0] (b1 (aP cStr)) func160 iW fun x b=>apW x b
def Ja (s:ay)(name:Str):Pg (bg×Bool):=.lt (fG (fun(x:bg)=>apW x name) s.Messages) fun(v1:Int)=> .br (decide (v1 < 0)) (.ret (bg.mk [] [] [] [] [],false)) (.ix v1 s.Messages.length (.ret (s.Messages.getD v1.toNat iW,true)))
def l_ (s:ay)(name:Str):=(Ja s name).val
theorem adW (s:ay)(name:Str):Is (Ja s name):=
 dB fun v1 hv1=>dV iR (fun _=>dm au (by have:=lF (fun(x:bg)=>apW x name) s.Messages;rw[hv1];exact this.1) (aT))
def wQ:aU Z:=E0 [aqx,aoF] [] (aj (aF bC) (a1 (bn cStr))) (shr [.slot 0 true (nn 5), s0 1] (az gQ (l1 aG))) [] func103 2 (u2 Ja) fun a=>adW a.1 a.2
def aE7 (x:dU)(name:Str):Pg Bool:=.ret (x.Name==name)
def aoT (x:dU)(name:Str):=(aE7 x name).val
def aoX:aU Z:=vX [] [] (aj (aF jM) (a1 (iM 0))) (b1 (aP cStr)) (R1 aG) [0] func346 1 (u11 aE7)
def BI:aU Z:=GG [aoX] gY 346 [0] (b1 (aP cStr)) func191 nD fun x b=>aoT x b
def arR (s:ay)(name:Str):Pg (dU×Bool):=.lt (fG (fun(x:dU)=>aoT x name) s.Enums) fun(v1:Int)=> .br (decide (v1 < 0)) (.ret (dU.mk [] false [] [] [],false)) (.ix v1 s.Enums.length (.ret (s.Enums.getD v1.toNat nD,true)))
def anL (s:ay)(name:Str):=(arR s name).val
theorem ary (s:ay)(name:Str):Is (arR s name):=
 dB fun v1 hv1=>dV iR (fun _=>dm au (by have:=lF (fun(x:dU)=>aoT x name) s.Enums;rw[hv1];exact this.1) (aT))
def aka:aU Z:=E0 [BI,aoX] [] (aj (aF bC) (a1 (bn cStr))) (shr [.slot 0 true (nn 5), s0 1] (az jM (l1 aG))) [] func243 2 (u2 arR) fun a=>ary a.1 a.2
def aEE (x:nN)(n:Int):Pg Bool:=.br (decide (x.From<=n)) (.ret (decide (n<=x.To))) (.ret false)
def apQ (x:nN)(n:Int):=(aEE x n).val
def ahc:aU Z:=vX [] [] (aj (aF PI) (a1 (iM 0))) (b1 (aP cI)) (R1 aG) [0] func174 1 (u11 aEE)
def aDf:aU Z:=GG [ahc] qH 174 [0] (b1 (aP cI)) func252 DZ fun x b=>apQ x b
def aCj:aU Z:=EAB [ahc,aDf] qH 174 [0] (b1 (aP cI)) func173 fun x b=>apQ x b
def Yd (l:List nN)(n:Int):Pg Bool:=.ret (l.any fun(x:nN)=>apQ x n)
def Ie (l:List nN)(n:Int):=(Yd l n).val
def Dz:aU Z:=E0 [aCj,ahc] [] (aj (bn qH) (a1 (bn cI))) (R1 aG) [] func114 1 (u2 Yd)
def fname (f:aJ):Pg (List UInt8):=.ret f.Name
def asQ (f:aJ):=(fname f).val
def ZV:aU Z:=E0 [] [] (a1 (aF eG)) (R1 cStr) [] func164 1 fname
def azT (f:Item):Pg (List UInt8):=.ret f.Name
def asi (f:Item):=(azT f).val
def ZE:aU Z:=E0 [] [] (a1 (aF lS)) (R1 cStr) [] func113 1 azT
end
end Go.Proofs.YtihakigfhcankaaGreatDoor
