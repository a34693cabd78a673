/- Server: the data. -/
import Derived.Test.YtebmficbjhcohaaGreatDoorProg
import Derived.Test.YtebmficbjhcohaaGreatDoorEng15
import Derived.Test.YtebmficbjhcohaaGreatDoorEng14
import Derived.Lib.Strings
import Derived.Lib.Slices
import Derived.Lib.Walk
import Derived.Lib.Bytealg
import Derived.Lib.Builder
namespace Go.Proofs.YtebmficbjhcohaaGreatDoor
noncomputable section
open Go.RowKit Go.Vc
open Tryz
set_option linter.unusedVariables false
set_option linter.unusedSimpArgs false
set_option maxRecDepth 100000
set_option maxHeartbeats 4000000
structure Raw where
 Num:Int
 eY:Int
 Bits:Int
 Data:Str
deriving DecidableEq
mutual
inductive af where
 | mk (Kind_:Int) (avh:Int) (avq:Str) (avm:_root_.List af) (avo:_root_.List Pair) (aij:_root_.List Slot) (aIZ:_root_.List Raw)
inductive Slot where
 | mk (aKE:Int) (aKb:af)
inductive Pair where
 | mk (aKD:af) (aKb:af)
end
def af.Kind (x:af):Int:=
 match x with
 | .mk a _ _ _ _ _ _=>a
def af.Bits (x:af):Int:=
 match x with
 | .mk _ a _ _ _ _ _=>a
def af.Text (x:af):Str:=
 match x with
 | .mk _ _ a _ _ _ _=>a
def af.List (x:af):_root_.List af:=
 match x with
 | .mk _ _ _ a _ _ _=>a
def af.Pairs (x:af):_root_.List Pair:=
 match x with
 | .mk _ _ _ _ a _ _=>a
def af.Slots (x:af):_root_.List Slot:=
 match x with
 | .mk _ _ _ _ _ a _=>a
def af.bT (x:af):_root_.List Raw:=
 match x with
 | .mk _ _ _ _ _ _ a=>a
def af.re (x:af):af:=af.mk x.Kind x.Bits x.Text x.List x.Pairs x.Slots x.bT
@[simp] theorem af.dO (x:af):af.re x=x:=by cases x;rfl
theorem af.eta (x:af):af.mk x.Kind x.Bits x.Text x.List x.Pairs x.Slots x.bT=x:=by cases x;rfl
def Slot.Num (x:Slot):Int:=
 match x with
 | .mk a _=>a
def Slot.Val (x:Slot):af:=
 match x with
 | .mk _ a=>a
def Slot.re (x:Slot):Slot:=Slot.mk x.Num x.Val
@[simp] theorem Slot.dO (x:Slot):Slot.re x=x:=by cases x;rfl
theorem Slot.eta (x:Slot):Slot.mk x.Num x.Val=x:=by cases x;rfl
def Pair.Key (x:Pair):af:=
 match x with
 | .mk a _=>a
def Pair.Val (x:Pair):af:=
 match x with
 | .mk _ a=>a
def Pair.re (x:Pair):Pair:=Pair.mk x.Key x.Val
@[simp] theorem Pair.dO (x:Pair):Pair.re x=x:=by cases x;rfl
theorem Pair.eta (x:Pair):Pair.mk x.Key x.Val=x:=by cases x;rfl
structure Note where
 Name:Str
 Val:af
structure fH where
 Name:Str
 In:Str
 Out:Str
 Shape:Int
 Notes:_root_.List Note
structure gU where
 Name:Str
 Methods:_root_.List fH
 Notes:_root_.List Note
structure mG where
 From:Int
 To:Int
deriving DecidableEq
structure Item where
 Name:Str
 Num:Int
 Notes:_root_.List Note
structure dP where
 Name:Str
 Open:Bool
 Items:_root_.List Item
 Reserved:_root_.List mG
 Notes:_root_.List Note
structure xg where
 Kind:Int
 Name:Str
deriving DecidableEq
structure aP where
 Num:Int
 Name:Str
 Card:Int
 Key:Int
 dS:xg
 Union:Str
 dK:Bool
 Default:af
 Notes:_root_.List Note
structure aX where
 Name:Str
 Fields:_root_.List aP
 Reserved:_root_.List mG
 Gone:_root_.List Str
 Notes:_root_.List Note
structure aH where
 Messages:_root_.List aX
 Enums:_root_.List dP
 gK:_root_.List gU
structure dF where
 Index:Int
 Kind:Int
 Err:Int
deriving DecidableEq
structure Status where
 Code:Int
 Text:Str
deriving DecidableEq
structure Tape where
 Method:Str
 In:_root_.List Str
 Out:_root_.List Str
 Status:Status
deriving DecidableEq
structure Op where
 Num:Int
 Name:Str
 Alias:Str
 Card:Int
 Key:Int
 Kind:Int
 Target:Int
 Union:Int
deriving DecidableEq
structure bD where
 Name:Str
 Ops:_root_.List Op
 VV:Int
deriving DecidableEq
structure df where
 bg:_root_.List bD
 Enums:_root_.List dP
structure bZ where
 Method:Str
 Kind:Int
 Num:Int
 azA:Int
deriving DecidableEq
structure fK where
 Def:Str
 Num:Int
 Err:Int
deriving DecidableEq
structure aF where
 zA:Str
 l:_root_.List fK
deriving DecidableEq
structure Frame where
 Kind:Int
 Stream:Int
 Num:Int
 Data:Str
deriving DecidableEq
structure ql where
 Bytes:Int
 Depth:Int
 Nodes:Int
 Text:Int
deriving DecidableEq
structure dL where
 s:aH
 h:bZ
 m:fH
 C9:_root_.List af
 one:Bool
structure yO where
 Kind:Int
 Key:Str
 Val:Str
 Num:Int
 mG:Int
deriving DecidableEq
structure Trace where
 Method:Str
 Times:_root_.List Int
deriving DecidableEq
structure vz where
 Key:Str
 Val:Str
deriving DecidableEq
structure Nq where
 aKa:Int
 Id:Int
 Method:Str
 aIY:_root_.List vz
 avi:Int
 In:_root_.List Str
 Ready:Int
 azz:_root_.List Str
 Status:Status
 aIX:Bool
deriving DecidableEq
structure ax where
 zA:Str
 num:Int
 out:_root_.List fK
deriving DecidableEq
structure ai where
 p:df
structure aN where
 Data:Str
 At:Int
 End:Int
 Depth:Int
 Nodes:Int
 Text:Int
deriving DecidableEq
structure ae where
 p:df
 c:aN
structure az where
 p:df
structure ik where
 kind:Int
 targets:Int
deriving DecidableEq
inductive D where
 | aX (l:List aX)
 | dP (l:List dP)
 | gU (l:List gU)
 | bZ (l:List bZ)
 | Tape (l:List Tape)
 | dF (l:List dF)
 | str (l:List Str)
 | fK (l:List fK)
 | bD (l:List bD)
 | af (l:List af)
 | Pair (l:List Pair)
 | Slot (l:List Slot)
 | Raw (l:List Raw)
 | Note (l:List Note)
 | aP (l:List aP)
 | mG (l:List mG)
 | fH (l:List fH)
 | bool (l:List Bool)
 | Item (l:List Item)
 | Op (l:List Op)
 | u8 (l:List Int)
 | Frame (l:List Frame)
 | yO (l:List yO)
 | Trace (l:List Trace)
 | Nq (l:List Nq)
 | vz (l:List vz)
 | azB (l:List (List Str))
 | i64 (l:List Int)
 | u32 (l:List Int)
 | ae6 (l:List (List af))
 | ae7 (l:List (List Pair))
 | avl (l:List (List Raw))
 | alL (l:List Unit)
 | nJ (l:List (Str×Bool))
 | kC (l:List (Str×ik))
def mJ (d:D):Option (List (Str×Bool)):=
 match d with
 | .nJ l=>some l
 | _=>none
def lg:ji D (List (Str×Bool)):=aqo D.nJ mJ
def qN (d:D):Option (List (Str×ik)):=
 match d with
 | .kC l=>some l
 | _=>none
def yB:ji D (List (Str×ik)):=aqo D.kC qN
def MQ (d:D):Option (List Unit):=
 match d with
 | .alL l=>some l
 | _=>none
def xI (d:D):Option (List aX):=
 match d with
 | .aX l=>some l
 | _=>none
def rq:ji D (List aX):=rF D.aX xI []
def J5 (d:D):Option (List dP):=
 match d with
 | .dP l=>some l
 | _=>none
def gJ:ji D (List dP):=rF D.dP J5 []
def xQ (d:D):Option (List gU):=
 match d with
 | .gU l=>some l
 | _=>none
def xU:ji D (List gU):=rF D.gU xQ []
def yG (d:D):Option (List bZ):=
 match d with
 | .bZ l=>some l
 | _=>none
def pF:ji D (List bZ):=rF D.bZ yG []
def Iq (d:D):Option (List Tape):=
 match d with
 | .Tape l=>some l
 | _=>none
def zG:ji D (List Tape):=rF D.Tape Iq []
def vN (d:D):Option (List dF):=
 match d with
 | .dF l=>some l
 | _=>none
def BL:ji D (List dF):=rF D.dF vN []
def P7 (d:D):Option (List Str):=
 match d with
 | .str l=>some l
 | _=>none
def bF:ji D (List Str):=rF D.str P7 []
def yx (d:D):Option (List fK):=
 match d with
 | .fK l=>some l
 | _=>none
def kz:ji D (List fK):=rF D.fK yx []
def Je (d:D):Option (List bD):=
 match d with
 | .bD l=>some l
 | _=>none
def iZ:ji D (List bD):=rF D.bD Je []
def II (d:D):Option (List af):=
 match d with
 | .af l=>some l
 | _=>none
def iD:ji D (List af):=rF D.af II []
def oq (d:D):Option (List Pair):=
 match d with
 | .Pair l=>some l
 | _=>none
def d_:ji D (List Pair):=rF D.Pair oq []
def jq (d:D):Option (List Slot):=
 match d with
 | .Slot l=>some l
 | _=>none
def bH:ji D (List Slot):=rF D.Slot jq []
def kT (d:D):Option (List Raw):=
 match d with
 | .Raw l=>some l
 | _=>none
def bG:ji D (List Raw):=rF D.Raw kT []
def Ku (d:D):Option (List Note):=
 match d with
 | .Note l=>some l
 | _=>none
def kQ:ji D (List Note):=rF D.Note Ku []
def tu (d:D):Option (List aP):=
 match d with
 | .aP l=>some l
 | _=>none
def fZ:ji D (List aP):=rF D.aP tu []
def IB (d:D):Option (List mG):=
 match d with
 | .mG l=>some l
 | _=>none
def ou:ji D (List mG):=rF D.mG IB []
def yc (d:D):Option (List fH):=
 match d with
 | .fH l=>some l
 | _=>none
def yJ:ji D (List fH):=rF D.fH yc []
def rX (d:D):Option (List Bool):=
 match d with
 | .bool l=>some l
 | _=>none
def qm:ji D (List Bool):=rF D.bool rX []
def KN (d:D):Option (List Item):=
 match d with
 | .Item l=>some l
 | _=>none
def gW:ji D (List Item):=rF D.Item KN []
def aah (d:D):Option (List Op):=
 match d with
 | .Op l=>some l
 | _=>none
def nz:ji D (List Op):=rF D.Op aah []
def aaX (d:D):Option (List Int):=
 match d with
 | .u8 l=>some l
 | _=>none
def LM:ji D (List Int):=rF D.u8 aaX []
def MR (d:D):Option (List Frame):=
 match d with
 | .Frame l=>some l
 | _=>none
def Me (d:D):Option (List yO):=
 match d with
 | .yO l=>some l
 | _=>none
def MC (d:D):Option (List Trace):=
 match d with
 | .Trace l=>some l
 | _=>none
def S_ (d:D):Option (List Nq):=
 match d with
 | .Nq l=>some l
 | _=>none
def KH (d:D):Option (List vz):=
 match d with
 | .vz l=>some l
 | _=>none
def aeU:ji D (List vz):=rF D.vz KH []
def Rk (d:D):Option (List (List Str)):=
 match d with
 | .azB l=>some l
 | _=>none
def QG (d:D):Option (List Int):=
 match d with
 | .i64 l=>some l
 | _=>none
def abk:ji D (List Int):=rF D.i64 QG []
def Z4 (d:D):Option (List Int):=
 match d with
 | .u32 l=>some l
 | _=>none
def FI (d:D):Option (List (List af)):=
 match d with
 | .ae6 l=>some l
 | _=>none
def Yz:ji D (List (List af)):=rF D.ae6 FI []
def EW (d:D):Option (List (List Pair)):=
 match d with
 | .ae7 l=>some l
 | _=>none
def Xi:ji D (List (List Pair)):=rF D.ae7 EW []
def Kq (d:D):Option (List (List Raw)):=
 match d with
 | .avl l=>some l
 | _=>none
def acf:ji D (List (List Raw)):=rF D.avl Kq []
def mQ:ji D Raw:=nG (dh (gq .i64) (dh (gq .i64) (dh (gq .u64) cStr))) (fun p=>Raw.mk (p.1) (p.2.1) (p.2.2.1) (p.2.2.2)) (fun b=>(b.Num,b.eY,b.Bits,b.Data))
def aK:ji D af:=nG (dh (gq .i64) (dh (gq .u64) (dh cStr (dh iD (dh d_ (dh bH bG)))))) (fun p=>af.mk (p.1) (p.2.1) (p.2.2.1) (p.2.2.2.1) (p.2.2.2.2.1) (p.2.2.2.2.2.1) (p.2.2.2.2.2.2)) (fun b=>(b.Kind,b.Bits,b.Text,b.List,b.Pairs,b.Slots,b.bT))
def kY:ji D Slot:=nG (dh (gq .i64) aK) (fun p=>Slot.mk (p.1) (p.2)) (fun b=>(b.Num,b.Val))
def qF:ji D Pair:=nG (dh aK aK) (fun p=>Pair.mk (p.1) (p.2)) (fun b=>(b.Key,b.Val))
def A8:ji D Note:=nG (dh cStr aK) (fun p=>Note.mk (p.1) (p.2)) (fun b=>(b.Name,b.Val))
def pz:ji D fH:=nG (dh cStr (dh cStr (dh cStr (dh (gq .i64) kQ)))) (fun p=>fH.mk (p.1) (p.2.1) (p.2.2.1) (p.2.2.2.1) (p.2.2.2.2)) (fun b=>(b.Name,b.In,b.Out,b.Shape,b.Notes))
def pI:ji D gU:=nG (dh cStr (dh yJ kQ)) (fun p=>gU.mk (p.1) (p.2.1) (p.2.2)) (fun b=>(b.Name,b.Methods,b.Notes))
def PV:ji D mG:=nG (dh (gq .i64) (gq .i64)) (fun p=>mG.mk (p.1) (p.2)) (fun b=>(b.From,b.To))
def lV:ji D Item:=nG (dh cStr (dh (gq .i64) kQ)) (fun p=>Item.mk (p.1) (p.2.1) (p.2.2)) (fun b=>(b.Name,b.Num,b.Notes))
def jv:ji D dP:=nG (dh cStr (dh aG (dh gW (dh ou kQ)))) (fun p=>dP.mk (p.1) (p.2.1) (p.2.2.1) (p.2.2.2.1) (p.2.2.2.2)) (fun b=>(b.Name,b.Open,b.Items,b.Reserved,b.Notes))
def uK:ji D xg:=nG (dh (gq .i64) cStr) (fun p=>xg.mk (p.1) (p.2)) (fun b=>(b.Kind,b.Name))
def dY:ji D aP:=nG (dh (gq .i64) (dh cStr (dh (gq .i64) (dh (gq .i64) (dh uK (dh cStr (dh aG (dh aK kQ)))))))) (fun p=>aP.mk (p.1) (p.2.1) (p.2.2.1) (p.2.2.2.1) (p.2.2.2.2.1) (p.2.2.2.2.2.1) (p.2.2.2.2.2.2.1) (p.2.2.2.2.2.2.2.1) (p.2.2.2.2.2.2.2.2)) (fun b=>(b.Num,b.Name,b.Card,b.Key,b.dS,b.Union,b.dK,b.Default,b.Notes))
def fF:ji D aX:=nG (dh cStr (dh fZ (dh ou (dh bF kQ)))) (fun p=>aX.mk (p.1) (p.2.1) (p.2.2.1) (p.2.2.2.1) (p.2.2.2.2)) (fun b=>(b.Name,b.Fields,b.Reserved,b.Gone,b.Notes))
def bn:ji D aH:=nG (dh rq (dh gJ xU)) (fun p=>aH.mk (p.1) (p.2.1) (p.2.2)) (fun b=>(b.Messages,b.Enums,b.gK))
def xW:ji D dF:=nG (dh (gq .i64) (dh (gq .i64) (gq .i64))) (fun p=>dF.mk (p.1) (p.2.1) (p.2.2)) (fun b=>(b.Index,b.Kind,b.Err))
def lu:ji D Status:=nG (dh (gq .i64) cStr) (fun p=>Status.mk (p.1) (p.2)) (fun b=>(b.Code,b.Text))
def PS:ji D Tape:=nG (dh cStr (dh bF (dh bF lu))) (fun p=>Tape.mk (p.1) (p.2.1) (p.2.2.1) (p.2.2.2)) (fun b=>(b.Method,b.In,b.Out,b.Status))
def iU:ji D Op:=nG (dh (gq .i64) (dh cStr (dh cStr (dh (gq .i64) (dh (gq .i64) (dh (gq .i64) (dh (gq .i64) (gq .i64)))))))) (fun p=>Op.mk (p.1) (p.2.1) (p.2.2.1) (p.2.2.2.1) (p.2.2.2.2.1) (p.2.2.2.2.2.1) (p.2.2.2.2.2.2.1) (p.2.2.2.2.2.2.2)) (fun b=>(b.Num,b.Name,b.Alias,b.Card,b.Key,b.Kind,b.Target,b.Union))
def iq:ji D bD:=nG (dh cStr (dh nz (gq .i64))) (fun p=>bD.mk (p.1) (p.2.1) (p.2.2)) (fun b=>(b.Name,b.Ops,b.VV))
def dN:ji D df:=nG (dh iZ gJ) (fun p=>df.mk (p.1) (p.2)) (fun b=>(b.bg,b.Enums))
def jc:ji D bZ:=nG (dh cStr (dh (gq .i64) (dh (gq .i64) (gq .i64)))) (fun p=>bZ.mk (p.1) (p.2.1) (p.2.2.1) (p.2.2.2)) (fun b=>(b.Method,b.Kind,b.Num,b.azA))
def Vy:ji D fK:=nG (dh cStr (dh (gq .i64) (gq .i64))) (fun p=>fK.mk (p.1) (p.2.1) (p.2.2)) (fun b=>(b.Def,b.Num,b.Err))
def bC:ji D aF:=nG (dh cStr kz) (fun p=>aF.mk (p.1) (p.2)) (fun b=>(b.zA,b.l))
def adh:ji D Frame:=nG (dh (gq .i64) (dh (gq .i64) (dh (gq .i64) cStr))) (fun p=>Frame.mk (p.1) (p.2.1) (p.2.2.1) (p.2.2.2)) (fun b=>(b.Kind,b.Stream,b.Num,b.Data))
def zL:ji D ql:=nG (dh (gq .i64) (dh (gq .i64) (dh (gq .i64) (gq .i64)))) (fun p=>ql.mk (p.1) (p.2.1) (p.2.2.1) (p.2.2.2)) (fun b=>(b.Bytes,b.Depth,b.Nodes,b.Text))
def eU:ji D dL:=nG (dh bn (dh jc (dh pz (dh iD aG)))) (fun p=>dL.mk (p.1) (p.2.1) (p.2.2.1) (p.2.2.2.1) (p.2.2.2.2)) (fun b=>(b.s,b.h,b.m,b.C9,b.one))
def aeI:ji D yO:=nG (dh (gq .i64) (dh cStr (dh cStr (dh (gq .i64) (gq .i64))))) (fun p=>yO.mk (p.1) (p.2.1) (p.2.2.1) (p.2.2.2.1) (p.2.2.2.2)) (fun b=>(b.Kind,b.Key,b.Val,b.Num,b.mG))
def acZ:ji D Trace:=nG (dh cStr abk) (fun p=>Trace.mk (p.1) (p.2)) (fun b=>(b.Method,b.Times))
def ajL:ji D vz:=nG (dh cStr cStr) (fun p=>vz.mk (p.1) (p.2)) (fun b=>(b.Key,b.Val))
def aj8:ji D Nq:=nG (dh (gq .i64) (dh (gq .i64) (dh cStr (dh aeU (dh (gq .i64) (dh bF (dh (gq .i64) (dh bF (dh lu aG))))))))) (fun p=>Nq.mk (p.1) (p.2.1) (p.2.2.1) (p.2.2.2.1) (p.2.2.2.2.1) (p.2.2.2.2.2.1) (p.2.2.2.2.2.2.1) (p.2.2.2.2.2.2.2.1) (p.2.2.2.2.2.2.2.2.1) (p.2.2.2.2.2.2.2.2.2)) (fun b=>(b.aKa,b.Id,b.Method,b.aIY,b.avi,b.In,b.Ready,b.azz,b.Status,b.aIX))
def aQ:ji D ax:=nG (dh cStr (dh (gq .i64) kz)) (fun p=>ax.mk (p.1) (p.2.1) (p.2.2)) (fun b=>(b.zA,b.num,b.out))
def fG:ji D ai:=nG dN (fun p=>ai.mk p) (fun b=>(b.p))
def dQ:ji D aN:=nG (dh cStr (dh (gq .i64) (dh (gq .i64) (dh (gq .i64) (dh (gq .i64) (gq .i64)))))) (fun p=>aN.mk (p.1) (p.2.1) (p.2.2.1) (p.2.2.2.1) (p.2.2.2.2.1) (p.2.2.2.2.2)) (fun b=>(b.Data,b.At,b.End,b.Depth,b.Nodes,b.Text))
def a_:ji D ae:=nG (dh dN dQ) (fun p=>ae.mk (p.1) (p.2)) (fun b=>(b.p,b.c))
def iY:ji D az:=nG dN (fun p=>az.mk p) (fun b=>(b.p))
def nH:Raw:=Raw.mk 0 0 0 []
instance:Inhabited Raw:=⟨nH⟩
def fJ:af:=af.mk 0 0 [] [] [] [] []
instance:Inhabited af:=⟨fJ⟩
def bP:Slot:=Slot.mk 0 fJ
def fO:Pair:=Pair.mk fJ fJ
def Be:Note:=Note.mk [] fJ
def oD:fH:=fH.mk [] [] [] 0 []
instance:Inhabited fH:=⟨oD⟩
def qU:gU:=gU.mk [] [] []
def uO:mG:=mG.mk 0 0
def kW:Item:=Item.mk [] 0 []
def jV:dP:=dP.mk [] false [] [] []
def axK:xg:=xg.mk 0 []
def aJ:aP:=aP.mk 0 [] 0 0 axK [] false fJ []
def f_:aX:=aX.mk [] [] [] [] []
def nU:dF:=dF.mk 0 0 0
def acH:Status:=Status.mk 0 []
def jy:Tape:=Tape.mk [] [] [] acH
def Ak:Op:=Op.mk 0 [] [] 0 0 0 0 0
def bV:bD:=bD.mk [] [] 0
def aEm:df:=df.mk [] []
def MV:bZ:=bZ.mk [] 0 0 0
def amS:fK:=fK.mk [] 0 0
def axJ:Frame:=Frame.mk 0 0 0 []
def av8:yO:=yO.mk 0 [] [] 0 0
def axq:Trace:=Trace.mk [] []
def aCF:vz:=vz.mk [] []
def aEL:Nq:=Nq.mk 0 0 [] [] 0 [] 0 [] acH false
def auU:aN:=aN.mk [] 0 0 0 0 0
def Po:ae:=ae.mk aEm auU
instance:Inhabited ae:=⟨Po⟩
def ae4:ik:=ik.mk 0 0
def Rj:El D:=⟨aX,fF,f_,D.aX,xI⟩
def akx:El D:=⟨dP,jv,jV,D.dP,J5⟩
def Ro:El D:=⟨gU,pI,qU,D.gU,xQ⟩
def Sm:El D:=⟨bZ,jc,MV,D.bZ,yG⟩
def aiO:El D:=⟨Tape,PS,jy,D.Tape,Iq⟩
def Ov:El D:=⟨dF,xW,nU,D.dF,vN⟩
def asK:El D:=⟨Str,cStr,[],D.str,P7⟩
def TQ:El D:=⟨fK,Vy,amS,D.fK,yx⟩
def aks:El D:=⟨bD,iq,bV,D.bD,Je⟩
def akv:El D:=⟨af,aK,fJ,D.af,II⟩
def ajn:El D:=⟨Pair,qF,fO,D.Pair,oq⟩
def alu:El D:=⟨Slot,kY,bP,D.Slot,jq⟩
def auz:El D:=⟨Raw,mQ,nH,D.Raw,kT⟩
def ak6:El D:=⟨Note,A8,Be,D.Note,Ku⟩
def Xk:El D:=⟨aP,dY,aJ,D.aP,tu⟩
def ajj:El D:=⟨mG,PV,uO,D.mG,IB⟩
def VJ:El D:=⟨fH,pz,oD,D.fH,yc⟩
def akf:El D:=⟨Bool,aG,false,D.bool,rX⟩
def alD:El D:=⟨Item,lV,kW,D.Item,KN⟩
def aAP:El D:=⟨Op,iU,Ak,D.Op,aah⟩
def aBC:El D:=⟨Int,(gq .u8),0,D.u8,aaX⟩
def adZ:El D:=⟨Frame,adh,axJ,D.Frame,MR⟩
def acP:El D:=⟨yO,aeI,av8,D.yO,Me⟩
def acr:El D:=⟨Trace,acZ,axq,D.Trace,MC⟩
def ajX:El D:=⟨Nq,aj8,aEL,D.Nq,S_⟩
def aji:El D:=⟨vz,ajL,aCF,D.vz,KH⟩
def alv:El D:=⟨List Str,bF,[],D.azB,Rk⟩
def aqM:El D:=⟨Int,(gq .i64),0,D.i64,QG⟩
def ava:El D:=⟨Int,(gq .u32),0,D.u32,Z4⟩
def ady:El D:=⟨List af,iD,[],D.ae6,FI⟩
def aeL:El D:=⟨List Pair,d_,[],D.ae7,EW⟩
def akE:El D:=⟨List Raw,bG,[],D.avl,Kq⟩
def Us:El D:=⟨Unit,ali,(),D.alL,MQ⟩
def view (d:D):Vw D:=
 match d with
 | .aX l=>⟨Rj,l⟩
 | .dP l=>⟨akx,l⟩
 | .gU l=>⟨Ro,l⟩
 | .bZ l=>⟨Sm,l⟩
 | .Tape l=>⟨aiO,l⟩
 | .dF l=>⟨Ov,l⟩
 | .str l=>⟨asK,l⟩
 | .fK l=>⟨TQ,l⟩
 | .bD l=>⟨aks,l⟩
 | .af l=>⟨akv,l⟩
 | .Pair l=>⟨ajn,l⟩
 | .Slot l=>⟨alu,l⟩
 | .Raw l=>⟨auz,l⟩
 | .Note l=>⟨ak6,l⟩
 | .aP l=>⟨Xk,l⟩
 | .mG l=>⟨ajj,l⟩
 | .fH l=>⟨VJ,l⟩
 | .bool l=>⟨akf,l⟩
 | .Item l=>⟨alD,l⟩
 | .Op l=>⟨aAP,l⟩
 | .u8 l=>⟨aBC,l⟩
 | .Frame l=>⟨adZ,l⟩
 | .yO l=>⟨acP,l⟩
 | .Trace l=>⟨acr,l⟩
 | .Nq l=>⟨ajX,l⟩
 | .vz l=>⟨aji,l⟩
 | .azB l=>⟨alv,l⟩
 | .i64 l=>⟨aqM,l⟩
 | .u32 l=>⟨ava,l⟩
 | .ae6 l=>⟨ady,l⟩
 | .ae7 l=>⟨aeL,l⟩
 | .avl l=>⟨akE,l⟩
 | .alL l=>⟨Us,l⟩
 | .nJ _=>⟨Us,[]⟩
 | .kC _=>⟨Us,[]⟩
def Cc:=(kvS false pvB false)
def oO:=(kvS true (ai4 (pvP (pvI .i64) (pvI .i64)) (fun p=>ik.mk (p.1) (p.2)) (fun b=>(b.kind,b.targets))) ae4)
def Au (d:D):Option (Mp D):=
 match d with
 | .nJ l=>some (RX Cc D.nJ l)
 | .kC l=>some (RX oO D.kC l)
 | _=>none
def F6:TypeId->Option D:=lk [(201,D.nJ []),(436,D.kC [])]
def arS:List (Nat×El D):=[(68,Rj),(91,akx),(73,Ro),(75,Sm),(43,aiO),(35,Ov),(9,asK),(125,TQ),(95,aks),(61,akv),(297,ajn),(279,alu),(286,auz),(149,ak6),(64,Xk),(145,ajj),(70,VJ),(4,akf),(136,alD),(141,aAP),(5,aBC),(116,adZ),(307,acP),(520,acr),(522,ajX),(234,aji),(39,alv),(3,aqM),(376,ava),(56,ady),(57,aeL),(59,akE)]
def oh:TypeId->Option (El D):=lk arS
def rowOf (e:TypeId)(s:List UInt8):Option D:=if Nat.beq e 5 then some (D.u8 (Ub s))else none
def S:Sh D:=tK view oh (fun _=>none) rowOf Au F6
theorem Af (d:D)(a:List (Str×Bool))(h:mJ d=some a):d=D.nJ a:=by
 cases d<;>simp[mJ]at h
 subst h;rfl
instance aol:dm S lg:=aki Af
instance azE:uN S (anG D.nJ mJ):=axt Af
theorem CX (d:D)(a:List (Str×ik))(h:qN d=some a):d=D.kC a:=by
 cases d<;>simp[qN]at h
 subst h;rfl
instance afd:dm S yB:=aki CX
theorem BI (d:D)(a:List Unit)(h:MQ d=some a):d=D.alL a:=by
 cases d<;>simp[MQ]at h
 subst h;rfl
theorem Ee (d:D)(a:List aX)(h:xI d=some a):d=D.aX a:=by
 cases d<;>simp[xI]at h
 subst h;rfl
instance avv:dm S rq:=jh Ee rfl
theorem ND (d:D)(a:List dP)(h:J5 d=some a):d=D.dP a:=by
 cases d<;>simp[J5]at h
 subst h;rfl
instance aBJ:dm S gJ:=jh ND rfl
theorem Dy (d:D)(a:List gU)(h:xQ d=some a):d=D.gU a:=by
 cases d<;>simp[xQ]at h
 subst h;rfl
instance avx:dm S xU:=jh Dy rfl
theorem Du (d:D)(a:List bZ)(h:yG d=some a):d=D.bZ a:=by
 cases d<;>simp[yG]at h
 subst h;rfl
instance VZ:dm S pF:=jh Du rfl
theorem NQ (d:D)(a:List Tape)(h:Iq d=some a):d=D.Tape a:=by
 cases d<;>simp[Iq]at h
 subst h;rfl
instance afc:dm S zG:=jh NQ rfl
theorem CP (d:D)(a:List dF)(h:vN d=some a):d=D.dF a:=by
 cases d<;>simp[vN]at h
 subst h;rfl
instance aok:dm S BL:=jh CP rfl
theorem TD (d:D)(a:List Str)(h:P7 d=some a):d=D.str a:=by
 cases d<;>simp[P7]at h
 subst h;rfl
instance aim:dm S bF:=jh TD rfl
theorem Dk (d:D)(a:List fK)(h:yx d=some a):d=D.fK a:=by
 cases d<;>simp[yx]at h
 subst h;rfl
instance avw:dm S kz:=jh Dk rfl
theorem OE (d:D)(a:List bD)(h:Je d=some a):d=D.bD a:=by
 cases d<;>simp[Je]at h
 subst h;rfl
instance aBN:dm S iZ:=jh OE rfl
theorem Ob (d:D)(a:List af)(h:II d=some a):d=D.af a:=by
 cases d<;>simp[II]at h
 subst h;rfl
instance afa:dm S iD:=jh Ob rfl
theorem En (d:D)(a:List Pair)(h:oq d=some a):d=D.Pair a:=by
 cases d<;>simp[oq]at h
 subst h;rfl
instance afb:dm S d_:=jh En rfl
instance aJI {e:TypeId}:uN S (kX e D.Pair oq):=JS En
theorem Di (d:D)(a:List Slot)(h:jq d=some a):d=D.Slot a:=by
 cases d<;>simp[jq]at h
 subst h;rfl
instance aBO:dm S bH:=jh Di rfl
instance aJJ {e:TypeId}:uN S (kX e D.Slot jq):=JS Di
theorem Ha (d:D)(a:List Raw)(h:kT d=some a):d=D.Raw a:=by
 cases d<;>simp[kT]at h
 subst h;rfl
instance ail:dm S bG:=jh Ha rfl
instance aKe {e:TypeId}:uN S (kX e D.Raw kT):=JS Ha
theorem NE (d:D)(a:List Note)(h:Ku d=some a):d=D.Note a:=by
 cases d<;>simp[Ku]at h
 subst h;rfl
instance O7:dm S kQ:=jh NE rfl
theorem yP (d:D)(a:List aP)(h:tu d=some a):d=D.aP a:=by
 cases d<;>simp[tu]at h
 subst h;rfl
instance avQ:dm S fZ:=jh yP rfl
instance aF8 {e:TypeId}:uN S (kX e D.aP tu):=JS yP
theorem NY (d:D)(a:List mG)(h:IB d=some a):d=D.mG a:=by
 cases d<;>simp[IB]at h
 subst h;rfl
instance O8:dm S ou:=jh NY rfl
theorem DZ (d:D)(a:List fH)(h:yc d=some a):d=D.fH a:=by
 cases d<;>simp[yc]at h
 subst h;rfl
instance avu:dm S yJ:=jh DZ rfl
theorem Dq (d:D)(a:List Bool)(h:rX d=some a):d=D.bool a:=by
 cases d<;>simp[rX]at h
 subst h;rfl
instance aBP:dm S qm:=jh Dq rfl
instance aJK {e:TypeId}:uN S (kX e D.bool rX):=JS Dq
theorem Oo (d:D)(a:List Item)(h:KN d=some a):d=D.Item a:=by
 cases d<;>simp[KN]at h
 subst h;rfl
instance aBK:dm S gW:=jh Oo rfl
theorem XG (d:D)(a:List Op)(h:aah d=some a):d=D.Op a:=by
 cases d<;>simp[aah]at h
 subst h;rfl
instance aF9:dm S nz:=jh XG rfl
theorem Yx (d:D)(a:List Int)(h:aaX d=some a):d=D.u8 a:=by
 cases d<;>simp[aaX]at h
 subst h;rfl
instance aF_:dm S LM:=jh Yx rfl
theorem aaF (d:D)(a:List Frame)(h:MR d=some a):d=D.Frame a:=by
 cases d<;>simp[MR]at h
 subst h;rfl
theorem aaG (d:D)(a:List yO)(h:Me d=some a):d=D.yO a:=by
 cases d<;>simp[Me]at h
 subst h;rfl
theorem abL (d:D)(a:List Trace)(h:MC d=some a):d=D.Trace a:=by
 cases d<;>simp[MC]at h
 subst h;rfl
theorem adI (d:D)(a:List Nq)(h:S_ d=some a):d=D.Nq a:=by
 cases d<;>simp[S_]at h
 subst h;rfl
theorem Oj (d:D)(a:List vz)(h:KH d=some a):d=D.vz a:=by
 cases d<;>simp[KH]at h
 subst h;rfl
instance aBM:dm S aeU:=jh Oj rfl
theorem aeb (d:D)(a:List (List Str))(h:Rk d=some a):d=D.azB a:=by
 cases d<;>simp[Rk]at h
 subst h;rfl
theorem Q4 (d:D)(a:List Int)(h:QG d=some a):d=D.i64 a:=by
 cases d<;>simp[QG]at h
 subst h;rfl
instance aFG:dm S abk:=jh Q4 rfl
theorem ahU (d:D)(a:List Int)(h:Z4 d=some a):d=D.u32 a:=by
 cases d<;>simp[Z4]at h
 subst h;rfl
theorem JE (d:D)(a:List (List af))(h:FI d=some a):d=D.ae6 a:=by
 cases d<;>simp[FI]at h
 subst h;rfl
instance azH:dm S Yz:=jh JE rfl
theorem Jr (d:D)(a:List (List Pair))(h:EW d=some a):d=D.ae7 a:=by
 cases d<;>simp[EW]at h
 subst h;rfl
instance azI:dm S Xi:=jh Jr rfl
theorem OH (d:D)(a:List (List Raw))(h:Kq d=some a):d=D.avl a:=by
 cases d<;>simp[Kq]at h
 subst h;rfl
instance aBL:dm S acf:=jh OH rfl
instance YZ:dm S mQ:=gm inferInstance fun _=>rfl
instance VW:dm S aK:=gm inferInstance fun _=>rfl
instance V6:dm S kY:=gm inferInstance fun _=>rfl
instance V5:dm S qF:=gm inferInstance fun _=>rfl
instance V4:dm S A8:=gm inferInstance fun _=>rfl
instance Gm:dm S pz:=gm inferInstance fun _=>rfl
instance Gp:dm S pI:=gm inferInstance fun _=>rfl
instance V7:dm S PV:=gm inferInstance fun _=>rfl
instance VY:dm S lV:=gm inferInstance fun _=>rfl
instance VX:dm S jv:=gm inferInstance fun _=>rfl
instance aBI:dm S uK:=gm inferInstance fun _=>rfl
instance KQ:dm S dY:=gm inferInstance fun _=>rfl
instance zy:dm S fF:=gm inferInstance fun _=>rfl
instance ab6:dm S bn:=gm inferInstance fun _=>rfl
instance V3:dm S xW:=gm inferInstance fun _=>rfl
instance azK:dm S lu:=gm inferInstance fun _=>rfl
instance V8:dm S PS:=gm inferInstance fun _=>rfl
instance avy:dm S iU:=gm inferInstance fun _=>rfl
instance aio:dm S iq:=gm inferInstance fun _=>rfl
instance aFH:dm S dN:=gm inferInstance fun _=>rfl
instance Gn:dm S jc:=gm inferInstance fun _=>rfl
instance Xb:dm S Vy:=gm inferInstance fun _=>rfl
instance uj:dm S bC:=gm inferInstance fun _=>rfl
instance ae9:dm S adh:=gm inferInstance fun _=>rfl
instance azJ:dm S zL:=gm inferInstance fun _=>rfl
instance alF:dm S eU:=gm inferInstance fun _=>rfl
instance ae_:dm S aeI:=gm inferInstance fun _=>rfl
instance afe:dm S acZ:=gm inferInstance fun _=>rfl
instance ain:dm S ajL:=gm inferInstance fun _=>rfl
instance aip:dm S aj8:=gm inferInstance fun _=>rfl
instance nZ:dm S aQ:=gm inferInstance fun _=>rfl
instance afn:dm S fG:=gm inferInstance fun _=>rfl
instance azG:dm S dQ:=gm inferInstance fun _=>rfl
instance afm:dm S a_:=gm inferInstance fun _=>rfl
instance afl:dm S iY:=gm inferInstance fun _=>rfl
theorem aCN:avr S view oh:=by
 refine⟨fun e E h l=> ?_,fun d l=> ?_,fun d d2 a h=> ?_,fun d=> ?_⟩
 ·have:=SX h;simp only[arS,CW,WB,Yg,or_false]at this;rcases this with⟨_,rfl⟩ | ⟨_,rfl⟩ | ⟨_,rfl⟩ | ⟨_,rfl⟩ | ⟨_,rfl⟩ | ⟨_,rfl⟩ | ⟨_,rfl⟩ | ⟨_,rfl⟩ | ⟨_,rfl⟩ | ⟨_,rfl⟩ | ⟨_,rfl⟩ | ⟨_,rfl⟩ | ⟨_,rfl⟩ | ⟨_,rfl⟩ | ⟨_,rfl⟩ | ⟨_,rfl⟩ | ⟨_,rfl⟩ | ⟨_,rfl⟩ | ⟨_,rfl⟩ | ⟨_,rfl⟩ | ⟨_,rfl⟩ | ⟨_,rfl⟩ | ⟨_,rfl⟩ | ⟨_,rfl⟩ | ⟨_,rfl⟩ | ⟨_,rfl⟩ | ⟨_,rfl⟩ | ⟨_,rfl⟩ | ⟨_,rfl⟩ | ⟨_,rfl⟩ | ⟨_,rfl⟩ | ⟨_,rfl⟩<;>rfl
 ·cases d<;>rfl
 ·cases d
  ·rw[Ee d2 a h];rfl
  ·rw[ND d2 a h];rfl
  ·rw[Dy d2 a h];rfl
  ·rw[Du d2 a h];rfl
  ·rw[NQ d2 a h];rfl
  ·rw[CP d2 a h];rfl
  ·rw[TD d2 a h];rfl
  ·rw[Dk d2 a h];rfl
  ·rw[OE d2 a h];rfl
  ·rw[Ob d2 a h];rfl
  ·rw[En d2 a h];rfl
  ·rw[Di d2 a h];rfl
  ·rw[Ha d2 a h];rfl
  ·rw[NE d2 a h];rfl
  ·rw[yP d2 a h];rfl
  ·rw[NY d2 a h];rfl
  ·rw[DZ d2 a h];rfl
  ·rw[Dq d2 a h];rfl
  ·rw[Oo d2 a h];rfl
  ·rw[XG d2 a h];rfl
  ·rw[Yx d2 a h];rfl
  ·rw[aaF d2 a h];rfl
  ·rw[aaG d2 a h];rfl
  ·rw[abL d2 a h];rfl
  ·rw[adI d2 a h];rfl
  ·rw[Oj d2 a h];rfl
  ·rw[aeb d2 a h];rfl
  ·rw[Q4 d2 a h];rfl
  ·rw[ahU d2 a h];rfl
  ·rw[JE d2 a h];rfl
  ·rw[Jr d2 a h];rfl
  ·rw[OH d2 a h];rfl
  ·rw[BI d2 a h];rfl
  ·rw[BI d2 a h];rfl
  ·rw[BI d2 a h];rfl
 ·cases d
  ·exact zy
  ·exact VX
  ·exact Gp
  ·exact Gn
  ·exact V8
  ·exact V3
  ·exact aaj
  ·exact Xb
  ·exact aio
  ·exact VW
  ·exact V5
  ·exact V6
  ·exact YZ
  ·exact V4
  ·exact KQ
  ·exact V7
  ·exact Gm
  ·exact I7
  ·exact VY
  ·exact avy
  ·exact(nO _)
  ·exact ae9
  ·exact ae_
  ·exact afe
  ·exact aip
  ·exact ain
  ·exact aim
  ·exact(nO _)
  ·exact(nO _)
  ·exact afa
  ·exact afb
  ·exact ail
  ·exact IU
  ·exact IU
  ·exact IU
theorem aDj:avn S view oh S.KR S.text Au F6 where
 inj:=fun d l=>by cases d<;>rfl
 el:=fun e E h l=>by
  have:=SX h;simp only[arS,CW,WB,Yg,or_false]at this;rcases this with⟨_,rfl⟩ | ⟨_,rfl⟩ | ⟨_,rfl⟩ | ⟨_,rfl⟩ | ⟨_,rfl⟩ | ⟨_,rfl⟩ | ⟨_,rfl⟩ | ⟨_,rfl⟩ | ⟨_,rfl⟩ | ⟨_,rfl⟩ | ⟨_,rfl⟩ | ⟨_,rfl⟩ | ⟨_,rfl⟩ | ⟨_,rfl⟩ | ⟨_,rfl⟩ | ⟨_,rfl⟩ | ⟨_,rfl⟩ | ⟨_,rfl⟩ | ⟨_,rfl⟩ | ⟨_,rfl⟩ | ⟨_,rfl⟩ | ⟨_,rfl⟩ | ⟨_,rfl⟩ | ⟨_,rfl⟩ | ⟨_,rfl⟩ | ⟨_,rfl⟩ | ⟨_,rfl⟩ | ⟨_,rfl⟩ | ⟨_,rfl⟩ | ⟨_,rfl⟩ | ⟨_,rfl⟩ | ⟨_,rfl⟩<;>rfl
 txt:=fun e s d h=>by
  have h:rowOf e s=some d:=h;unfold rowOf at h;split at h
  ·injection h with h
   subst h;rfl
  ·cases h
 KR:=fun i d h=>by
  exact nomatch h
 size:=fun d m h=>by
  cases d<;>first
   | (cases h;done)
   | (have h2:=Qdp h;subst h2;exact⟨rfl,rfl,akn (asi aFY) (fun _=>rfl) _⟩)
   | (have h2:=Qdp h;subst h2;exact⟨rfl,rfl,akn (asi (aoD (aFZ (hc:=(avO .i64)) (hd:=(avO .i64))) (fun _=>rfl))) (fun _=>rfl) _⟩)
 new:=fun t d h=>by
  have:=SX h;simp only[CW,WB,Yg,or_false]at this;rcases this with⟨_,rfl⟩ | ⟨_,rfl⟩<;>exact⟨_,rfl,rfl⟩
theorem axw:iL S:=arh aCN (fun e s d h=>by
 unfold rowOf at h;split at h
 ·injection h with h
  subst h;exact⟨rfl,yI s,fun i _=>Qcw (Lf.int .u8) (aub s i)⟩
 ·cases h) aDj
def tys:List (Nat×Ty):=
 [(3,⟨23,false,1,8,[.int .i64 0],[],none,[],false,none,false,none⟩),
  (4,⟨1,false,1,1,[.bool false],[],none,[],false,none,false,none⟩),
  (5,⟨24,false,1,1,[.int .u8 0],[],none,[],false,none,false,none⟩),
  (9,⟨3,false,1,16,[.string ⟨#[]⟩],[],none,[],false,none,false,none⟩),
  (20,⟨0,false,1,16,[.nilIface],[],none,[],false,none,false,none⟩),
  (21,⟨22,false,1,4,[.int .i32 0],[],none,[],false,none,false,none⟩),
  (22,⟨4,false,1,24,[.slice none 0 0],[],some 68,[],false,none,false,none⟩),
  (23,⟨4,false,1,24,[.slice none 0 0],[],some 91,[],false,none,false,none⟩),
  (24,⟨4,false,1,24,[.slice none 0 0],[],some 73,[],false,none,false,none⟩),
  (26,⟨5,true,3,72,[.slice none 0 0, .slice none 0 0, .slice none 0 0],[(0,1,false),(1,1,false),(2,1,false)],none,[],false,none,true,none⟩),
  (27,⟨4,false,1,24,[.slice none 0 0],[],some 75,[],false,none,false,none⟩),
  (28,⟨4,false,1,24,[.slice none 0 0],[],some 43,[],false,none,false,none⟩),
  (31,⟨4,false,1,24,[.slice none 0 0],[],some 35,[],false,none,false,none⟩),
  (33,⟨23,false,1,8,[.int .i64 0],[],none,[],false,none,false,none⟩),
  (35,⟨5,true,3,24,[.int .i64 0, .int .i64 0, .int .i64 0],[(0,1,false),(1,1,false),(2,1,false)],none,[2,2,2],false,none,true,none⟩),
  (39,⟨4,false,1,24,[.slice none 0 0],[],some 9,[],false,none,false,none⟩),
  (41,⟨5,true,2,24,[.int .i64 0, .string ⟨#[]⟩],[(0,1,false),(1,1,false)],none,[2,3],false,none,true,none⟩),
  (43,⟨5,true,5,88,[.string ⟨#[]⟩, .slice none 0 0, .slice none 0 0, .int .i64 0, .string ⟨#[]⟩],[(0,1,false),(1,1,false),(2,1,false),(3,2,true)],none,[],false,none,true,none⟩),
  (44,⟨4,false,1,24,[.slice none 0 0],[],some 125,[],false,none,false,none⟩),
  (46,⟨4,false,1,24,[.slice none 0 0],[],some 95,[],false,none,false,none⟩),
  (48,⟨5,true,2,48,[.slice none 0 0, .slice none 0 0],[(0,1,false),(1,1,false)],none,[],false,none,true,none⟩),
  (54,⟨5,true,2,24,[.int .i64 0, .string ⟨#[]⟩],[(0,1,false),(1,1,false)],none,[2,3],false,none,true,none⟩),
  (55,⟨27,false,1,8,[.int .u64 0],[],none,[],false,none,false,none⟩),
  (56,⟨4,false,1,24,[.slice none 0 0],[],some 61,[],false,none,false,none⟩),
  (57,⟨4,false,1,24,[.slice none 0 0],[],some 297,[],false,none,false,none⟩),
  (58,⟨4,false,1,24,[.slice none 0 0],[],some 279,[],false,none,false,none⟩),
  (59,⟨4,false,1,24,[.slice none 0 0],[],some 286,[],false,none,false,none⟩),
  (61,⟨5,true,7,128,[.int .i64 0, .int .u64 0, .string ⟨#[]⟩, .slice none 0 0, .slice none 0 0, .slice none 0 0, .slice none 0 0],[(0,1,false),(1,1,false),(2,1,false),(3,1,false),(4,1,false),(5,1,false),(6,1,false)],none,[],false,none,true,none⟩),
  (62,⟨4,false,1,24,[.slice none 0 0],[],some 149,[],false,none,false,none⟩),
  (64,⟨5,true,16,240,[.int .i64 0, .string ⟨#[]⟩, .int .i64 0, .int .i64 0, .int .i64 0, .string ⟨#[]⟩, .string ⟨#[]⟩, .bool false, .int .i64 0, .int .u64 0, .string ⟨#[]⟩, .slice none 0 0, .slice none 0 0, .slice none 0 0, .slice none 0 0, .slice none 0 0],[(0,1,false),(1,1,false),(2,1,false),(3,1,false),(4,2,true),(6,1,false),(7,1,false),(8,7,true),(15,1,false)],none,[],false,none,true,none⟩),
  (65,⟨4,false,1,24,[.slice none 0 0],[],some 64,[],false,none,false,none⟩),
  (66,⟨4,false,1,24,[.slice none 0 0],[],some 145,[],false,none,false,none⟩),
  (68,⟨5,true,5,112,[.string ⟨#[]⟩, .slice none 0 0, .slice none 0 0, .slice none 0 0, .slice none 0 0],[(0,1,false),(1,1,false),(2,1,false),(3,1,false),(4,1,false)],none,[],false,none,true,none⟩),
  (70,⟨5,true,5,80,[.string ⟨#[]⟩, .string ⟨#[]⟩, .string ⟨#[]⟩, .int .i64 0, .slice none 0 0],[(0,1,false),(1,1,false),(2,1,false),(3,1,false),(4,1,false)],none,[],false,none,true,none⟩),
  (71,⟨4,false,1,24,[.slice none 0 0],[],some 70,[],false,none,false,none⟩),
  (73,⟨5,true,3,64,[.string ⟨#[]⟩, .slice none 0 0, .slice none 0 0],[(0,1,false),(1,1,false),(2,1,false)],none,[],false,none,true,none⟩),
  (75,⟨5,true,4,40,[.string ⟨#[]⟩, .int .i64 0, .int .i64 0, .int .i64 0],[(0,1,false),(1,1,false),(2,1,false),(3,1,false)],none,[3,2,2,2],false,none,true,none⟩),
  (81,⟨5,true,2,40,[.string ⟨#[]⟩, .slice none 0 0],[(0,1,false),(1,1,false)],none,[],false,none,true,none⟩),
  (85,⟨4,false,1,24,[.slice none 0 0],[],some 4,[],false,none,false,none⟩),
  (89,⟨4,false,1,24,[.slice none 0 0],[],some 136,[],false,none,false,none⟩),
  (91,⟨5,true,5,96,[.string ⟨#[]⟩, .bool false, .slice none 0 0, .slice none 0 0, .slice none 0 0],[(0,1,false),(1,1,false),(2,1,false),(3,1,false),(4,1,false)],none,[],false,none,true,none⟩),
  (93,⟨4,false,1,24,[.slice none 0 0],[],some 141,[],false,none,false,none⟩),
  (95,⟨5,true,3,48,[.string ⟨#[]⟩, .slice none 0 0, .int .i64 0],[(0,1,false),(1,1,false),(2,1,false)],none,[],false,none,true,none⟩),
  (109,⟨6,false,1,8,[.pointer none],[],none,[],false,none,false,some (112,112)⟩),
  (110,⟨4,false,1,24,[.slice none 0 0],[],some 5,[],true,none,false,none⟩),
  (112,⟨5,true,2,32,[.pointer none, .slice none 0 0],[(0,1,false),(1,1,false)],none,[],true,none,true,none⟩),
  (113,⟨4,false,1,24,[.slice none 0 0],[],some 116,[],false,none,false,none⟩),
  (116,⟨5,true,4,40,[.int .i64 0, .int .i64 0, .int .i64 0, .string ⟨#[]⟩],[(0,1,false),(1,1,false),(2,1,false),(3,1,false)],none,[2,2,2,3],false,none,true,none⟩),
  (119,⟨0,false,1,16,[.nilIface],[],none,[],false,none,false,none⟩),
  (123,⟨6,false,1,8,[.pointer none],[],none,[],false,none,false,some (81,81)⟩),
  (125,⟨5,true,3,32,[.string ⟨#[]⟩, .int .i64 0, .int .i64 0],[(0,1,false),(1,1,false),(2,1,false)],none,[3,2,2],false,none,true,none⟩),
  (128,⟨7,false,1,8,[.nilFunc],[],none,[],false,none,false,none⟩),
  (130,⟨7,false,1,8,[.nilFunc],[],none,[],false,none,false,none⟩),
  (136,⟨5,true,3,48,[.string ⟨#[]⟩, .int .i64 0, .slice none 0 0],[(0,1,false),(1,1,false),(2,1,false)],none,[],false,none,true,none⟩),
  (141,⟨5,true,8,80,[.int .i64 0, .string ⟨#[]⟩, .string ⟨#[]⟩, .int .i64 0, .int .i64 0, .int .i64 0, .int .i64 0, .int .i64 0],[(0,1,false),(1,1,false),(2,1,false),(3,1,false),(4,1,false),(5,1,false),(6,1,false),(7,1,false)],none,[2,3,3,2,2,2,2,2],false,none,true,none⟩),
  (145,⟨5,true,2,16,[.int .i64 0, .int .i64 0],[(0,1,false),(1,1,false)],none,[2,2],false,none,true,none⟩),
  (149,⟨5,true,8,144,[.string ⟨#[]⟩, .int .i64 0, .int .u64 0, .string ⟨#[]⟩, .slice none 0 0, .slice none 0 0, .slice none 0 0, .slice none 0 0],[(0,1,false),(1,7,true)],none,[],false,none,true,none⟩),
  (157,⟨5,true,4,32,[.int .i64 0, .int .i64 0, .int .i64 0, .int .i64 0],[(0,1,false),(1,1,false),(2,1,false),(3,1,false)],none,[2,2,2,2],false,none,true,none⟩),
  (162,⟨5,true,14,224,[.slice none 0 0, .slice none 0 0, .slice none 0 0, .string ⟨#[]⟩, .int .i64 0, .int .i64 0, .int .i64 0, .string ⟨#[]⟩, .string ⟨#[]⟩, .string ⟨#[]⟩, .int .i64 0, .slice none 0 0, .slice none 0 0, .bool false],[(0,3,true),(3,4,true),(7,5,true),(12,1,false),(13,1,false)],none,[],false,none,true,none⟩),
  (163,⟨7,false,1,8,[.nilFunc],[],none,[],false,none,false,none⟩),
  (168,⟨7,false,1,8,[.nilFunc],[],none,[],false,none,false,none⟩),
  (169,⟨4,false,1,24,[.slice none 0 0],[],some 307,[],false,none,false,none⟩),
  (170,⟨4,false,1,24,[.slice none 0 0],[],some 520,[],true,none,false,none⟩),
  (171,⟨4,false,1,24,[.slice none 0 0],[],some 522,[],false,none,false,none⟩),
  (173,⟨5,true,10,200,[.string ⟨#[]⟩, .slice none 0 0, .slice none 0 0, .slice none 0 0, .slice none 0 0, .slice none 0 0, .slice none 0 0, .slice none 0 0, .int .i64 0, .bool false],[(0,1,false),(1,3,true),(4,1,false),(5,1,false),(6,1,false),(7,1,false),(8,1,false),(9,1,false)],none,[],false,none,true,none⟩),
  (181,⟨4,false,1,24,[.slice none 0 0],[],some 234,[],true,none,false,none⟩),
  (183,⟨5,true,4,64,[.string ⟨#[]⟩, .string ⟨#[]⟩, .int .i64 0, .slice none 0 0],[(0,1,false),(1,1,false),(2,1,false),(3,1,false)],none,[],false,none,true,none⟩),
  (187,⟨6,false,1,8,[.pointer none],[],none,[],false,none,false,some (5,5)⟩),
  (194,⟨6,false,1,8,[.pointer none],[],none,[],false,none,false,some (196,196)⟩),
  (196,⟨5,true,3,48,[.string ⟨#[]⟩, .int .i64 0, .slice none 0 0],[(0,1,false),(1,1,false),(2,1,false)],none,[],false,none,true,none⟩),
  (197,⟨0,true,3,72,[.slice none 0 0, .slice none 0 0, .slice none 0 0],[],none,[],true,some (39,3),true,none⟩),
  (201,⟨0,false,1,8,[.map none],[],none,[],false,none,false,some (9,4)⟩),
  (205,⟨7,false,1,8,[.nilFunc],[],none,[],false,none,false,none⟩),
  (207,⟨7,false,1,8,[.nilFunc],[],none,[],false,none,false,none⟩),
  (214,⟨7,false,1,8,[.nilFunc],[],none,[],false,none,false,none⟩),
  (225,⟨5,true,2,48,[.slice none 0 0, .slice none 0 0],[(0,2,true)],none,[],false,none,true,none⟩),
  (227,⟨7,false,1,8,[.nilFunc],[],none,[],false,none,false,none⟩),
  (234,⟨5,true,2,32,[.string ⟨#[]⟩, .string ⟨#[]⟩],[(0,1,false),(1,1,false)],none,[3,3],false,none,true,none⟩),
  (246,⟨7,false,1,8,[.nilFunc],[],none,[],false,none,false,none⟩),
  (256,⟨7,false,1,8,[.nilFunc],[],none,[],false,none,false,none⟩),
  (261,⟨7,false,1,8,[.nilFunc],[],none,[],false,none,false,none⟩),
  (263,⟨5,true,6,56,[.string ⟨#[]⟩, .int .i64 0, .int .i64 0, .int .i64 0, .int .i64 0, .int .i64 0],[(0,1,false),(1,1,false),(2,1,false),(3,1,false),(4,1,false),(5,1,false)],none,[3,2,2,2,2,2],false,none,true,none⟩),
  (266,⟨6,false,1,8,[.pointer none],[],none,[],false,none,false,some (268,268)⟩),
  (268,⟨5,true,8,104,[.slice none 0 0, .slice none 0 0, .string ⟨#[]⟩, .int .i64 0, .int .i64 0, .int .i64 0, .int .i64 0, .int .i64 0],[(0,2,true),(2,6,true)],none,[],false,none,true,none⟩),
  (273,⟨7,false,1,8,[.nilFunc],[],none,[],false,none,false,none⟩),
  (279,⟨5,true,8,136,[.int .i64 0, .int .i64 0, .int .u64 0, .string ⟨#[]⟩, .slice none 0 0, .slice none 0 0, .slice none 0 0, .slice none 0 0],[(0,1,false),(1,7,true)],none,[],false,none,true,none⟩),
  (282,⟨5,true,2,48,[.slice none 0 0, .slice none 0 0],[(0,2,true)],none,[],false,none,true,none⟩),
  (286,⟨5,true,4,40,[.int .i64 0, .int .i64 0, .int .u64 0, .string ⟨#[]⟩],[(0,1,false),(1,1,false),(2,1,false),(3,1,false)],none,[2,2,2,3],false,none,true,none⟩),
  (291,⟨5,true,7,128,[.int .i64 0, .int .u64 0, .string ⟨#[]⟩, .slice none 0 0, .slice none 0 0, .slice none 0 0, .slice none 0 0],[(0,1,false),(1,1,false),(2,1,false),(3,1,false),(4,1,false),(5,1,false),(6,1,false)],none,[],false,none,true,none⟩),
  (292,⟨4,false,1,24,[.slice none 0 0],[],some 61,[],false,none,false,none⟩),
  (294,⟨4,false,1,24,[.slice none 0 0],[],some 297,[],false,none,false,none⟩),
  (297,⟨5,true,14,256,[.int .i64 0, .int .u64 0, .string ⟨#[]⟩, .slice none 0 0, .slice none 0 0, .slice none 0 0, .slice none 0 0, .int .i64 0, .int .u64 0, .string ⟨#[]⟩, .slice none 0 0, .slice none 0 0, .slice none 0 0, .slice none 0 0],[(0,7,true),(7,7,true)],none,[],false,none,true,none⟩),
  (298,⟨7,false,1,8,[.nilFunc],[],none,[],false,none,false,none⟩),
  (300,⟨5,true,2,48,[.slice none 0 0, .slice none 0 0],[(0,1,false),(1,1,false)],none,[],false,none,true,none⟩),
  (303,⟨7,false,1,8,[.nilFunc],[],none,[],false,none,false,none⟩),
  (305,⟨7,false,1,8,[.nilFunc],[],none,[],false,none,false,none⟩),
  (307,⟨5,true,5,56,[.int .i64 0, .string ⟨#[]⟩, .string ⟨#[]⟩, .int .i64 0, .int .i64 0],[(0,1,false),(1,1,false),(2,1,false),(3,1,false),(4,1,false)],none,[2,3,3,2,2],false,none,true,none⟩),
  (310,⟨27,false,1,8,[.int .u64 0],[],none,[],false,none,false,none⟩),
  (311,⟨6,false,1,8,[.pointer none],[],none,[],false,none,false,some (313,313)⟩),
  (313,⟨5,true,2,24,[.string ⟨#[]⟩, .int .i64 0],[(0,1,false),(1,1,false)],none,[3,2],false,none,true,none⟩),
  (323,⟨7,false,1,8,[.nilFunc],[],none,[],false,none,false,none⟩),
  (326,⟨7,false,1,8,[.nilFunc],[],none,[],false,none,false,none⟩),
  (328,⟨7,false,1,8,[.nilFunc],[],none,[],false,none,false,none⟩),
  (352,⟨7,false,1,8,[.nilFunc],[],none,[],false,none,false,none⟩),
  (354,⟨7,false,1,8,[.nilFunc],[],none,[],false,none,false,none⟩),
  (360,⟨4,false,1,24,[.slice none 0 0],[],some 3,[],true,none,false,none⟩),
  (363,⟨5,true,2,32,[.string ⟨#[]⟩, .string ⟨#[]⟩],[(0,1,false),(1,1,false)],none,[3,3],false,none,true,none⟩),
  (364,⟨5,true,2,32,[.string ⟨#[]⟩, .string ⟨#[]⟩],[(0,1,false),(1,1,false)],none,[3,3],false,none,true,none⟩),
  (367,⟨5,true,1,8,[.int .i64 0],[(0,1,false)],none,[2],false,none,true,none⟩),
  (370,⟨5,true,2,16,[.int .i64 0, .int .i64 0],[(0,1,false),(1,1,false)],none,[2,2],false,none,true,none⟩),
  (372,⟨5,true,1,8,[.int .i64 0],[(0,1,false)],none,[2],false,none,true,none⟩),
  (374,⟨5,true,0,0,[],[],none,[],false,none,true,none⟩),
  (376,⟨26,false,1,4,[.int .u32 0],[],none,[],false,none,false,none⟩),
  (392,⟨7,false,1,8,[.nilFunc],[],none,[],false,none,false,none⟩),
  (395,⟨6,false,1,8,[.pointer none],[],none,[],false,none,false,some (286,286)⟩),
  (398,⟨5,true,1,8,[.nilFunc],[(0,1,false)],none,[],false,none,true,none⟩),
  (411,⟨7,false,1,8,[.nilFunc],[],none,[],false,none,false,none⟩),
  (413,⟨7,false,1,8,[.nilFunc],[],none,[],false,none,false,none⟩),
  (415,⟨7,false,1,8,[.nilFunc],[],none,[],false,none,false,none⟩),
  (417,⟨7,false,1,8,[.nilFunc],[],none,[],false,none,false,none⟩),
  (419,⟨7,false,1,8,[.nilFunc],[],none,[],false,none,false,none⟩),
  (430,⟨0,true,16,64,[.int .u32 0, .int .u32 0, .int .u32 0, .int .u32 0, .int .u32 0, .int .u32 0, .int .u32 0, .int .u32 0, .int .u32 0, .int .u32 0, .int .u32 0, .int .u32 0, .int .u32 0, .int .u32 0, .int .u32 0, .int .u32 0],[],none,[2,2,2,2,2,2,2,2,2,2,2,2,2,2,2,2],false,some (376,16),true,none⟩),
  (434,⟨5,true,2,16,[.int .i64 0, .int .i64 0],[(0,1,false),(1,1,false)],none,[2,2],false,none,true,none⟩),
  (436,⟨0,false,1,8,[.map none],[],none,[],false,none,false,some (9,434)⟩),
  (472,⟨0,true,256,256,(List.replicate 256 (.bool false)),[],none,(List.replicate 256 1),false,some (4,256),true,none⟩),
  (476,⟨6,false,1,8,[.pointer none],[],none,[],false,none,false,some (472,472)⟩),
  (489,⟨4,false,1,24,[.slice none 0 0],[],some 56,[],false,none,false,none⟩),
  (491,⟨4,false,1,24,[.slice none 0 0],[],some 57,[],false,none,false,none⟩),
  (493,⟨4,false,1,24,[.slice none 0 0],[],some 59,[],false,none,false,none⟩),
  (497,⟨7,false,1,8,[.nilFunc],[],none,[],false,none,false,none⟩),
  (520,⟨5,true,2,40,[.string ⟨#[]⟩, .slice none 0 0],[(0,1,false),(1,1,false)],none,[],false,none,true,none⟩),
  (522,⟨5,true,11,152,[.int .i64 0, .int .i64 0, .string ⟨#[]⟩, .slice none 0 0, .int .i64 0, .slice none 0 0, .int .i64 0, .slice none 0 0, .int .i64 0, .string ⟨#[]⟩, .bool false],[(0,1,false),(1,1,false),(2,1,false),(3,1,false),(4,1,false),(5,1,false),(6,1,false),(7,1,false),(8,2,true),(10,1,false)],none,[],false,none,true,none⟩)]
def T:TypeId->Option Ty:=lk tys
theorem ax0:∀t a,T t=some a->fB Tryz.prog t a:=by
 intro t a h;have:=SX h;simp only[tys,CW,WB,Yg,or_false]at this;rcases this with⟨rfl,rfl⟩ | ⟨rfl,rfl⟩ | ⟨rfl,rfl⟩ | ⟨rfl,rfl⟩ | ⟨rfl,rfl⟩ | ⟨rfl,rfl⟩ | ⟨rfl,rfl⟩ | ⟨rfl,rfl⟩ | ⟨rfl,rfl⟩ | ⟨rfl,rfl⟩ | ⟨rfl,rfl⟩ | ⟨rfl,rfl⟩ | ⟨rfl,rfl⟩ | ⟨rfl,rfl⟩ | ⟨rfl,rfl⟩ | ⟨rfl,rfl⟩ | ⟨rfl,rfl⟩ | ⟨rfl,rfl⟩ | ⟨rfl,rfl⟩ | ⟨rfl,rfl⟩ | ⟨rfl,rfl⟩ | ⟨rfl,rfl⟩ | ⟨rfl,rfl⟩ | ⟨rfl,rfl⟩ | ⟨rfl,rfl⟩ | ⟨rfl,rfl⟩ | ⟨rfl,rfl⟩ | ⟨rfl,rfl⟩ | ⟨rfl,rfl⟩ | ⟨rfl,rfl⟩ | ⟨rfl,rfl⟩ | ⟨rfl,rfl⟩ | ⟨rfl,rfl⟩ | ⟨rfl,rfl⟩ | ⟨rfl,rfl⟩ | ⟨rfl,rfl⟩ | ⟨rfl,rfl⟩ | ⟨rfl,rfl⟩ | ⟨rfl,rfl⟩ | ⟨rfl,rfl⟩ | ⟨rfl,rfl⟩ | ⟨rfl,rfl⟩ | ⟨rfl,rfl⟩ | ⟨rfl,rfl⟩ | ⟨rfl,rfl⟩ | ⟨rfl,rfl⟩ | ⟨rfl,rfl⟩ | ⟨rfl,rfl⟩ | ⟨rfl,rfl⟩ | ⟨rfl,rfl⟩ | ⟨rfl,rfl⟩ | ⟨rfl,rfl⟩ | ⟨rfl,rfl⟩ | ⟨rfl,rfl⟩ | ⟨rfl,rfl⟩ | ⟨rfl,rfl⟩ | ⟨rfl,rfl⟩ | ⟨rfl,rfl⟩ | ⟨rfl,rfl⟩ | ⟨rfl,rfl⟩ | ⟨rfl,rfl⟩ | ⟨rfl,rfl⟩ | ⟨rfl,rfl⟩ | ⟨rfl,rfl⟩ | ⟨rfl,rfl⟩ | ⟨rfl,rfl⟩ | ⟨rfl,rfl⟩ | ⟨rfl,rfl⟩ | ⟨rfl,rfl⟩ | ⟨rfl,rfl⟩ | ⟨rfl,rfl⟩ | ⟨rfl,rfl⟩ | ⟨rfl,rfl⟩ | ⟨rfl,rfl⟩ | ⟨rfl,rfl⟩ | ⟨rfl,rfl⟩ | ⟨rfl,rfl⟩ | ⟨rfl,rfl⟩ | ⟨rfl,rfl⟩ | ⟨rfl,rfl⟩ | ⟨rfl,rfl⟩ | ⟨rfl,rfl⟩ | ⟨rfl,rfl⟩ | ⟨rfl,rfl⟩ | ⟨rfl,rfl⟩ | ⟨rfl,rfl⟩ | ⟨rfl,rfl⟩ | ⟨rfl,rfl⟩ | ⟨rfl,rfl⟩ | ⟨rfl,rfl⟩ | ⟨rfl,rfl⟩ | ⟨rfl,rfl⟩ | ⟨rfl,rfl⟩ | ⟨rfl,rfl⟩ | ⟨rfl,rfl⟩ | ⟨rfl,rfl⟩ | ⟨rfl,rfl⟩ | ⟨rfl,rfl⟩ | ⟨rfl,rfl⟩ | ⟨rfl,rfl⟩ | ⟨rfl,rfl⟩ | ⟨rfl,rfl⟩ | ⟨rfl,rfl⟩ | ⟨rfl,rfl⟩ | ⟨rfl,rfl⟩ | ⟨rfl,rfl⟩ | ⟨rfl,rfl⟩ | ⟨rfl,rfl⟩ | ⟨rfl,rfl⟩ | ⟨rfl,rfl⟩ | ⟨rfl,rfl⟩ | ⟨rfl,rfl⟩ | ⟨rfl,rfl⟩ | ⟨rfl,rfl⟩ | ⟨rfl,rfl⟩ | ⟨rfl,rfl⟩ | ⟨rfl,rfl⟩ | ⟨rfl,rfl⟩ | ⟨rfl,rfl⟩ | ⟨rfl,rfl⟩ | ⟨rfl,rfl⟩ | ⟨rfl,rfl⟩ | ⟨rfl,rfl⟩ | ⟨rfl,rfl⟩ | ⟨rfl,rfl⟩ | ⟨rfl,rfl⟩ | ⟨rfl,rfl⟩ | ⟨rfl,rfl⟩ | ⟨rfl,rfl⟩ | ⟨rfl,rfl⟩ | ⟨rfl,rfl⟩ | ⟨rfl,rfl⟩<;>(clear h;show _=_;kernel_rfl)
theorem mixed:Tryz.prog.follows .mixedOrders=true:=by kernel_rfl
@[reducible] noncomputable def Z:Seat D:=⟨Tryz.prog,S,T,mixed,ax0,axw⟩
def bare (x:yO)(c:Bool)(b:Bool)(a:Bool):Pg Bool:=.br c (.br b (.br a (.ret true) (.ret (x.mG==0))) (.br (x.Num==0) (.br a (.ret true) (.ret (x.mG==0))) (.ret false))) (.br (x.Key==[]) (.br (x.Val==[]) (.br b (.br a (.ret true) (.ret (x.mG==0))) (.br (x.Num==0) (.br a (.ret true) (.ret (x.mG==0))) (.ret false))) (.ret false)) (.ret false))
theorem al2:dJ Tryz.prog (Qr Tryz.prog fun _=>none) 55 (pM 2 16 145):=uf eF func55 ntmps55 au eF eF (fun r a=>by kernel_rfl)
theorem aAc:∃j,Tryz.prog.info? 112=some j/\j.size=2:=Qca.1 (show(Tryz.prog.info? 112).map (·.size)=some 2 by kernel_rfl)
theorem aIu:liesAt Tryz.prog Tryz.prog.depth 112 (2 / Tryz.prog.cellsOf 112) 0 112 1=true:=by kernel_rfl
set_option maxHeartbeats 1000000 in
set_option maxRecDepth 100000 in
theorem T_ (b:Nat)(w:World)(d:w.cell? ⟨b,0,none⟩=some (.pointer (some ⟨b,0,none⟩))):
  Calls Tryz.prog 78 #[.pointer (some ⟨b,0,none⟩)] w fun e a=>e= .returned (.tuple #[])/\a=w:=by
 obtain⟨j,c,_⟩:=aAc
 go_enter func78,ntmps78
 go_wp2
 rw[Lib.run_neq_ptr_same w _ underlying109 c]
 go_wp2
 go_end0
 exact⟨rfl,rfl⟩
set_option maxHeartbeats 1000000 in
set_option maxRecDepth 100000 in
theorem Pz (b:Nat)(w:World)(h:w.cell? ⟨b,0,none⟩=some (.pointer none))(a:w.shape? b=some (112,2))(g:w.frozen? ⟨b,0,none⟩=false):
  Calls Tryz.prog 78 #[.pointer (some ⟨b,0,none⟩)] w fun e f=>e= .returned (.tuple #[])/\f=w.setCell ⟨b,0,none⟩ (.pointer (some ⟨b,0,none⟩)):=by
 obtain⟨j,d,c⟩:=aAc
 go_enter func78,ntmps78
 go_wp2
 rw[Lib.run_to_unsafe w ⟨b,0,none⟩ underlying109 underlying240 d (by rw[c];decide) a (Nat.zero_lt_succ 1)];simp only[Result.andThen];rw[Oper.upon_value]
 go_wp2
 rw[run_callFunc_extern func134 eF eF eF (e:=Extern.AbiNoEscape.same) eF];rw[Lib.run_noEscape];simp only[Result.andThen];rw[Oper.upon_value]
 go_wp2
 rw[Lib.run_from_unsafe w ⟨b,0,none⟩ underlying240 underlying109 d a aIu];simp only[Result.andThen];rw[Oper.upon_value]
 go_wp2
 go_end0
 exact⟨rfl,rfl⟩
theorem akF {D:Type}{S:Sh D}:dJ Tryz.prog S 78 (IQ 112):=agU (enters_of func78 eF eF) T_ Pz
set_option maxHeartbeats 1000000 in
set_option maxRecDepth 100000 in
theorem Vq (s:ByteArray)(c:Int)(w:World):
  Calls Tryz.prog 220 #[.string s, .int .u8 c] w fun e a=>e= .returned (.int .i64 (Lib.indexByte s.data.toList c.toNat.toUInt8))/\a=w:=by
 go_enter func220,ntmps220
 go_wp2
 rw[run_callFunc_extern func287 eF eF eF (e:=Extern.BytealgIndexByte.indexByte) eF,Lib.run_indexByteString];simp only[Result.andThen];rw[Oper.upon_value]
 go_wp2
 go_ret
 exact⟨rfl,rfl⟩
theorem N7 {D:Type}{S:Sh D}:dJ Tryz.prog S 220 (yR ww):=U9 (enters_of func220 eF eF) Vq
set_option maxHeartbeats 1000000 in
set_option maxRecDepth 100000 in
theorem count_walk (s:ByteArray)(c:UInt8)(w:World):
  Calls Tryz.prog 225 #[.string s, .string ⟨#[c]⟩] w fun e a=>e= .returned (.int .i64 (Lib.countByte s.data.toList c))/\a=w:=by
 go_enter func225,ntmps225
 go_wp2
 rw[run_callFunc_extern func291 eF eF eF (e:=Extern.BytealgCount.count) eF,Lib.run_countString];simp only[Result.andThen];rw[Oper.upon_value]
 go_wp2
 go_ret
 exact⟨rfl,rfl⟩
theorem ak5 {D:Type}{S:Sh D}:dJ Tryz.prog S 225 (yR Ry):=ahr (enters_of func225 eF eF) count_walk
theorem afv:dJ Tryz.prog (Qr Tryz.prog fun _=>none) 233 (pM 4 40 286):=uf eF func233 ntmps233 au eF eF (fun r a=>by kernel_rfl)
theorem ahu:dJ Tryz.prog (Qr Tryz.prog fun _=>none) 301 (pM 8 136 279):=uf eF func301 ntmps301 au eF eF (fun r a=>by kernel_rfl)
theorem agr:dJ Tryz.prog (Qr Tryz.prog fun _=>none) 362 (pM 7 128 61):=uf eF func362 ntmps362 au eF eF (fun r a=>by kernel_rfl)
theorem agd:dJ Tryz.prog (Qr Tryz.prog fun _=>none) 396 (pM 14 256 297):=uf eF func396 ntmps396 au eF eF (fun r a=>by kernel_rfl)
theorem afp:dJ Tryz.prog (Qr Tryz.prog fun _=>none) 441 (pM 16 240 64):=uf eF func441 ntmps441 au eF eF (fun r a=>by kernel_rfl)
def acB:aY Z:=⟨78,IQ 112,akF⟩
def NJ:aY Z:=⟨220,yR ww,N7⟩
def awE:aY Z:=⟨225,yR Ry,ak5⟩
def Gi:aY Z:=aIt Z [acB] 35 func35 eF
def YS:aY Z:=aIt Z [] 36 func36 eF
def apm:List (Nat×Ct U):=[(55,pM 2 16 145),(78,IQ 112),(220,yR ww),(225,yR Ry),(233,pM 4 40 286),(301,pM 8 136 279),(362,pM 7 128 61),(396,pM 14 256 297),(441,pM 16 240 64)]
theorem Va:Tryz.prog.follows .mixedOrders=true:=by kernel_rfl
theorem aEG:∀p∈apm,dJ Tryz.prog (Qr Tryz.prog fun _=>none) p.1 p.2:=Qbt.2 ⟨al2,Qbt.2 ⟨akF,Qbt.2 ⟨N7,Qbt.2 ⟨ak5,Qbt.2 ⟨afv,Qbt.2 ⟨ahu,Qbt.2 ⟨agr,Qbt.2 ⟨agd,Qbt.2 ⟨afp,fun _ h=>nomatch h⟩⟩⟩⟩⟩⟩⟩⟩⟩
def aIA:U:= .mk 5 [[.str [71,101,116], .str [77], .str [77], .int .i64 1, .dat (.mk 8 [])]]
def aGZ:U:= .mk 8 [[.int .i64 1, .str [120], .str [], .int .i64 3, .int .i64 0, .int .i64 4, .int .i64 (-1), .int .i64 (-1)]]
def aAa:U:= .mk 8 [[.int .i64 1, .int .i64 4, .int .u64 5, .str [], .dat (.mk 7 []), .dat (.mk 14 []), .dat (.mk 8 []), .dat (.mk 4 [])]]
def aoM:U:= .mk 3 [[.str [83], .dat aIA, .dat (.mk 8 [])]]
def asO:U:= .mk 3 [[.str [77], .dat aGZ, .int .i64 0]]
def aG4:U:= .mk 16 [[.int .i64 1, .str [120], .int .i64 3, .int .i64 0, .int .i64 4, .str [], .str [], .bool false, .int .i64 0, .int .u64 0, .str [], .dat (.mk 7 []), .dat (.mk 14 []), .dat (.mk 8 []), .dat (.mk 4 []), .dat (.mk 8 [])]]
def aoW:U:= .mk 5 [[.str [77], .dat aG4, .dat (.mk 2 []), .dat (.mk 1 []), .dat (.mk 8 [])]]
def az9:List (Sl U):=[.one (.agg [.dat aoW, .val (.slice none 0 0), .dat aoM])]
def aAK:List (Bk U):=[]
def aA8:Res:=(.one (.lf (.val (.slice none 0 0))),[],[])
theorem aJ2:qJ (goU Tryz.prog apm 60 50) az9 aAK aA8=true:=by kernel_rfl
def aq5:List (Nat×Ct U):=(50,abp az9 aAK aA8)::apm
theorem aCf:∀p∈aq5,dJ Tryz.prog (Qr Tryz.prog fun _=>none) p.1 p.2:=EX Va Ba aEG aJ2
def aBB:List (Sl U):=[.one (.agg [.dat asO, .val (.slice none 0 0)]), .one (.lf (.str [77])), .one (.agg [.int .i64 10, .int .u64 0, .str [], .val (.slice none 0 0), .val (.slice none 0 0), .val (.slice none 0 0), .val (.slice none 0 0)]), .one (.lf (.str [8,5])), .one (.agg [.int .i64 65536, .int .i64 16, .int .i64 4096, .int .i64 4096])]
def aAI:List (Bk U):=[]
def aBb:Res:=(.sO [.agg [.int .i64 10, .int .u64 0, .str [], .val (.slice none 0 0), .val (.slice none 0 0), .own 0, .val (.slice none 0 0)], .lf (.int .i64 0)],[(0, .row 279 aAa)],[])
theorem aJW:qJ (goU Tryz.prog aq5 60 108) aBB aAI aBb=true:=by kernel_rfl
def ave:List (Nat×Ct U):=(108,abp aBB aAI aBb)::aq5
theorem aEu:∀p∈ave,dJ Tryz.prog (Qr Tryz.prog fun _=>none) p.1 p.2:=EX Va Ba aCf aJW
def aAJ:List (Sl U):=[.one (.agg [.dat asO, .val (.slice none 0 0)])]
def aBx:List (Bk U):=[]
def aBr:Res:=(.one (.lf (.int .i64 0)),[],[])
theorem aJT:qJ (goU Tryz.prog ave 60 176) aAJ aBx aBr=true:=by kernel_rfl
def arJ:List (Nat×Ct U):=(176,abp aAJ aBx aBr)::ave
theorem aDP:∀p∈arJ,dJ Tryz.prog (Qr Tryz.prog fun _=>none) p.1 p.2:=EX Va Ba aEu aJT
def az0:List (Sl U):=[.one (.agg [.dat asO, .val (.slice none 0 0)]), .one (.lf (.str [77])), .one (.agg [.int .i64 10, .int .u64 0, .str [], .dat (.mk 7 []), .dat (.mk 14 []), .dat aAa, .dat (.mk 4 [])])]
def aA1:List (Bk U):=[]
def aAn:Res:=(.sO [.lf (.str [8,5]), .lf (.int .i64 0)],[],[])
theorem aJ8:qJ (goU Tryz.prog arJ 60 66) az0 aA1 aAn=true:=by kernel_rfl
def aqK:List (Nat×Ct U):=(66,abp az0 aA1 aAn)::arJ
theorem aFk:∀p∈aqK,dJ Tryz.prog (Qr Tryz.prog fun _=>none) p.1 p.2:=EX Va Ba aDP aJ8
def aBv:List (Sl U):=[.one (.agg [.dat aoW, .val (.slice none 0 0), .dat aoM]), .one (.agg [.str [83,47,71,101,116], .int .i64 1, .int .i64 0, .int .i64 0]), .one (.lf (.dat (.mk 1 [[.str [8,5]]])))]
def aBf:List (Bk U):=[]
def aBA:Res:=(.sO [.lf (.own 0), .agg [.int .i64 0, .str []]],[(0, .row 9 (.mk 1 [[.str [8,5]]]))],[])
theorem aJ5:qJ (goU Tryz.prog aqK 60 29) aBv aBf aBA=true:=by kernel_rfl
def aq_:List (Nat×Ct U):=(29,abp aBv aBf aBA)::aqK
theorem aCZ:∀p∈aq_,dJ Tryz.prog (Qr Tryz.prog fun _=>none) p.1 p.2:=EX Va Ba aFk aJ5
def aAs:List (Sl U):=[.one (.agg [.dat aoW, .val (.slice none 0 0), .dat aoM]), .one (.agg [.str [83,47,71,101,116], .dat (.mk 1 [[.str [8,5]]]), .dat (.mk 1 [[.str [8,5]]]), .int .i64 0, .str []])]
def aAU:List (Bk U):=[]
def aAS:Res:=(.one (.lf (.int .i64 0)),[],[])
theorem aJM:qJ (goU Tryz.prog aq_ 60 32) aAs aAU aAS=true:=by kernel_rfl
def aAd:List (Nat×Ct U):=(32,abp aAs aAU aAS)::aq_
theorem aDa:∀p∈aAd,dJ Tryz.prog (Qr Tryz.prog fun _=>none) p.1 p.2:=EX Va Ba aCZ aJM
theorem auP:qJ (goU Tryz.prog aAd 60 8) [] [] (.one (.lf (.bool true)),[],[])=true:=by kernel_rfl
def azq:aY Z:=⟨8,ctB D true,aEY rfl (ai1 Va Ba aDa (Gh auP)) (SQ auP) rfl⟩
def byteAt (s:Str)(p:Nat):Nat:=(s.getD p 0).toNat
def MZ (s:Str)(p:Nat):Bool:=decide (p < s.length)
def lC (s:Str)(p:Nat):Bool:=MZ s p && (decide (128<=byteAt s p) && decide (byteAt s p<=191))
def szN (a b1:Nat)(c e b d:Bool):Int:=
 if a < 128 then 1 else if 194<=a/\a<=223/\e=true then 2 else if a=224/\c=true/\160<=b1/\b1<=191/\b=true then 3
 else if a=237/\c=true/\128<=b1/\b1<=159/\b=true then 3 else if 225<=a/\a<=239/\a≠237/\e=true/\b=true then 3
 else if a=240/\c=true/\144<=b1/\b1<=191/\b=true/\d=true then 4 else if 241<=a/\a<=243/\e=true/\b=true/\d=true then 4
 else if a=244/\c=true/\128<=b1/\b1<=143/\b=true/\d=true then 4 else 0
def dcN (a b1 b d:Nat)(c e f:Bool):Nat×Nat:=
 if a < 0x80 then(a,1)
 else if a / 32==6 && c then(if (a % 32)*64+b1 % 64≥0x80 then((a % 32)*64+b1 % 64,2)else(65533,1))
 else if a / 16==14 && c && e then(if (a % 16)*4096+(b1 % 64)*64+b % 64≥0x800 && Utf8.valid (((a % 16)*4096+(b1 % 64)*64+b % 64:Nat):Int)then((a % 16)*4096+(b1 % 64)*64+b % 64,3)else(65533,1))
 else if a / 8==30 && c && e && f then(if (a % 8)*262144+(b1 % 64)*4096+(b % 64)*64+d % 64≥0x10000 && Utf8.valid (((a % 8)*262144+(b1 % 64)*4096+(b % 64)*64+d % 64:Nat):Int)then((a % 8)*262144+(b1 % 64)*4096+(b % 64)*64+d % 64,4)else(65533,1))
 else(65533,1)
theorem Ib (s:Str)(p:Nat):Utf8.decode ⟨s.toArray⟩ p=dcN (byteAt s p) (byteAt s (p+1)) (byteAt s (p+2)) (byteAt s (p+3)) (lC s (p+1)) (lC s (p+2)) (lC s (p+3)):=by
 have a:∀k,((ByteArray.mk s.toArray).get! (p+k)).toNat=byteAt s (p+k):=by
  intro k;unfold byteAt;have:(ByteArray.mk s.toArray).get! (p+k)=s.getD (p+k) 0:=by
   show s.toArray[p+k]! =_
   simp[List.getD,List.getElem!_eq_getElem?_getD];rfl
  rw[this]
 have c:∀k,(decide (p+k < (ByteArray.mk s.toArray).size) && byteAt s (p+k) / 64==2)=lC s (p+k):=by
  intro k;unfold lC MZ;have b:(ByteArray.mk s.toArray).size=s.length:=by show s.toArray.size=_;simp
  rw[b];congr 1;rw[Qcn];simp only[Qch,iT,WL];omega
 have d:=a 0;rw[Pj]at d;unfold Utf8.decode dcN;simp only[a,c,Utf8.runeError];simp only[Pj]
theorem anJ (n:Nat):Utf8.valid (n:Int)=true ↔ n < 0xD800\/(0xE000<=n/\n<=0x10FFFF):=by
 unfold Utf8.valid;simp only[Qbp,iT,WL];omega
set_option maxHeartbeats 4000000 in
theorem aG5 (c b1 e g:Nat)(f a b d:Bool)(i:a=(f && (decide (128<=b1) && decide (b1<=191))))(j:b=true->128<=e/\e<=191)(k:d=true->128<=g/\g<=191)(m:c < 256):
  (szN c b1 f a b d=0->dcN c b1 e g a b d=(65533,1)/\¬(c=239/\b1=191/\e=189/\a=true/\b=true))/\
  (szN c b1 f a b d≠0->((dcN c b1 e g a b d).1=65533->c=239/\b1=191/\e=189/\a=true/\b=true)/\((dcN c b1 e g a b d).2:Int)=szN c b1 f a b d):=by
 have l:a=true ↔ f=true/\128<=b1/\b1<=191:=by
  rw[i];simp only[iT,WL]
 clear i;unfold szN dcN;cases a<;>cases b<;>cases d<;>cases f<;>simp only[Bool.and_true,Bool.and_false,Ot,and_true,and_false,true_and,false_and,if_false,false_iff,true_iff,Qch,ge_iff_le,iT,anJ,WL,forall_const,not_and,Qdv,implies_true,not_true_eq_false]at l j k⊢<;>(repeat' split)<;>simp only[WB,ne_eq,and_true,true_and,and_false,false_and,Qdv]<;>first | trivial | omega | exact⟨fun _ i j k=>by omega,fun h=>(h trivial).elim⟩

def aa0 (s:Str)(p:Str):Pg Bool:=.br (decide ((↑(List.length p):Int)<=(↑(List.length s):Int))) (.ob ((0:Int)<=0/\0<=(↑(List.length p):Int)/\(↑(List.length p):Int)<=(↑(List.length s):Int)) (.as (List.length s<=9223372036854775807) (.as (List.length p<=9223372036854775807) (.as (List.length p<=9223372036854775807) (.ret (List.take (List.length p) s==p)))))) (.as (List.length s<=9223372036854775807) (.as (List.length p<=9223372036854775807) (.ret false)))
def adA (s:Str)(p:Str):=(aa0 s p).val
def amP:aY Z:=E0 [] [] (ak (bz cStr) (a1 (bz cStr))) (R1 aG) [] func429 1 (u2 aa0)
def ahI (s:Str)(p:Str):Pg Bool:=.ret (adA s p)
def Jy (s:Str)(p:Str):=(ahI s p).val
def at7:aY Z:=E0 [amP] [] (ak (bz cStr) (a1 (bz cStr))) (R1 aG) [] func371 1 (u2 ahI)
def wrong (s:Str)(a:Int)(c:Int):Pg Bool:=.br (c==65533) (.ob (0<=a/\a<=(↑(List.length s):Int)/\(↑(List.length s):Int)<=(↑(List.length s):Int)) (.ret !Jy (List.drop a.toNat (List.take (List.length s) s)) [239,191,189])) (.ret false)
def VK (s:Str)(a:Int)(c:Int):=(wrong s a c).val
def awn:aY Z:=E1 [at7] [] (ak (bz cStr) (ak (bz cI) (a1 (bz (gq .i32))))) (R1 aG) [] func273 1 (u3 wrong) fun a=>0<=a.2.1/\a.2.1<=a.1.length
def JC (s:Str)(i:Int)(a:Int)(b:Int):Pg Bool:=.br (decide (i < (↑(List.length s):Int))) (.ix i (List.length s) (.br (decide (a<=(↑(List.getD s i.toNat 0).toNat:Int))) (.ix i (List.length s) (.as (List.length s<=9223372036854775807) (.ret (decide ((↑(List.getD s i.toNat 0).toNat:Int)<=b))))) (.as (List.length s<=9223372036854775807) (.ret false)))) (.as (List.length s<=9223372036854775807) (.ret false))
def qV (s:Str)(i:Int)(a:Int)(b:Int):=(JC s i a b).val
theorem adR (s:Str)(i:Int)(a:Int)(b:Int)(h:0<=i):Is (JC s i a b):=
 cZ (fun _=>bW au au (cZ (fun _=>bW au au (eH fun _=>aO)) (fun _=>eH fun _=>aO))) (fun _=>eH fun _=>aO)
def TT:aY Z:=E1 [] [] (ak (bz cStr) (ak (bz cI) (ak (bz (gq .u8)) (a1 (bz (gq .u8)))))) (R1 aG) [] func204 1 (u4 JC) (fun a=>0<=a.2.1) fun a h=>adR a.1 a.2.1 a.2.2.1 a.2.2.2 h
def ajQ (s:Str)(i:Int)(n:Int):Pg Bool:=.cnt um 0 n (fun b (c:Unit)=> .lt (dA .i64 (i+b)) fun a=> .ob (0<=a) (.br (!qV s a 128 191) (.ret (.inr false)) (rl ()))) (fun b (c:Unit)=> .ret true) ()
def BP (s:Str)(i:Int)(n:Int):=(ajQ s i n).val
theorem atV (s:Str)(i:Int)(n:Int)(h:0<=i/\i<=s.length+1/\n<=3/\s.length<=9223372036854775700):Is (ajQ s i n):=
 Vz au au (fun b a _ _=>l9 fun d c _=>aW au (aT iR iR)) (fun b a _ _=>aO)
def axm:aY Z:=E1 [TT] [jS 2 (bJ (fun b=>[s0 7]) (l1 cI))] (ak (bz cStr) (ak (bz cI) (a1 (bz cI)))) (R1 aG) [] func203 1 (u3 ajQ) (fun a=>0<=a.2.1/\a.2.1<=a.1.length+1/\a.2.2<=3/\a.1.length<=9223372036854775700) fun a h=>atV a.1 a.2.1 a.2.2 h
def ajc (s:Str)(i:Int):Pg Int:=.ix i (List.length s) (.br (decide ((↑(List.getD s i.toNat 0).toNat:Int) < 128)) (.ret 1) (.lt (dA .i64 (i+1)) fun a=> .cut (fun(g:Bool)=> .br g (.ret 2) (.lt (BP s (dA .i64 (i+2)) 1) fun e=> .lt (dA .i64 (i+2)) fun b=> .cut (fun(f:Bool)=> .br f (.ret 3) (.cut (fun(k:Bool)=> .br k (.ret 3) (.cut (fun(j:Bool)=> .br j (.ret 3) (.lt (BP s b 2) fun d=> .cut (fun(h:Bool)=> .br h (.ret 4) (.lt (qV s a 128 143) fun c=> .br (decide (241<=(↑(List.getD s i.toNat 0).toNat:Int))) (.br (decide ((↑(List.getD s i.toNat 0).toNat:Int)<=243)) (.ob (0<=a/\a<=(↑(List.length s):Int)+1/\(3:Int)<=3/\List.length s<=9223372036854775700) (.br (BP s a 3) (.ret 4) (.br ((↑(List.getD s i.toNat 0).toNat:Int)==244) (.ob (0<=a) (.br c (.ob (0<=b/\ b<=(↑(List.length s):Int)+1/\(2:Int)<=3/\List.length s<=9223372036854775700) (.br d (.ret 4) (.ret 0))) (.ret 0))) (.ret 0)))) (.br ((↑(List.getD s i.toNat 0).toNat:Int)==244) (.ob (0<=a) (.br c (.ob (0<=b/\ b<=(↑(List.length s):Int)+1/\(2:Int)<=3/\List.length s<=9223372036854775700) (.br d (.ret 4) (.ret 0))) (.ret 0))) (.ret 0))) (.br ((↑(List.getD s i.toNat 0).toNat:Int)==244) (.ob (0<=a) (.br c (.ob (0<=b/\ b<=(↑(List.length s):Int)+1/\(2:Int)<=3/\List.length s<=9223372036854775700) (.br d (.ret 4) (.ret 0))) (.ret 0))) (.ret 0)))) (.br ((↑(List.getD s i.toNat 0).toNat:Int)==240) (.ob (0<=a) (.br (qV s a 144 191) (.ob (0<=b/\b<=(↑(List.length s):Int)+1/\(2:Int)<=3/\List.length s<=9223372036854775700) (rl d)) (rl false))) (rl false)))) (.br (decide (225<=(↑(List.getD s i.toNat 0).toNat:Int))) (.br (decide ((↑(List.getD s i.toNat 0).toNat:Int)<=239)) (.br ((↑(List.getD s i.toNat 0).toNat:Int) !=237) (.ob (0<=a/\a<=(↑(List.length s):Int)+1/\(2:Int)<=3/\List.length s<=9223372036854775700) (rl (BP s a 2))) (rl false)) (rl false)) (rl false)))) (.br ((↑(List.getD s i.toNat 0).toNat:Int)==237) (.ob (0<=a) (.br (qV s a 128 159) (.ob (0<=b/\b<=(↑(List.length s):Int)+1/\(1:Int)<=3/\List.length s<=9223372036854775700) (rl e)) (rl false))) (rl false)))) (.br ((↑(List.getD s i.toNat 0).toNat:Int)==224) (.ob (0<=a) (.br (qV s a 160 191) (.ob (0<=b/\b<=(↑(List.length s):Int)+1/\(1:Int)<=3/\List.length s<=9223372036854775700) (rl e)) (rl false))) (rl false)))) (.br (decide (194<=(↑(List.getD s i.toNat 0).toNat:Int))) (.br (decide ((↑(List.getD s i.toNat 0).toNat:Int)<=223)) (.ob (0<=a/\a<=(↑(List.length s):Int)+1/\(1:Int)<=3/\List.length s<=9223372036854775700) (rl (BP s a 1))) (rl false)) (rl false))))
def Eo (s:Str)(i:Int):=(ajc s i).val
theorem arW (s:Str)(i:Int)(h:0<=i/\i < s.length/\s.length<=9223372036854775700):Is (ajc s i):=
 bW au au (cZ iR (fun _=>l9 fun t c _=>kL (cZ (fun _=>cZ (fun _=>aW au (aO)) iR) iR) (fun p a=>aT iR (fun _=>dC fun o g=>l9 fun l u _=>kL (dM (fun _=>aW au (aT (fun _=>aW au (aO)) iR)) iR) (fun n f=>aT iR (fun _=>kL (dM (fun _=>aW au (aT (fun _=>aW au (aO)) iR)) iR) (fun m d=>aT iR (fun _=>kL (cZ (fun _=>cZ (fun _=>eX (fun _=>aW au (aO)) iR) iR) iR) (fun w j=>aT iR (fun _=>dC fun q e=>kL (dM (fun _=>aW au (aT (fun _=>aW au (aO)) iR)) iR) (fun r b=>aT iR (fun _=>dC fun k v=>cZ (fun _=>cZ (fun _=>aW au (aT iR (fun _=>dM (fun _=>aW au (aT (fun _=>aW au (aT iR iR)) iR)) iR))) (fun _=>dM (fun _=>aW au (aT (fun _=>aW au (aT iR iR)) iR)) iR)) (fun _=>dM (fun _=>aW au (aT (fun _=>aW au (aT iR iR)) iR)) iR)))))))))))))
def axW:aY Z:=E1 [axm,TT] [jS 100005 (bJ (fun b=>[s0 12]) (l1 aG)),jS 100007 (bJ (fun b=>[s0 25]) (l1 aG)),jS 100009 (bJ (fun b=>[s0 40]) (l1 aG)),jS 100011 (bJ (fun b=>[s0 55]) (l1 aG)),jS 100013 (bJ (fun b=>[s0 72]) (l1 aG))] (ak (bz cStr) (a1 (bz cI))) (R1 cI) [] func144 1 (u2 ajc) (fun a=>0<=a.2/\a.2 < a.1.length/\a.1.length<=9223372036854775700) fun a h=>arW a.1 a.2 h
theorem N9 (s:Str)(p:Nat)(a b:Nat):qV s (p:Int) (a:Int) (b:Int)=(MZ s p && (decide (a<=byteAt s p) && decide (byteAt s p<=b))):=by
 unfold qV JC MZ byteAt;simp only[cO,lG,kK,bu,DI,Int.ofNat_lt,Int.ofNat_le];cases decide (p < List.length s)<;>cases decide (a<=(s.getD p 0).toNat)<;>rfl
theorem acK (s:Str)(p:Nat)(h:p+3 < 9223372036854775808):BP s (p:Int) 1=lC s p/\BP s (p:Int) 2=(lC s p && lC s (p+1))/\BP s (p:Int) 3=(lC s p && (lC s (p+1) && lC s (p+2))):=by
 have w:∀k:Nat,k < 3->dA .i64 ((p:Int)+(k:Int))=((p+k:Nat):Int):=fun k g=>by
  rw[eQ (k:= .i64) ve];omega
 have e:∀k:Nat,k < 3->qV s (dA .i64 ((p:Int)+(k:Int))) 128 191=lC s (p+k):=fun k g=>by
  rw[w k g];exact N9 s (p+k) 128 191
 have a:=e 0 au;have c:=e 1 au;have b:=e 2 au;unfold BP ajQ;simp only[AX,dV,eG,cO,bu];simp only[show((0:Nat):Int)=0 from rfl,show((1:Nat):Int)=1 from rfl,show((2:Nat):Int)=2 from rfl]at a c b;have i:((1:Int) - 0).toNat=0+1:=rfl;have l:((2:Int) - 0).toNat=0+1+1:=rfl;have j:((3:Int) - 0).toNat=0+1+1+1:=rfl;have d:(0:Int)+1=1:=rfl;have f:(1:Int)+1=2:=rfl;refine⟨?_,?_,?_⟩
 ·rw[i];simp only[L8,MP,d,f,a,c,b];cases lC s p<;>rfl
 ·rw[l];simp only[L8,MP,d,f,a,c,b];cases lC s p<;>cases lC s (p+1)<;>rfl
 ·rw[j];simp only[L8,MP,d,f,a,c,b];cases lC s p<;>cases lC s (p+1)<;>cases lC s (p+2)<;>rfl
set_option maxHeartbeats 4000000 in
theorem aqN (s:Str)(p:Nat)(h:p+10 < 9223372036854775808):Eo s (p:Int)=szN (byteAt s p) (byteAt s (p+1)) (MZ s (p+1)) (lC s (p+1)) (lC s (p+2)) (lC s (p+3)):=by
 have i:dA .i64 ((p:Int)+1)=((p+1:Nat):Int):=by rw[eQ (k:= .i64) ve];omega
 have o:dA .i64 ((p:Int)+2)=((p+2:Nat):Int):=by rw[eQ (k:= .i64) ve];omega
 obtain⟨a1,a2,m⟩:=acK s (p+1) au;obtain⟨d1,d2,_⟩:=acK s (p+2) au;have d:=fun y v=>N9 s (p+1) y v
 have e:=d 160 191;have b:=d 128 159;have f:=d 144 191;have c:=d 128 143;simp only[show((160:Nat):Int)=160 from rfl,show((191:Nat):Int)=191 from rfl,show((128:Nat):Int)=128 from rfl,show((159:Nat):Int)=159 from rfl,show((144:Nat):Int)=144 from rfl,show((143:Nat):Int)=143 from rfl]at e b f c;unfold Eo ajc;simp only[lG,cO,eG,dV,nY,bu,i,o,a1,a2,m,d1,d2,e,b,f,c,DI,<-byteAt.eq_1];generalize byteAt s p=a;generalize byteAt s (p+1)=b1;generalize MZ s (p+1)=x;generalize lC s (p+1)=w;generalize lC s (p+2)=u;generalize lC s (p+3)=t;have l:∀n:Nat,((a:Int)==(n:Int))=decide (a=n):=fun n=>by rw[Qcn];simp only[Qch,WL];omega
 have j:∀n:Nat,((a:Int) !=(n:Int))=decide (a≠n):=fun n=>by rw[Qcn];simp only[Qe,WL];omega
 have g:∀n:Nat,decide ((a:Int) < (n:Int))=decide (a < n):=fun n=>by congr 1;rw[eq_iff_iff];omega
 have r:∀n:Nat,decide ((a:Int)<=(n:Int))=decide (a<=n):=fun n=>by congr 1;rw[eq_iff_iff];omega
 have q:∀n:Nat,decide ((n:Int)<=(a:Int))=decide (n<=a):=fun n=>by congr 1;rw[eq_iff_iff];omega
 have z:=fun(n:Nat)=>g n
 simp only[show(128:Int)=((128:Nat):Int)from rfl,show(194:Int)=((194:Nat):Int)from rfl,show(223:Int)=((223:Nat):Int)from rfl,show(224:Int)=((224:Nat):Int)from rfl,show(237:Int)=((237:Nat):Int)from rfl,show(225:Int)=((225:Nat):Int)from rfl,
  show(239:Int)=((239:Nat):Int)from rfl,show(240:Int)=((240:Nat):Int)from rfl,show(241:Int)=((241:Nat):Int)from rfl,show(243:Int)=((243:Nat):Int)from rfl,show(244:Int)=((244:Nat):Int)from rfl,l,j,g,r,q,agz,qX,AC,qH]
 unfold szN;clear a1 a2 m d1 d2 i o d e b f c l j g r q z h;cases w<;>cases u<;>cases t<;>cases x<;>simp only[Qdy,Qbq,Bool.and_false,Bool.and_true,Bool.and_self,AC,qH,Bool.cond_self,Bool.cond_decide,Ot,and_true,and_false,true_and,false_and,if_false,<-Bool.decide_and]<;>(repeat' split)<;>first | rfl | omega
theorem anf (s:Str)(p:Nat)(n:p<=s.length):Jy (List.drop p (List.take (List.length s) s)) [239,191,189]=true ↔ byteAt s p=239/\byteAt s (p+1)=191/\byteAt s (p+2)=189/\p+2 < s.length:=by
 unfold Jy ahI adA aa0;simp only[bu,cO,eG,kK,Lc];unfold byteAt;have e:∀k,s.getD (p+k) 0=(s.drop p).getD k 0:=fun k=>by simp[List.getD,Qbj]
 have i:=e 0;have l:=e 1;have m:=e 2;rw[Pj]at i;rw[i,l,m];have a:(s.drop p).length=s.length - p:=Qbe;generalize s.drop p=r at*;have d:∀b:UInt8,b.toNat=239 ↔ b=239:=fun b=>⟨fun h=>Qd3.1 h,fun h=>by rw[h];rfl⟩
 have c:∀b:UInt8,b.toNat=191 ↔ b=191:=fun b=>⟨fun h=>Qd3.1 h,fun h=>by rw[h];rfl⟩
 have f:∀b:UInt8,b.toNat=189 ↔ b=189:=fun b=>⟨fun h=>Qd3.1 h,fun h=>by rw[h];rfl⟩
 rw[d,c,f];rcases r with _ | ⟨x,_ | ⟨y,_ | ⟨z,r⟩⟩⟩
 ·simp[List.getD]at a⊢
 ·simp[List.getD]at a⊢
 ·simp[List.getD]at a⊢
 ·have g:p+2 < s.length:=by simp at a;omega
  simp only[AB,yz,Qdi,Qdu,g,and_true,Qdg,Qdf];have j:decide (((0+1+1+1:Nat):Int)<=((r.length+1+1+1:Nat):Int))=true:=by simp;omega
  rw[j,AC,Qch];simp
theorem asw (s:Str)(p:Nat)(x:p < s.length)(w:s.length<=9223372036854775700):
  (Eo s (p:Int)=0->VK s (p:Int) (yZ s p)=true)/\(Eo s (p:Int)≠0->VK s (p:Int) (yZ s p)=false/\(CU s p:Int)=Eo s (p:Int)/\1<=CU s p/\CU s p<=4):=by
 have f:∀q,lC s q=true->128<=byteAt s q/\byteAt s q<=191:=fun q a=>by
  unfold lC at a;simp only[iT,WL]at a;exact a.2
 have e:=aG5 (byteAt s p) (byteAt s (p+1)) (byteAt s (p+2)) (byteAt s (p+3)) (MZ s (p+1)) (lC s (p+1)) (lC s (p+2)) (lC s (p+3)) rfl (f _) (f _) (UInt8.toNat_lt _);have b:=anf s p au;have l:∀q,lC s q=true->q < s.length:=fun q a=>by
  unfold lC MZ at a;simp only[iT,WL]at a;exact a.1
 have o:VK s (p:Int) (yZ s p)=(decide ((dcN (byteAt s p) (byteAt s (p+1)) (byteAt s (p+2)) (byteAt s (p+3)) (lC s (p+1)) (lC s (p+2)) (lC s (p+3))).1=65533) && !Jy (List.drop p (List.take (List.length s) s)) [239,191,189]):=by
  unfold VK wrong yZ;rw[Ib];generalize (dcN _ _ _ _ _ _ _).1=n;simp only[cO,eG,bu,DI];by_cases h:n=65533
  ·subst h;rfl
  ·have:(((n:Nat):Int)==65533)=false:=by rw[Qct];omega
   rw[this,sQ h];rfl
 rw[aqN s p au,o];refine⟨fun h=> ?_,fun h=> ?_⟩
 ·obtain⟨j,i⟩:=e.1 h;rw[j];have:¬Jy (List.drop p (List.take (List.length s) s)) [239,191,189]=true:=fun r=>by
   obtain⟨k,c,d,v⟩:=b.1 r;refine i ⟨k,c,d,?_,?_⟩
   ·unfold lC MZ;rw[c];simp;omega
   ·unfold lC MZ;rw[d];simp;omega
  rw[Qdx]at this;rw[this];rfl
 ·obtain⟨j,i⟩:=e.2 h;have g:(CU s p:Int)=szN (byteAt s p) (byteAt s (p+1)) (MZ s (p+1)) (lC s (p+1)) (lC s (p+2)) (lC s (p+3)):=by
   unfold CU;rw[Ib];exact i
  refine⟨?_,g,?_⟩
  ·by_cases m:(dcN (byteAt s p) (byteAt s (p+1)) (byteAt s (p+2)) (byteAt s (p+3)) (lC s (p+1)) (lC s (p+2)) (lC s (p+3))).1=65533
   ·obtain⟨k,c,d,v,u⟩:=j m;rw[b.2 ⟨k,c,d,l _ u⟩];simp
   ·rw[sQ m];rfl
  ·have t:szN (byteAt s p) (byteAt s (p+1)) (MZ s (p+1)) (lC s (p+1)) (lC s (p+2)) (lC s (p+3))<=4/\0<=szN (byteAt s p) (byteAt s (p+1)) (MZ s (p+1)) (lC s (p+1)) (lC s (p+2)) (lC s (p+3)):=by
    unfold szN;(repeat' split)<;>omega
   rw[<-g]at t h;omega
def aBV (s:Str):Pg Int:=.wh (s.length+1) default (fun(a:Int)=> .as (List.length s<=9223372036854775807) (.br (decide (a < (↑(List.length s):Int))) (.ob (0<=a/\a < (↑(List.length s):Int)/\List.length s<=9223372036854775700) (.lt (Eo s a) fun b=> .br (b==0) (.ret (.inr a)) (rl (dA .i64 (a+b))))) (.ret (.inr (-1))))) 0
def aIO (s:Str):=(aBV s).val
theorem ayn (s:Str)(h:s.length<=9223372036854775700):Is (aBV s):=
 by
 refine Jo (fun x=>0<=x/\x<=s.length+4) (fun x=>s.length - x.toNat) ⟨by omega,by omega⟩ au (fun x m=>⟨eH fun _=>cZ (fun _=>aW au (dC fun n i=>dM iR iR)) iR,fun j c=> ?_⟩);revert c;simp only[kK,cO,eG,dV,bu];by_cases b:x < (s.length:Int)
 ·obtain⟨p,rfl⟩:∃p:Nat,x=p:=⟨x.toNat,by omega⟩;have f:=asw s p au h;by_cases a:Eo s (p:Int)=0
  ·simp[b,a]
  ·obtain⟨_,g,o,l⟩:=f.2 a;have d:(Eo s (p:Int)==0)=false:=by simpa using a
   simp only[b,decide_true,AC,d,qH];intro e;injection e with e
   rw[<-g,eQ (k:= .i64) ve]at e;subst e;omega
 ·simp[b]
def aDk:aY Z:=E1 [axW] [jS 2 (bJ (fun b=>[s0 3]) (l1 cI))] (a1 (bz cStr)) (R1 cI) [] func88 1 aBV (fun a=>a.length<=9223372036854775700) fun a h=>ayn a h
def bad (s:Str):Pg Int:=.wh (s.length+1) default (fun(a:List UInt8×Int)=> .br (decide (a.2.toNat < a.1.length)) (.ob (0<=(↑a.2.toNat:Int)/\(↑a.2.toNat:Int)<=(↑(List.length s):Int)) (.br (VK s (↑a.2.toNat:Int) (yZ a.1 a.2.toNat)) (.ret (.inr (↑a.2.toNat:Int))) (rl (a.1,(↑(a.2.toNat+CU a.1 a.2.toNat):Int))))) (.ret (.inr (-1)))) (s,0)
def aJR (s:Str):=(bad s).val
theorem ar4 (s:Str)(p:Nat):1<=CU s p/\CU s p<=4:=by
 unfold CU;rw[Ib];unfold dcN;(repeat' split)<;>exact⟨by simp,by simp⟩
theorem aEF (s:Str)(h:s.length<=9223372036854775700):Is (bad s):=
 by
 refine Jo (fun x=>x.1=s/\0<=x.2/\x.2<=s.length+4) (fun x=>s.length - x.2.toNat) ⟨rfl,by omega,by omega⟩ au (fun x b=>⟨cZ (fun d=>aW (by rw[b.1]at*;omega) (aT iR iR)) iR,fun f a=> ?_⟩);obtain⟨t,x⟩:=x;obtain⟨rfl,g,i⟩:=b;have j:=ar4 t x.toNat;revert a;simp only[cO,eG,bu,Qbu];(repeat' split)<;>intro e<;>cases e
 rename_i c _;simp only[WL]at c;exact⟨⟨rfl,by omega,by omega⟩,by simp only[DI];omega⟩
def aHj:aY Z:=E1 [awn] [jS 2 (bJ (fun b=>[.iter (pid (b 6))]) (l1 (dh cStr cI)))] (a1 (bz cStr)) (R1 cI) [] func194 1 bad (fun a=>a.length<=9223372036854775700) fun a h=>aEF a h
def ato (s:Str):Pg Bool:=.ob (List.length s<=9223372036854775700) (.lt (aJR s) fun a=> .ret (decide (a < 0)))
def EK (s:Str):=(ato s).val
def Dz:aY Z:=E1 [aHj] [] (a1 (bz cStr)) (R1 aG) [] func123 1 ato fun a=>a.length<=9223372036854775700
def agB (s:Str):Pg Bool:=.ob (List.length s<=9223372036854775700) (.lt (aIO s) fun a=> .ret (decide (a < 0)))
def ajf (s:Str):=(agB s).val
theorem ang (s:Str)(h:s.length<=9223372036854775700):Is (agB s):=
 aW h (dC fun _ _=>aO)
def adC:aY Z:=E1 [aDk] [] (a1 (bz cStr)) (R1 aG) [] func48 1 agB (fun a=>a.length<=9223372036854775700) fun a h=>ang a h

def pcB (c:UInt8):Bool:=(decide (97<=c.toNat) && decide (c.toNat<=122)) || (decide (65<=c.toNat) && decide (c.toNat<=90))
def pnB (c:UInt8):Bool:=pcB c || (decide (48<=c.toNat) && decide (c.toNat<=57)) || decide (c.toNat=95)
theorem alj (c:UInt8):pcB c=true ↔ (97<=c.toNat/\c.toNat<=122)\/(65<=c.toNat/\c.toNat<=90):=by
 unfold pcB;simp only[Qbp,iT,WL]
theorem aiZ (c:UInt8):pnB c=true ↔ ((97<=c.toNat/\c.toNat<=122)\/(65<=c.toNat/\c.toNat<=90))\/(48<=c.toNat/\c.toNat<=57)\/c.toNat=95:=by
 unfold pnB;simp only[Qbp,iT,WL,alj,or_assoc]
theorem ajk {s:Str}{p:Nat}(h:byteAt s p < 128):yZ s p=(byteAt s p:Int)/\CU s p=1:=by
 unfold yZ CU;rw[Ib];unfold dcN;rw[mV h];exact⟨rfl,rfl⟩
theorem aui {s:Str}{p:Nat}(h:128<=byteAt s p):128<=yZ s p:=by
 unfold yZ;rw[Ib];unfold dcN;rw[lW au];have c:∀(a b:Prop) [Decidable a] [Decidable b] (x y z:Nat×Nat),128<=x.1->128<=y.1->128<=z.1->True:=fun _ _ _ _ _ _ _ _ _ _=>trivial
 (repeat' split)<;>simp_all<;>omega
def cls (c:Int):Pg Int:=.br (decide (97<=c)) (.br (decide (c<=122)) (.ret 1) (.br (decide (65<=c)) (.br (decide (c<=90)) (.ret 2) (.br (decide (48<=c)) (.br (decide (c<=57)) (.ret 3) (.br (c==95) (.ret 4) (.ret 0))) (.br (c==95) (.ret 4) (.ret 0)))) (.br (decide (48<=c)) (.br (decide (c<=57)) (.ret 3) (.br (c==95) (.ret 4) (.ret 0))) (.br (c==95) (.ret 4) (.ret 0))))) (.br (decide (65<=c)) (.br (decide (c<=90)) (.ret 2) (.br (decide (48<=c)) (.br (decide (c<=57)) (.ret 3) (.br (c==95) (.ret 4) (.ret 0))) (.br (c==95) (.ret 4) (.ret 0)))) (.br (decide (48<=c)) (.br (decide (c<=57)) (.ret 3) (.br (c==95) (.ret 4) (.ret 0))) (.br (c==95) (.ret 4) (.ret 0))))
def WT (c:Int):=(cls c).val
def aGe:aY Z:=E0 [] [] (a1 (bz (gq .i32))) (R1 cI) [] func104 1 cls
theorem awQ (c:Int):WT c=if 97<=c/\c<=122 then 1 else if 65<=c/\c<=90 then 2 else if 48<=c/\c<=57 then 3 else if c=95 then 4 else 0:=by
 unfold WT cls;simp only[cO,bu,Qbu,WL,Qch];(repeat' split)<;>first | rfl | omega
theorem asy (s:Str)(p:Nat):(WT (yZ s p)=0 ↔ pnB (s.getD p 0)=false)/\((WT (yZ s p)=1\/WT (yZ s p)=2) ↔ pcB (s.getD p 0)=true):=by
 have e:=alj (s.getD p 0);have d:=aiZ (s.getD p 0);rw[awQ,Bool.eq_false_iff,ne_eq,e,d];have a:byteAt s p=(s.getD p 0).toNat:=rfl;by_cases h:byteAt s p < 128
 ·rw[(ajk h).1,a];generalize (s.getD p 0).toNat=b;(repeat' split)<;>omega
 ·have:=aui (s:=s) (p:=p) au;rw[a]at h;generalize (s.getD p 0).toNat=b at*;generalize yZ s p=c at*;(repeat' split)<;>omega
theorem ari {s:Str}{p:Nat}(h:pnB (s.getD p 0)=true):CU s p=1:=by
 have:=(aiZ _).1 h;exact(ajk (s:=s) (p:=p) (by show(s.getD p 0).toNat < 128;omega)).2
def aoO (s:Str):Pg Bool:=.wh (s.length+1) default (fun(a:List UInt8×Int)=> .br (decide (a.2.toNat < a.1.length)) (.lt (WT (yZ a.1 a.2.toNat)) fun b=> .br (b==0) (.ret (.inr false)) (.br ((↑a.2.toNat:Int)==0) (.br (b !=1) (.br (b !=2) (.ret (.inr false)) (rl (a.1,(↑(a.2.toNat+CU a.1 a.2.toNat):Int)))) (rl (a.1,(↑(a.2.toNat+CU a.1 a.2.toNat):Int)))) (rl (a.1,(↑(a.2.toNat+CU a.1 a.2.toNat):Int))))) (.br (decide (1<=(↑(List.length s):Int))) (.ret (.inr (decide ((↑(List.length s):Int)<=40)))) (.ret (.inr false)))) (s,0)
def aa5 (s:Str):=(aoO s).val
theorem aus (s:Str):Is (aoO s):=
 by
 refine Jo (fun x=>x.1=s/\0<=x.2) (fun x=>s.length - x.2.toNat) ⟨rfl,by omega⟩ oI (fun x i=>⟨cZ (fun _=>dC fun l k=>dM iR (fun _=>dM (fun _=>eX (fun _=>eX iR iR) iR) iR)) (fun _=>cZ iR iR),fun d a=> ?_⟩);obtain⟨t,x⟩:=x;obtain⟨rfl,f⟩:=i;dsimp only at f a⊢;revert a;simp only[cO,dV,bu];by_cases c:x.toNat < t.length
 ·rw[wO c,AC];by_cases b:WT (yZ t x.toNat)=0
  ·rw[b];intro e;cases e
  ·have g:pnB (t.getD x.toNat 0)=true:=by
    rw[<-Bool.not_eq_false];exact fun e=>b ((asy t x.toNat).1.2 e)
   have h:=ari g;have:(WT (yZ t x.toNat)==0)=false:=by simpa using b
   rw[this,qH,h];intro e;have j:d=(t,((x.toNat+1:Nat):Int)):=by
    revert e;cases((x.toNat:Int)==0)<;>cases(WT (yZ t x.toNat) !=1)<;>cases(WT (yZ t x.toNat) !=2)<;>simp only[AC,qH]<;>intro e<;>first | (cases e;rfl) | (cases e;done)
   subst j;exact⟨⟨rfl,by omega⟩,by show t.length - (((x.toNat+1:Nat):Int)).toNat < _;omega⟩
 ·rw[sQ c,qH];intro e;revert e;cases decide ((1:Int)<=(t.length:Int))<;>intro e<;>cases e
def QO:aY Z:=E0 [aGe] [jS 2 (bJ (fun b=>[.iter (pid (b 7))]) (l1 (dh cStr cI)))] (a1 (bz cStr)) (R1 aG) [] func59 1 aoO fun a=>aus a
def aad (b:Int):Pg Bool:=.br (decide (97<=b)) (.ret (decide (b<=122))) (.ret false)
def Q3 (b:Int):=(aad b).val
theorem ah7 (b:Int):Is (aad b):=
 cZ iR iR
def an7:aY Z:=E0 [] [] (a1 (bz (gq .u8))) (R1 aG) [] func135 1 aad fun a=>ah7 a
def avg (b:Int):Pg Bool:=.br (decide (65<=b)) (.ret (decide (b<=90))) (.ret false)
def ahL (b:Int):=(avg b).val
theorem apA (b:Int):Is (avg b):=
 cZ iR iR
def ay_:aY Z:=E0 [] [] (a1 (bz (gq .u8))) (R1 aG) [] func136 1 avg fun a=>apA a
def agf (s:Str):Pg Bool:=.br ((↑(List.length s):Int)==0) (.ret false) (.br (decide (40 < (↑(List.length s):Int))) (.ret false) (.ix 0 (List.length s) (.br (!Q3 (↑(List.getD s 0 0).toNat:Int)) (.ix 0 (List.length s) (.br (!ahL (↑(List.getD s 0 0).toNat:Int)) (.ret false) (.Hz [] (some (List.length s<=9223372036854775807)) um 1 (↑(List.length s):Int) (fun b (c:Unit)=> .ix b (List.length s) (.br (!Q3 (↑(List.getD s b.toNat 0).toNat:Int)) (.ix b (List.length s) (.br (!ahL (↑(List.getD s b.toNat 0).toNat:Int)) (.ix b (List.length s) (.br ((↑(List.getD s b.toNat 0).toNat:Int) !=95) (.ix b (List.length s) (.br (decide ((↑(List.getD s b.toNat 0).toNat:Int) < 48)) (.ret (.inr false)) (.ix b (List.length s) (.br (decide (57 < (↑(List.getD s b.toNat 0).toNat:Int))) (.ret (.inr false)) (rl ()))))) (rl ()))) (rl ()))) (rl ()))) (fun b (c:Unit)=> .ret true) ()))) (.Hz [] (some (List.length s<=9223372036854775807)) um 1 (↑(List.length s):Int) (fun a (d:Unit)=> .ix a (List.length s) (.br (!Q3 (↑(List.getD s a.toNat 0).toNat:Int)) (.ix a (List.length s) (.br (!ahL (↑(List.getD s a.toNat 0).toNat:Int)) (.ix a (List.length s) (.br ((↑(List.getD s a.toNat 0).toNat:Int) !=95) (.ix a (List.length s) (.br (decide ((↑(List.getD s a.toNat 0).toNat:Int) < 48)) (.ret (.inr false)) (.ix a (List.length s) (.br (decide (57 < (↑(List.getD s a.toNat 0).toNat:Int))) (.ret (.inr false)) (rl ()))))) (rl ()))) (rl ()))) (rl ()))) (fun a (d:Unit)=> .ret true) ()))))
def P6 (s:Str):=(agf s).val
theorem alP (s:Str):Is (agf s):=
 dM iR (fun _=>cZ iR (fun _=>bW au au (aT (fun _=>bW au au (aT iR (fun _=>yM trivial au (fun h=>by simp only[o_]at h;omega) (fun d a _ _ _=>bW au au (aT (fun _=>bW au au (aT (fun _=>bW au au (eX (fun _=>bW au au (cZ iR (fun _=>bW au au (cZ iR iR)))) iR)) iR)) iR)) (fun d a _ _=>aO)))) (fun _=>yM trivial au (fun h=>by simp only[o_]at h;omega) (fun b c _ _ _=>bW au au (aT (fun _=>bW au au (aT (fun _=>bW au au (eX (fun _=>bW au au (cZ iR (fun _=>bW au au (cZ iR iR)))) iR)) iR)) iR)) (fun b c _ _=>aO)))))
def aec:aY Z:=E0 [an7,ay_] [jS 4 (bJ (fun b=>[s0 3]) (l1 cI))] (a1 (bz cStr)) (R1 aG) [] func82 1 agf fun a=>alP a
def ag7 (s:Str):Pg Bool:=.br (decide (120 < (↑(List.length s):Int))) (.ret false) (.each true oG s 0 (fun a d (b:List UInt8)=> .ix a (List.length s) (.br ((↑d.toNat:Int) !=46) (.lt (dA .i64 (a+1)) fun c=> .ob (0<=a/\a<=c/\c<=(↑(List.length s):Int)) (.ob (b.length+(List.drop a.toNat (List.take c.toNat s)).length<=9223372036854775807) (rl (b++List.drop a.toNat (List.take c.toNat s))))) (.br (!P6 b) (.ret (.inr false)) (.ret (.inl []))))) (fun a (b:List UInt8)=> .ret (P6 b)) [])
def azh (s:Str):=(ag7 s).val
theorem anz (s:Str):Is (ag7 s):=
 by
 refine cZ iR fun i=>DR (fun k y=>y.length<=k) (oC _) (.inl rfl) (fun a b m l g=> ?_) (fun b _ _=>aO);have g:b.length<=a:=g;have w:dA .i64 ((a:Int)+1)=((a+1:Nat):Int):=rV au;rw[w];have f:(List.drop a (List.take (a+1) s)).length=1:=by rw[Qbe,zC];omega
 refine⟨bW au au (eX (fun _=>dC fun j d=>aW au (aW (by subst d;rw[DI,DI,f];omega) aO)) (fun _=>aT iR iR)),fun h c=> ?_⟩;revert c;simp only[lG,cO,dV,eG,bu,DI];show _->h.length<=a+1
 cases((s.getD a 0).toNat:Int) !=46<;>cases !P6 b<;>simp only[AC,qH]<;>intro e<;>first | (cases e;simp only[qO,yz,f];omega) | (cases e;done)
def ar8:aY Z:=E0 [aec] [jS 5 (bJ (fun b=>[s0 4, s0 3]) (ay cI (l1 cStr)))] (a1 (bz cStr)) (R1 aG) [] func79 1 ag7 fun a=>anz a
def uy:Str:=[46]
def ak8 (s:Str):Pg Int:=.as (List.length uy<=9223372036854775807) (.br (uy==s) (.ret 0) (.ix 0 (List.length uy) (.ret (Lib.indexByte s (List.getD uy 0 0).toNat.toUInt8))))
def Zh (s:Str):=(ak8 s).val
theorem auN (s:Str):Is (ak8 s):=
 eH fun _=>aT iR (fun _=>bW qp qp aO)
def ajz:aY Z:=uF Z [NJ] [jS 15 (bJ (fun c=>[s0 8, s0 10]) (ay cI (l1 cI)))] (args (ak (bz cStr) (a1 (bz cStr)))) (jr (n:=143) rfl) (R1 cI) [] func161 ntmps161 eF 1 rfl (fun a=>ak8 (a.1)) (fun a=>some (a.2=uy)) (fun⟨s,p⟩ e h=>by have b:p=uy:=h;subst b;show _=_;kernel_rfl) (fun a=>Zh (a.1)) (fun a h=>⟨auN (a.1),rfl⟩)
theorem aoA (s:Str):Zh s=Lib.indexByte s 46:=by
 unfold Zh ak8;simp only[kK,nY,cO,eG,bu];by_cases h:uy=s
 ·subst h;rfl
 ·have:(uy==s)=false:=by simpa using h
  rw[this];rfl
theorem aaJ:((List.length uy:Nat):Int)=1:=rfl
def aHY (s:Str):Pg Int:=.ob (uy=uy) (.ret (Zh s))
theorem ax6 (s:Str):Is (aHY s):=
 aW rfl aO
def aB5:aY Z:=uF Z [ajz] [] (args (ak (bz cStr) (a1 (bz cStr)))) (jr (n:=8) rfl) (R1 cI) [] func226 ntmps226 eF 1 rfl (fun a=>aHY (a.1)) (fun a=>some (a.2=uy)) (fun⟨s,p⟩ e h=>by have b:p=uy:=h;subst b;show _=_;kernel_rfl) (fun a=>Lib.indexByte (a.1) 46) (fun a h=>⟨ax6 (a.1),aoA (a.1)⟩)
def aaS (i:Int)(y:List UInt8×List Str):(List UInt8×List Str)⊕((List UInt8×Int×List Str)⊕List Str):=
 bif decide (Lib.indexByte y.1 46 < 0)then .inr (.inl (y.1,i,y.2))else .inl (List.drop (dA .i64 (Lib.indexByte y.1 46+1)).toNat (List.take y.1.length y.1),y.2.set i.toNat (List.take (dA .i64 (Lib.indexByte y.1 46+0)).toNat y.1))
def azY (i:Int)(y:List UInt8×List Str):(List UInt8×Int×List Str)⊕List Str:= .inl (y.1,i,y.2)
theorem Yp {r:Str}(g:r.length<=4294967296)(h:0 < Lib.countByte r 46):∃m:Nat,Lib.indexByte r 46=(m:Int)/\m < r.length/\lI 46 r=r.take m::lI 46 (r.drop (m+1))/\Lib.countByte r 46=Lib.countByte (r.drop (m+1)) 46+1:=by
 have f:=Lib.indexByte_ge r 46;by_cases e:Lib.indexByte r 46= -1
 ·have:=(Gz e).2;omega
 ·obtain⟨m,a⟩:∃m:Nat,Lib.indexByte r 46=(m:Int):=⟨(Lib.indexByte r 46).toNat,by omega⟩;obtain⟨c,d,b⟩:=Hu a;exact⟨m,a,c,d,b⟩
theorem aze {r:Str}{a:List Str}{i:Nat}(g:r.length<=4294967296)(h:0 < Lib.countByte r 46):∃m:Nat,aaS (i:Int) (r,a)= .inl (r.drop (m+1),a.set i (r.take m))/\lI 46 r=r.take m::lI 46 (r.drop (m+1))/\Lib.countByte r 46=Lib.countByte (r.drop (m+1)) 46+1:=by
 obtain⟨m,b,j,f,d⟩:=Yp g h;refine⟨m,?_,f,d⟩;unfold aaS;have e:dA .i64 ((m:Int)+1)=((m+1:Nat):Int):=rV au;have c:dA .i64 ((m:Int)+0)=((m:Nat):Int):=by rw[Int.add_zero,eQ (k:= .i64) ve]
 rw[b,e,c,sQ (show ¬(m:Int) < 0 by omega),qH,Lc,DI,DI,DI]
theorem abz:∀(n i:Nat) (r:Str) (a:List Str),Lib.countByte r 46=n->a.length=i+n+1->r.length<=4294967296->∃f d,Bi aaS azY n (i:Int) (r,a)= .inl (f,((i+n:Nat):Int),d)/\d.length=i+n+1/\d.take (i+n)++[f]=a.take i++lI 46 r
 | 0,i,r,a,q,h,k=>by
  have b:Lib.indexByte r 46= -1:=by
   have u:=Lib.indexByte_ge r 46;by_cases b:Lib.indexByte r 46= -1
   ·exact b
   ·obtain⟨_,_,o⟩:=Hu (s:=r) (c:=46) (m:=(Lib.indexByte r 46).toNat) au;omega
  exact⟨r,a,rfl,h,by rw[(Gz b).1];rfl⟩
 | n+1,i,r,a,q,h,k=>by
  obtain⟨m,l,t,o⟩:=aze (a:=a) (i:=i) k au;have j:(r.drop (m+1)).length<=4294967296:=by rw[Qbe];omega
  obtain⟨f,d,b,v,p⟩:=abz n (i+1) (r.drop (m+1)) (a.set i (r.take m)) au qch j;refine⟨f,d,?_,by omega,?_⟩
  ·unfold Bi;rw[l];have e:((i:Int)+1)=((i+1:Nat):Int):=rfl;rw[e];simp only;rw[b,show i+1+n=i+(n+1) by omega]
  ·rw[show i+(n+1)=i+1+n by omega,p,t];have:(a.set i (r.take m)).take (i+1)=a.take i++[r.take m]:=by
    rw[Qeb,Qds,Ph au];have g:(a.take i).length=i:=by rw[zC];omega
    simp only[Option.toList_some];rw[List.set_append_right _ _ au,g,Qd7];rfl
   rw[this,Qb2];rfl
theorem aIw (s:Str)(h:s.length<=4294967296):min (dA .i64 ((Lib.countByte s 46:Int)+1)) (dA .i64 ((s.length:Int)+1))=((Lib.countByte s 46+1:Nat):Int)/\dA .i64 (((Lib.countByte s 46+1:Nat):Int) - 1)=((Lib.countByte s 46:Nat):Int):=by
 have c:=count_le 46 s;have b:dA .i64 ((Lib.countByte s 46:Int)+1)=((Lib.countByte s 46+1:Nat):Int):=rV au;have a:dA .i64 ((s.length:Int)+1)=((s.length+1:Nat):Int):=rV au;rw[b,a,eQ (k:= .i64) ve];omega
def abd (s:Str):Pg (List Str):=.cut (fun(d:Int)=> .lt (dA .i64 ((↑(List.length s):Int)+1)) fun c=> .ob (min d c=min d c/\0<=min d c/\min d c*(16:Int)<=281474976710656/\min d c<=1099511627776) (.cut (fun(b:List UInt8×Int×List Str)=> .ix b.2.1 b.2.2.length (.ob (b.2.1.toNat < b.2.2.length) (.lt (b.2.2.set b.2.1.toNat b.1) fun i=> .lt (dA .i64 (b.2.1+1)) fun g=> .ob ((0:Int)<=0/\0<=g/\g<=(↑i.length:Int)) (.ret (List.take g.toNat i))))) (.lt (dA .i64 (min d c - 1)) fun j=> .cnt oG 0 j (fun e (a:List UInt8×List Str)=> .ob (uy=uy) (.br (decide (Lib.indexByte a.1 46 < 0)) (.ret (.inr (.inl (a.1,e,a.2)))) (.lt (dA .i64 (Lib.indexByte a.1 46+0)) fun h=> .ob ((0:Int)<=0/\0<=h/\h<=(↑a.1.length:Int)) (.ix e a.2.length (.ob (e.toNat < a.2.length) (.lt (dA .i64 (Lib.indexByte a.1 46+(↑(List.length uy):Int))) fun f=> .ob (0<=f/\f<=(↑a.1.length:Int)/\(↑a.1.length:Int)<=(↑a.1.length:Int)) (.as (List.length uy<=9223372036854775807) (rl (List.drop f.toNat (List.take a.1.length a.1),a.2.set e.toNat (List.take h.toNat a.1)))))))))) (fun e (a:List UInt8×List Str)=> rl (a.1,e,a.2)) (s,List.replicate (min d c).toNat [])))) (rl (dA .i64 ((↑(Lib.countByte s 46):Int)+1)))
def QM (s:Str):=(abd s).val
theorem amW (s:Str)(h:s.length<=4294967296):Is (abd s):=
 by
 obtain⟨u,o⟩:=aIw s h;have I:=count_le 46 s;refine kL aO (fun v a=> ?_);have a:dA .i64 ((Lib.countByte s 46:Int)+1)=v:=by injection a
 subst a;refine dC fun R c=> ?_;subst c;rw[u];refine aW ⟨rfl,by omega,by omega,by omega⟩ (kL (dC fun L D=> ?_) fun G n=> ?_)
 ·subst D;rw[o];refine KL (fun i y=>0<=i/\y.2.length=Lib.countByte s 46+1/\(Lib.countByte y.1 46:Int)=(Lib.countByte s 46:Int) - i/\y.1.length<=s.length) ⟨by omega,by rw[Qc1];omega,by show(Lib.countByte s 46:Int)=_;omega,oC _⟩ au au (fun p b l A t=> ?_) (fun p b _ _ _=>aO);obtain⟨N,B,U,S⟩:=t;obtain⟨m,F,O,K,T⟩:=Yp (r:=b.1) au au;have q:dA .i64 ((m:Int)+1)=((m+1:Nat):Int):=rV au;have z:dA .i64 ((m:Int)+0)=((m:Nat):Int):=by rw[Int.add_zero,eQ (k:= .i64) ve]
  rw[F];rw[aaJ,q,z];refine⟨aW rfl (cZ iR (fun _=>dC fun J V=>aW au (bW au au (aW au (dC fun H M=>aW au (eH fun _=>aO)))))),fun X f=> ?_⟩
  ·revert f;simp only[eG,dV,cO,lG,kK,bu];rw[sQ (show ¬(m:Int) < 0 by omega),qH,Lc];intro e;injection e with e
   subst e;refine⟨by omega,by simp only[Qb6];exact B,?_,?_⟩
   ·show(Lib.countByte (List.drop ((m+1:Nat):Int).toNat b.1) 46:Int)=_
    rw[DI];omega
   ·show(List.drop ((m+1:Nat):Int).toNat b.1).length<=_
    rw[Qbe];omega
 ·obtain⟨C,x,l,A,W⟩:=abz (Lib.countByte s 46) 0 s (List.replicate (((Lib.countByte s 46+1:Nat):Int)).toNat []) rfl (by rw[Qc1];omega) h;have e:G=(C,((0+Lib.countByte s 46:Nat):Int),x):=by
   have:=n;simp only[dV,AX,eG,cO,lG,kK,bu,o,aaJ]at this;have g:=l;rw[show(((Lib.countByte s 46:Nat):Int) - 0).toNat=Lib.countByte s 46 by omega]at this;have E:=this.symm.trans g;injection E
  subst e;dsimp only;have w:dA .i64 (((0+Lib.countByte s 46:Nat):Int)+1)=((0+Lib.countByte s 46+1:Nat):Int):=rV au;exact bW au au (aW au (dC fun Q d=>dC fun P j=>aW (by rw[j,w,d,Qb6];omega) aO))
def arj:aY Z:=uF Z [awE,aB5] [jS 11 (bJ (fun b=>[s0 10, s0 0, .row (pid (b 9)) 9]) (ay cI (ay cStr (l1 bF)))),jS 100007 (bJ (fun b=>[s0 3]) (l1 cI)),jS 100017 (bJ (fun b=>[s0 0, s0 10, .row (pid (b 9)) 9]) (ay cStr (ay cI (l1 bF))))] (args (ak (bz cStr) (ak (bz cStr) (ak (bz cI) (a1 (bz cI)))))) (jr (n:=66) rfl) (R1 bF) [] func162 ntmps162 eF 1 rfl (fun a=>abd (a.1)) (fun a=>some ((a.2.1=uy/\a.2.2.1=0/\a.2.2.2=(-1))/\((a.1).length<=4294967296))) (fun⟨s,p,c,n⟩ e h=>by have d:p=uy:=h.1.1;subst d;have g:c=0:=h.1.2.1;subst g;have f:n=(-1):=h.1.2.2;subst f;show _=_;kernel_rfl) (fun a=>QM (a.1)) (fun a h=>⟨amW (a.1) h.2,rfl⟩)
theorem anw (s:Str)(h:s.length<=4294967296):QM s=lI 46 s:=by
 obtain⟨e,g⟩:=aIw s h;have j:=count_le 46 s;obtain⟨f,d,i,k,c⟩:=abz (Lib.countByte s 46) 0 s (List.replicate (((Lib.countByte s 46+1:Nat):Int)).toNat []) rfl (by rw[Qc1];omega) h;unfold QM abd;simp only[nY,dV,AX,eG,cO,lG,kK,bu,qX,e,g,aaJ];rw[show(((Lib.countByte s 46:Nat):Int) - 0).toNat=Lib.countByte s 46 by omega];have b:(Bi aaS azY (Lib.countByte s 46) 0 (s,List.replicate (((Lib.countByte s 46+1:Nat):Int)).toNat []):(List UInt8×Int×List Str)⊕List Str)= .inl (f,((0+Lib.countByte s 46:Nat):Int),d):=i;refine(Qcw (fun x:(List UInt8×Int×List Str)⊕List Str=>thenS x _) b).trans ?_;rw[qX];have w:dA .i64 (((0+Lib.countByte s 46:Nat):Int)+1)=((0+Lib.countByte s 46+1:Nat):Int):=rV au;dsimp only;rw[w,DI,DI];rw[FQ]at*;rw[Qdu,Qdo]at c;rw[<-c,Qeb,Qds,Ph au];have a:(d.take (Lib.countByte s 46)).length=Lib.countByte s 46:=by rw[zC];omega
 simp only[Option.toList_some];rw[List.set_append_right _ _ au,a,Qd7];rfl
def arM (s:Str):Pg (List Str):=.ob ((uy=uy/\(0:Int)=0/\(-1)=(-1))/\List.length s<=4294967296) (.ret (QM s))
theorem ank (s:Str)(h:s.length<=4294967296):Is (arM s):=
 aW ⟨⟨rfl,rfl,rfl⟩,h⟩ aO
def UD:aY Z:=uF Z [arj] [] (args (ak (bz cStr) (a1 (bz cStr)))) (jr (n:=8) rfl) (R1 bF) [] func103 ntmps103 eF 1 rfl (fun a=>arM (a.1)) (fun a=>some ((a.2=uy)/\((a.1).length<=4294967296))) (fun⟨s,p⟩ e h=>by have b:p=uy:=h.1;subst b;show _=_;kernel_rfl) (fun a=>lI 46 (a.1)) (fun a h=>⟨ank (a.1) h.2,anw (a.1) h.2⟩)
def aAM (s:Str):Pg Bool:=.ob ([46]=uy/\List.length s<=4294967296) (.as ((lI 46 s).length<=9223372036854775807) (.each false um (lI 46 s) [] (fun a c (b:Unit)=> .ix a (lI 46 s).length (.br (!aa5 c) (.ret (.inr false)) (rl ()))) (fun a (b:Unit)=> .ret (decide ((↑(List.length s):Int)<=120))) ()))
def ahC (s:Str):=(aAM s).val
def Zm:aY Z:=E1 [QO,UD] [jS 2 (bJ (fun b=>[s0 8]) (l1 cI))] (a1 (bz cStr)) (R1 aG) [] func58 1 aAM fun a=>a.length<=4294967296
def ahJ (s:Str):Pg Bool:=.br (s==[109,101,115,115,97,103,101]) (.br (s==[109,101,115,115,97,103,101]) (.ret true) (.ret false)) (.br (s==[101,110,117,109]) (.br (s==[101,110,117,109]) (.ret true) (.ret false)) (.br (s==[115,101,114,118,105,99,101]) (.br (s==[115,101,114,118,105,99,101]) (.ret true) (.ret false)) (.br (s==[117,110,105,111,110]) (.br (s==[117,110,105,111,110]) (.ret true) (.ret false)) (.br (s==[109,97,112]) (.br (s==[109,97,112]) (.ret true) (.ret false)) (.br (s==[108,105,115,116]) (.br (s==[108,105,115,116]) (.ret true) (.ret false)) (.br (s==[114,101,113,117,105,114,101,100]) (.br (s==[114,101,113,117,105,114,101,100]) (.ret true) (.ret false)) (.br (s==[111,112,116,105,111,110,97,108]) (.br (s==[111,112,116,105,111,110,97,108]) (.ret true) (.ret false)) (.br (s==[112,108,97,105,110]) (.br (s==[112,108,97,105,110]) (.ret true) (.ret false)) (.br (s==[100,101,102,97,117,108,116]) (.br (s==[100,101,102,97,117,108,116]) (.ret true) (.ret false)) (.br (s==[114,101,115,101,114,118,101,100]) (.br (s==[114,101,115,101,114,118,101,100]) (.ret true) (.ret false)) (.br (s==[105,109,112,111,114,116]) (.br (s==[105,109,112,111,114,116]) (.ret true) (.ret false)) (.br (s==[115,112,97,99,101]) (.br (s==[115,112,97,99,101]) (.ret true) (.ret false)) (.br (s==[114,112,99]) (.br (s==[114,112,99]) (.ret true) (.ret false)) (.br (s==[115,116,114,101,97,109]) (.br (s==[115,116,114,101,97,109]) (.ret true) (.ret false)) (.br (s==[114,101,116,117,114,110,115]) (.br (s==[114,101,116,117,114,110,115]) (.ret true) (.ret false)) (.br (s==[111,112,101,110]) (.br (s==[111,112,101,110]) (.ret true) (.ret false)) (.br (s==[116,114,117,101]) (.br (s==[116,114,117,101]) (.ret true) (.ret false)) (.br (s==[102,97,108,115,101]) (.br (s==[102,97,108,115,101]) (.ret true) (.ret false)) (.br (s==[110,97,110]) (.br (s==[110,97,110]) (.ret true) (.ret false)) (.br (s==[105,110,102]) (.ret true) (.ret false)))))))))))))))))))))
def ai0 (s:Str):=(ahJ s).val
theorem anH (s:Str):Is (ahJ s):=
 aT (fun _=>aT iR iR) (fun _=>aT (fun _=>aT iR iR) (fun _=>aT (fun _=>aT iR iR) (fun _=>aT (fun _=>aT iR iR) (fun _=>aT (fun _=>aT iR iR) (fun _=>aT (fun _=>aT iR iR) (fun _=>aT (fun _=>aT iR iR) (fun _=>aT (fun _=>aT iR iR) (fun _=>aT (fun _=>aT iR iR) (fun _=>aT (fun _=>aT iR iR) (fun _=>aT (fun _=>aT iR iR) (fun _=>aT (fun _=>aT iR iR) (fun _=>aT (fun _=>aT iR iR) (fun _=>aT (fun _=>aT iR iR) (fun _=>aT (fun _=>aT iR iR) (fun _=>aT (fun _=>aT iR iR) (fun _=>aT (fun _=>aT iR iR) (fun _=>aT (fun _=>aT iR iR) (fun _=>aT (fun _=>aT iR iR) (fun _=>aT (fun _=>aT iR iR) (fun _=>aT iR iR))))))))))))))))))))
def ac8:aY Z:=E0 [] [] (a1 (bz cStr)) (R1 aG) [] func81 1 ahJ fun a=>anH a
def Qo (a:Str):Pg (List UInt8×List UInt8):=.lt (dA .i64 ((↑(List.length a):Int) - 1)) fun d=> .wh (a.length+1) default (fun(b:Int)=> .br (decide (0<=b)) (.ix b (List.length a) (.br ((↑(List.getD a b.toNat 0).toNat:Int)==46) (.ob ((0:Int)<=0/\0<=b/\b<=(↑(List.length a):Int)) (.lt (dA .i64 (b+1)) fun c=> .ob (0<=c/\c<=(↑(List.length a):Int)/\(↑(List.length a):Int)<=(↑(List.length a):Int)) (.ret (.inr (List.take b.toNat a,List.drop c.toNat (List.take (List.length a) a)))))) (rl (dA .i64 (b - 1))))) (.ret (.inr ([],a)))) d
def RN (a:Str):=(Qo a).val
theorem agP (a:Str)(h:a.length<=9223372036854775807):Is (Qo a):=
 by
 refine l9 fun l c g=>Jo (fun x=> -1<=x/\x < a.length) (fun x=>(x+1).toNat) au au (fun x j=>⟨cZ (fun _=>bW au au (dM (fun _=>aW au (l9 fun f d m=>aW au (aO))) iR)) iR,fun i b=> ?_⟩);revert b;simp only[lG,cO,dV,eG,bu,Qbu,WL];have w:0<=x->dA .i64 (x - 1)=x - 1:=fun _=>eQ (k:= .i64) ve
 (repeat' split)<;>intro e<;>cases e<;>rw[w au]<;>omega
def am5:aY Z:=E1 [] [jS 2 (bJ (fun b=>[s0 4]) (l1 cI))] (a1 (bz cStr)) (shr [s0 0, s0 1] (ay cStr (l1 cStr))) [] func80 2 Qo (fun a=>a.length<=9223372036854775807) fun a h=>agP a h
def atG (l:List Str)(s:Str):Pg Bool:=.each true um l [] (fun a c (b:Unit)=> .ix a l.length (.br (c==s) (.ret (.inr true)) (rl ()))) (fun a (b:Unit)=> .ret false) ()
def ao9 (l:List Str)(s:Str):=(atG l s).val
theorem ap6 (l:List Str)(s:Str):Is (atG l s):=
 fU (.inl rfl) (fun b a _ _=>bW au au (aT iR iR)) (fun a _=>aO)
def ajH:aY Z:=E0 [] [jS 2 (bJ (fun b=>[s0 5]) (l1 cI))] (ak (bz bF) (a1 (bz cStr))) (R1 aG) [] func37 1 (u2 atG) fun a=>ap6 a.1 a.2
def aDs (k:Int):Pg Bool:=.br (decide (1<=k)) (.ret (decide (k<=9))) (.ret false)
def aHU (k:Int):=(aDs k).val
theorem axp (k:Int):Is (aDs k):=
 cZ iR iR
def aEU:aY Z:=E0 [] [] (a1 (bz cI)) (R1 aG) [] func137 1 aDs fun a=>axp a
def Z_ (k:Int):Pg Bool:=.br (k==7) (.ret true) (.ret (k==8))
def auc (k:Int):=(Z_ k).val
theorem agp (k:Int):Is (Z_ k):=
 dM iR iR
def al1:aY Z:=E0 [] [] (a1 (bz cI)) (R1 aG) [] func139 1 Z_ fun a=>agp a
def afM (v:af):Pg Bool:=.br ((↑v.List.length:Int)==0) (.br ((↑v.Pairs.length:Int)==0) (.br ((↑v.Slots.length:Int)==0) (.ret ((↑v.bT.length:Int)==0)) (.ret false)) (.ret false)) (.ret false)
def awS (v:af):=(afM v).val
theorem alZ (v:af):Is (afM v):=
 dM (fun _=>dM (fun _=>dM iR iR) iR) iR
def apW:aY Z:=E0 [] [] (a1 (aI aK)) (R1 aG) [] func138 1 afM fun a=>alZ a
def agZ (k:Int)(v:af):Pg Bool:=.br (!aHU k) (.ret false) (.br (v.Kind !=k) (.ret false) (.br (!awS v.re) (.ret false) (.br (auc k) (.br (v.Bits==0) (.br (decide ((↑(List.length v.Text):Int)<=4096)) (.br (k==8) (.ret true) (.ob (List.length v.Text<=9223372036854775700) (.ret (ajf v.Text)))) (.ret false)) (.ret false)) (.br (v.Text !=[]) (.ret false) (.br (k==1) (.ret (decide (v.Bits<=1))) (.br (k==2) (.lt (dA .i64 v.Bits) fun a=> .br (decide ((-2147483648)<=a)) (.ret (decide (a<=2147483647))) (.ret false)) (.br (k==4) (.ret (decide (v.Bits < 4294967296))) (.br (k==9) (.ret (decide (v.Bits < 2147483648))) (.ret true)))))))))
def ai6 (k:Int)(v:af):=(agZ k v).val
theorem anF (k:Int)(v:af):Is (agZ k v):=
 aT iR (fun _=>eX iR (fun _=>aT iR (fun _=>aT (fun _=>dM (fun _=>cZ (fun _=>dM iR (fun _=>aW qas (aO))) iR) iR) (fun _=>aT iR (fun _=>dM iR (fun _=>dM (fun _=>l9 fun b a _=>cZ iR iR) (fun _=>dM iR (fun _=>dM iR iR))))))))
def adK:aY Z:=E0 [adC,aEU,apW,al1] [] (ak (bz cI) (a1 (aI aK))) (R1 aG) [] func85 1 (u2 agZ) fun a=>anF a.1 a.2
def aau (b:Int):Pg Int:=.ob ((9223372036854775808:Int)≠0) (.br (decide (9218868437227405312 < b.tmod 9223372036854775808)) (.ret 0) (.br (b.tmod (9223372036854775808:Int)==9218868437227405312) (.ret 1) (.br (b.tmod (9223372036854775808:Int)==0) (.ret 2) (.br (decide (b.tmod (9223372036854775808:Int) < 4503599627370496)) (.ret 3) (.ret 4)))))
def auL (b:Int):=(aau b).val
theorem afB (b:Int):Is (aau b):=
 aW au (cZ iR (fun _=>dM iR (fun _=>dM iR (fun _=>cZ iR iR))))
def anD:aY Z:=E0 [] [] (a1 (bz (gq .u64))) (R1 cI) [] func140 1 aau fun a=>afB a
def agH (v:af):Pg af:=.br (v.Kind==6) (.br (auL v.Bits==0) (.ret (af.mk v.Kind 9221120237041090560 v.Text v.List v.Pairs v.Slots v.bT)) (.ret v.re)) (.ret v.re)
def axH (v:af):=(agH v).val
theorem am7 (v:af):Is (agH v):=
 dM (fun _=>dM iR iR) iR
def apj:aY Z:=E0 [anD] [] (a1 (aI aK)) (shr [.slot 0 true (nn 7)] (l1 aK)) [] func86 1 agH fun a=>am7 a
def aii (a:Str):Pg Int:=.cut (fun(c:Bool)=> .br c (.ret 1) (.cut (fun(b:Bool)=> .br b (.ret 7) (.cut (fun(d:Bool)=> .br d (.ret 4) (.br (a==[109,105,110]) (.br (a==[109,105,110]) (.ret 3) (.ret 0)) (.br (a==[109,97,120]) (.ret 3) (.ret 0)))) (.br (a==[115,105,110,99,101]) (rl (a==[115,105,110,99,101])) (.br (a==[117,110,116,105,108]) (rl (a==[117,110,116,105,108])) (.br (a==[108,101,110,103,116,104]) (rl (a==[108,101,110,103,116,104])) (rl (a==[116,105,109,101,111,117,116]))))))) (.br (a==[100,111,99]) (rl (a==[100,111,99])) (.br (a==[97,108,105,97,115]) (rl (a==[97,108,105,97,115])) (.br (a==[114,111,117,116,101]) (rl (a==[114,111,117,116,101])) (rl (a==[111,119,110,101,114]))))))) (.br (a==[100,101,112,114,101,99,97,116,101,100]) (rl (a==[100,101,112,114,101,99,97,116,101,100])) (.br (a==[115,101,99,114,101,116]) (rl (a==[115,101,99,114,101,116])) (rl (a==[105,100,101,109,112,111,116,101,110,116]))))
def akS (a:Str):=(aii a).val
theorem amy (a:Str):Is (aii a):=
 kL (aT iR (fun _=>aT iR iR)) (fun f c=>aT iR (fun _=>kL (aT iR (fun _=>aT iR (fun _=>aT iR iR))) (fun e d=>aT iR (fun _=>kL (aT iR (fun _=>aT iR (fun _=>aT iR iR))) (fun g b=>aT iR (fun _=>aT (fun _=>aT iR iR) (fun _=>aT iR iR)))))))
def aej:aY Z:=E0 [] [jS 100005 (bJ (fun b=>[s0 4]) (l1 aG)),jS 100010 (bJ (fun b=>[s0 8]) (l1 aG)),jS 100015 (bJ (fun b=>[s0 13]) (l1 aG))] (a1 (bz cStr)) (R1 cI) [] func141 1 aii fun a=>amy a
def ahk (b:Str)(a:Int):Pg Bool:=.cut (fun(d:Bool)=> .br d (.br (decide (1<=a)) (.ret (decide (a<=6))) (.ret false)) (.cut (fun(c:Bool)=> .br c (.br (a==2) (.ret true) (.br (a==4) (.ret true) (.ret (a==6)))) (.cut (fun(e:Bool)=> .br e (.ret (a==2)) (.br (b==[105,100,101,109,112,111,116,101,110,116]) (.br (b== [105,100,101,109,112,111,116,101,110,116]) (.ret (a==6)) (.br (a==1) (.ret true) (.ret (a==5)))) (.br (b==[116,105,109,101,111,117,116]) (.br (b==[116,105,109,101,111,117,116]) (.ret (a==6)) (.br (a==1) (.ret true) (.ret (a==5)))) (.br (b==[114,111,117,116,101]) (.ret (a==6)) (.br (a==1) (.ret true) (.ret (a==5))))))) (.br (b==[109,105,110]) (rl (b==[109,105,110])) (.br (b==[109,97,120]) (rl (b==[109,97,120])) (.br (b==[108,101,110,103,116,104]) (rl (b==[108,101,110,103,116,104])) (rl (b==[115,101,99,114,101,116]))))))) (.br (b==[97,108,105,97,115]) (rl (b==[97,108,105,97,115])) (.br (b==[115,105,110,99,101]) (rl (b==[115,105,110,99,101])) (rl (b==[117,110,116,105,108])))))) (.br (b==[100,101,112,114,101,99,97,116,101,100]) (rl (b==[100,101,112,114,101,99,97,116,101,100])) (rl (b==[100,111,99])))
def awt (b:Str)(a:Int):=(ahk b a).val
theorem anW (b:Str)(a:Int):Is (ahk b a):=
 kL (aT iR iR) (fun g d=>aT (fun _=>cZ iR iR) (fun _=>kL (aT iR (fun _=>aT iR iR)) (fun f e=>aT (fun _=>dM iR (fun _=>dM iR iR)) (fun _=>kL (aT iR (fun _=>aT iR (fun _=>aT iR iR))) (fun h c=>aT iR (fun _=>aT (fun _=>aT iR (fun _=>dM iR iR)) (fun _=>aT (fun _=>aT iR (fun _=>dM iR iR)) (fun _=>aT iR (fun _=>dM iR iR)))))))))
def aqP:aY Z:=E0 [] [jS 100004 (bJ (fun b=>[s0 6]) (l1 aG)),jS 100008 (bJ (fun b=>[s0 15]) (l1 aG)),jS 100013 (bJ (fun b=>[s0 29]) (l1 aG))] (ak (bz cStr) (a1 (bz cI))) (R1 aG) [] func142 1 (u2 ahk) fun a=>anW a.1 a.2
def Y_ (n:Note):Pg Bool:=.lt (akS n.Name) fun a=> .br (a !=0) (.br (n.Val.Kind==a) (.ret (ai6 a n.Val.re)) (.ret false)) (.ret false)
def auR (n:Note):=(Y_ n).val
theorem afV (n:Note):Is (Y_ n):=
 dC fun b a=>eX (fun _=>dM iR iR) iR
def amb:aY Z:=E0 [adK,aej] [] (a1 (aI A8)) (R1 aG) [] func143 1 Y_ fun a=>afV a
def Y9 (l:List Note)(c:Int):Pg Int:=.br (decide (8 < (↑l.length:Int))) (.ret 3) (.each true um l Be (fun a b (e:Unit)=> .ix a l.length (.br (akS b.Name==0) (.ret (.inr 8)) (.ix a l.length (.br (!awt b.Name c) (.ret (.inr 1)) (.ix a l.length (.br (!auR (Note.mk b.Name b.Val.re)) (.ret (.inr 12)) (.lt (dA .i64 (a - 1)) fun d=> .cut (fun(f:Unit)=> .br (decide (0 < a)) (.ix a l.length (.ix d l.length (.br (b.Name==(l.getD d.toNat Be).Name) (.ret (.inr 9)) (rl ())))) (rl ())) (.br (decide (0 < a)) (.ix a l.length (.ix d l.length (.br (Op.bytesLess b.Name (l.getD d.toNat Be).Name) (.ret (.inr (.inr 11))) (rl ())))) (rl ()))))))))) (fun a (e:Unit)=> .ret 0) ())
def apl (l:List Note)(a:Int):=(Y9 l a).val
theorem afY (l:List Note)(a:Int):Is (Y9 l a):=
 cZ iR (fun _=>fU (.inl rfl) (fun g b _ _=>bW au au (dM iR (fun _=>bW au au (aT iR (fun _=>bW au au (aT iR (fun _=>l9 fun e d _=>kL (cZ (fun _=>bW au au (bW au au (aT iR iR))) iR) (fun f c=>cZ (fun _=>bW au au (bW au au (aT iR iR))) iR)))))))) (fun b _=>aO))
def am2:aY Z:=E0 [aej,aqP,amb] [jS 4 (bJ (fun b=>[s0 5]) (l1 cI)),jS 100014 (bJ (fun b=>[]) l0)] (ak (bz kQ) (a1 (bz cI))) (R1 cI) [] func87 1 (u2 Y9) fun a=>afY a.1 a.2
theorem ad6 (s:Str)(h:s.length<=9223372036854775807):(RN s).1.length<=s.length:=by
 unfold RN Qo;simp only[dV,Q7,cO,lG,eG,bu];have w0:dA .i64 ((s.length:Int) - 1)=(s.length:Int) - 1:=eQ (k:= .i64) ve;rw[w0];refine Ed (fun(x:Int)=> -1<=x/\x < s.length) (fun(x:Int)=>(x+1).toNat) (fun(r:Str×Str)=>r.1.length<=s.length) (fun x b=> ?_) _ _ au au;by_cases a:0<=x
 ·simp only[a,decide_true,AC];cases((s.getD x.toNat 0).toNat:Int)==46 with
  | true=>exact .inr ⟨_,rfl,by simp[zC];omega⟩
  | false=>exact .inl ⟨_,rfl,by rw[eQ (k:= .i64) ve];omega,by rw[eQ (k:= .i64) ve];omega⟩
 ·simp only[a,decide_false,qH];exact .inr ⟨_,rfl,by simp⟩
def Vt (s:Str):Pg Bool:=.br (!azh s) (.ret false) (.cnt oG 0 120 (fun c (a:List UInt8)=> .br (a !=[]) (.ob (a.length<=9223372036854775807) (.lt (RN a) fun b=> .br (ai0 b.2) (.ret (.inr false)) (rl b.1))) (.ret (.inr true))) (fun c (a:List UInt8)=> .ret true) s)
def MO (s:Str):=(Vt s).val
theorem adt (s:Str)(h:s.length<=9223372036854775807):Is (Vt s):=
 by
 refine aT iR (fun _=>KL (fun _ y=>y.length<=9223372036854775807) h au au (fun d b _ _ c=>⟨aT (fun _=>aW c (dC fun g f=>aT iR iR)) iR,fun i a=> ?_⟩) (fun d b _ _ _=>aO));revert a;simp only[cO,eG,dV,bu,Qbu];have:=ad6 b c;(repeat' split)<;>intro e<;>cases e<;>omega
def GY:aY Z:=E1 [ar8,am5,ac8] [jS 4 (bJ (fun b=>[s0 3, s0 0]) (ay cI (l1 cStr)))] (a1 (bz cStr)) (R1 aG) [] func39 1 Vt (fun a=>a.length<=9223372036854775807) fun a h=>adt a h
def ah4 (s:Str):Pg Bool:=.br (P6 s) (.ret !ai0 s) (.ret false)
def QL (s:Str):=(ah4 s).val
theorem amr (s:Str):Is (ah4 s):=
 aT iR iR
def KA:aY Z:=E0 [ac8,aec] [] (a1 (bz cStr)) (R1 aG) [] func40 1 ah4 fun a=>amr a
def afJ (a:af)(b:af):Pg Bool:=.br (a.Kind==b.Kind) (.br (a.Bits==b.Bits) (.br (a.Text==b.Text) (aL a.List (aL a.Pairs (aL a.Slots (aL a.bT (aL b.List (aL b.Pairs (aL b.Slots (aL b.bT (.ret (dA .i64 (dA .i64 (dA .i64 (dA .i64 (dA .i64 (dA .i64 (dA .i64 ((↑a.List.length:Int)+(↑a.Pairs.length:Int))+(↑a.Slots.length:Int))+ (↑a.bT.length:Int))+ (↑b.List.length:Int))+ (↑b.Pairs.length:Int))+ (↑b.Slots.length:Int))+ (↑b.bT.length:Int))== 0)))))))))) (.ret false)) (.ret false)) (.ret false)
def aj7 (a:af)(b:af):=(afJ a b).val
theorem anj (a:af)(b:af):Is (afJ a b):=
 dM (fun _=>dM (fun _=>aT (fun _=>eH fun _=>eH fun _=>eH fun _=>eH fun _=>eH fun _=>eH fun _=>eH fun _=>eH fun _=>aO) iR) iR) iR
def asC:aY Z:=E0 [] [] (ak (aI aK) (a1 (aI aK))) (R1 aG) [] func84 1 (u2 afJ) fun a=>anj a.1 a.2
def sIs (k:Int):Pg Bool:=.br (decide (1<=k)) (.ret (decide (k<=9))) (.ret false)
def iy (k:Int):=(sIs k).val
def F8:aY Z:=E0 [] [] (a1 (bz cI)) (R1 aG) [] func264 1 sIs
def ar_ (k:Int):Pg Bool:=.br (k==7) (.ret true) (.ret (k==8))
def akj (k:Int):=(ar_ k).val
def acO:aY Z:=E0 [] [] (a1 (bz cI)) (R1 aG) [] func265 1 ar_
def az6 (v:af):Pg Bool:=aL v.List (aL v.Pairs (aL v.Slots (aL v.bT (.lt (dA .i64 (dA .i64 (dA .i64 ((↑v.List.length:Int)+(↑v.Pairs.length:Int))+(↑v.Slots.length:Int))+(↑v.bT.length:Int))) fun a=> .br (decide (0 < a)) (.ret false) (.br (akj v.Kind) (.ret (v.Bits==0)) (.ret (v.Text==[])))))))
def asu (v:af):=(az6 v).val
def ajm:aY Z:=E0 [acO] [] (a1 (aI aK)) (R1 aG) [] func374 1 az6
def akp (k:Int)(b:Int):Pg Bool:=.br (k==1) (.ret (decide (b<=1))) (.br (k==2) (.lt (dA .i64 b) fun a=> .br (decide ((-2147483648)<=a)) (.ret (decide (a<=2147483647))) (.ret false)) (.br (k==9) (.ret (decide (b<=2147483647))) (.br (k==4) (.ret (decide (b<=4294967295))) (.ret true))))
def aum (k:Int)(b:Int):=(akp k b).val
def alV:aY Z:=E0 [] [] (ak (bz cI) (a1 (bz (gq .u64)))) (R1 aG) [] func375 1 (u2 akp)
def az2 (k:Int)(v:af):Pg Bool:=.br (!iy k) (.ret false) (.br (v.Kind !=k) (.ret false) (.br (!asu v.re) (.ret false) (.br (!aum k v.Bits) (.ret false) (.br (decide (4096 < (↑(List.length v.Text):Int))) (.ret false) (.br (k !=7) (.ret true) (.ob (List.length v.Text<=9223372036854775700) (.ret (EK v.Text))))))))
def TU (k:Int)(v:af):=(az2 k v).val
def QQ:aY Z:=E0 [Dz,F8,ajm,alV] [] (ak (bz cI) (a1 (aI aK))) (R1 aG) [] func281 1 (u2 az2)
def arq (b:Int):Pg Int:=.br (uQ .u64 b (9218868437227405312:Int)==9218868437227405312) (.br (uQ .u64 b (4503599627370495:Int) !=0) (.ret 0) (.br (uQ .u64 b (9218868437227405312:Int)==9218868437227405312) (.ret 1) (.br (uQ .u64 b (9218868437227405312:Int)==0) (.br (uQ .u64 b (4503599627370495:Int)==0) (.ret 2) (.br (uQ .u64 b (9218868437227405312:Int)==0) (.ret 3) (.ret 4))) (.br (uQ .u64 b (9218868437227405312:Int)==0) (.ret 3) (.ret 4))))) (.br (uQ .u64 b (9218868437227405312:Int)==9218868437227405312) (.ret 1) (.br (uQ .u64 b (9218868437227405312:Int)==0) (.br (uQ .u64 b (4503599627370495:Int)==0) (.ret 2) (.br (uQ .u64 b (9218868437227405312:Int)==0) (.ret 3) (.ret 4))) (.br (uQ .u64 b (9218868437227405312:Int)==0) (.ret 3) (.ret 4))))
def ajR (b:Int):=(arq b).val
def ace:aY Z:=E0 [] [] (a1 (bz (gq .u64))) (R1 cI) [] func369 1 arq
def akB (v:af):Pg af:=.br (v.Kind==6) (.br (ajR v.Bits==0) (.ret (af.mk v.Kind 9221120237041090560 v.Text v.List v.Pairs v.Slots v.bT)) (.ret v.re)) (.ret v.re)
def nC (v:af):=(akB v).val
def IK:aY Z:=E0 [ace] [] (a1 (aI aK)) (shr [.slot 0 true (nn 7)] (l1 aK)) [] func282 1 akB
def atm:Pg (List (Str×ik)):=.ret (rZ (rZ (rZ (rZ (rZ (rZ (rZ (rZ (rZ (rZ (rZ (rZ (rZ [] [100,101,112,114,101,99,97,116,101,100] (ik.mk 1 126)) [100,111,99] (ik.mk 7 126)) [97,108,105,97,115] (ik.mk 7 84)) [115,105,110,99,101] (ik.mk 4 84)) [117,110,116,105,108] (ik.mk 4 84)) [109,105,110] (ik.mk 3 4)) [109,97,120] (ik.mk 3 4)) [108,101,110,103,116,104] (ik.mk 4 4)) [115,101,99,114,101,116] (ik.mk 1 4)) [105,100,101,109,112,111,116,101,110,116] (ik.mk 1 64)) [116,105,109,101,111,117,116] (ik.mk 4 64)) [114,111,117,116,101] (ik.mk 7 64)) [111,119,110,101,114] (ik.mk 7 34))
def abS:List (Str×ik):=(atm).val
def adb:aY Z:=E0 [] [] a0 (R1 yB) [] func376 1 fun a=>atm
def aBc (a:Str):Pg Int:=.ret (zO oO.z abS a).kind
def aE8 (a:Str):=(aBc a).val
def ayw:aY Z:=E0 [adb] [] (a1 (bz cStr)) (R1 cI) [] func430 1 aBc
def atE (n:Note):Pg Bool:=.lt (aE8 n.Name) fun a=> .br (a !=0) (.ret (TU a n.Val.re)) (.ret false)
def aye (n:Note):=(atE n).val
def arn:aY Z:=E0 [QQ,ayw] [] (a1 (aI A8)) (R1 aG) [] func377 1 atE
def aGf (n:Note)(a:Int)(b:Str)(c:Bool):Pg Int:=.br (!(RX oO D.kC abS).has (Pv.str n.Name)) (.ret 8) (.cut (fun(d:Bool)=> .br d (.ret 1) (.br (!aye (Note.mk n.Name n.Val.re)) (.ret 12) (.br c (.br (Op.bytesLess n.Name b) (.ret 11) (.br c (.br (n.Name==b) (.ret 9) (.ret 0)) (.ret 0))) (.br c (.br (n.Name==b) (.ret 9) (.ret 0)) (.ret 0))))) (.br (decide (a < 1)) (rl true) (.br (decide (6 < a)) (rl true) (.ob (0<=a) (rl (uQ .i64 (Bc .i64 (zO oO.z abS n.Name).targets a) (1:Int)==0))))))
def aGF (n:Note)(a:Int)(b:Str)(c:Bool):=(aGf n a b c).val
def aFt:aY Z:=E0 [adb,arn] [jS 100005 (bJ (fun b=>[s0 21]) (l1 aG))] (ak (aI A8) (ak (bz cI) (ak (bz cStr) (a1 (bz aG))))) (R1 cI) [] func284 1 (u4 aGf)
def aqL (l:List Note)(a:Int):Pg Int:=.br (decide (8 < (↑l.length:Int))) (.ret 3) (aL l (.each false oG l Be (fun c b (d:List UInt8)=> .ix c l.length (.lt (aGF (Note.mk b.Name b.Val.re) a d (decide (0 < c))) fun e=> .br (e !=0) (.ret (.inr e)) (rl b.Name))) (fun c (d:List UInt8)=> .ret 0) []))
def alg (l:List Note)(a:Int):=(aqL l a).val
def adJ:aY Z:=E0 [aFt] [jS 5 (bJ (fun b=>[s0 14, s0 5]) (ay cI (l1 cStr)))] (ak (bz kQ) (a1 (bz cI))) (R1 cI) [] func214 1 (u2 aqL)
end
end Go.Proofs.YtebmficbjhcohaaGreatDoor
