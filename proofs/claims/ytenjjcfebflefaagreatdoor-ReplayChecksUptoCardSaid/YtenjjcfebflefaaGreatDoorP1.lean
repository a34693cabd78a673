/- Server: the data. -/
import Derived.Test.YtenjjcfebflefaaGreatDoorProg
import Derived.Test.YtenjjcfebflefaaGreatDoorEng14
import Derived.Lib.Strings
import Derived.Lib.Slices
import Derived.Lib.Walk
import Derived.Lib.Bytealg
import Derived.Lib.Builder
import Derived.Test.YtenjjcfebflefaaGreatDoorEng17
import Derived.Test.YtenjjcfebflefaaGreatDoorEng18
namespace Go.Proofs.YtenjjcfebflefaaGreatDoor
noncomputable section
open Go.RowKit Go.Vc
open Tryz
set_option linter.unusedVariables false
set_option linter.unusedSimpArgs false
set_option maxRecDepth 100000
set_option maxHeartbeats 4000000
structure Raw where
 Num:Int
 eF:Int
 Bits:Int
 Data:Str
deriving DecidableEq
mutual
inductive af where
 | mk (Kind_:Int) (api:Int) (apk:Str) (apj:_root_.List af) (amF:_root_.List Pair) (afE:_root_.List Slot) (aIc:_root_.List Raw)
inductive Slot where
 | mk (aJU:Int) (aJm:af)
inductive Pair where
 | mk (aJT:af) (aJm:af)
end
def af.Kind (x:af):Int:=
 match x with
 | .mk a _ _ _ _ _ _=>a
def af.Bits (x:af):Int:=
 match x with
 | .mk _ a _ _ _ _ _=>a
def af.Text (x:af):Str:=
 match x with
 | .mk _ _ a _ _ _ _=>a
def af.List (x:af):_root_.List af:=
 match x with
 | .mk _ _ _ a _ _ _=>a
def af.Pairs (x:af):_root_.List Pair:=
 match x with
 | .mk _ _ _ _ a _ _=>a
def af.Slots (x:af):_root_.List Slot:=
 match x with
 | .mk _ _ _ _ _ a _=>a
def af.dH (x:af):_root_.List Raw:=
 match x with
 | .mk _ _ _ _ _ _ a=>a
def af.re (x:af):af:=af.mk x.Kind x.Bits x.Text x.List x.Pairs x.Slots x.dH
@[simp] theorem af.dn (x:af):af.re x=x:=by cases x;rfl
theorem af.eta (x:af):af.mk x.Kind x.Bits x.Text x.List x.Pairs x.Slots x.dH=x:=by cases x;rfl
def Slot.Num (x:Slot):Int:=
 match x with
 | .mk a _=>a
def Slot.Val (x:Slot):af:=
 match x with
 | .mk _ a=>a
def Slot.re (x:Slot):Slot:=Slot.mk x.Num x.Val
@[simp] theorem Slot.dn (x:Slot):Slot.re x=x:=by cases x;rfl
theorem Slot.eta (x:Slot):Slot.mk x.Num x.Val=x:=by cases x;rfl
def Pair.Key (x:Pair):af:=
 match x with
 | .mk a _=>a
def Pair.Val (x:Pair):af:=
 match x with
 | .mk _ a=>a
def Pair.re (x:Pair):Pair:=Pair.mk x.Key x.Val
@[simp] theorem Pair.dn (x:Pair):Pair.re x=x:=by cases x;rfl
theorem Pair.eta (x:Pair):Pair.mk x.Key x.Val=x:=by cases x;rfl
structure Note where
 Name:Str
 Val:af
structure dS where
 Name:Str
 In:Str
 Out:Str
 Shape:Int
 Notes:_root_.List Note
structure dQ where
 Name:Str
 Methods:_root_.List dS
 Notes:_root_.List Note
structure Item where
 Name:Str
 Num:Int
 Notes:_root_.List Note
structure ou where
 From:Int
 To:Int
deriving DecidableEq
structure gu where
 Name:Str
 Open:Bool
 Items:_root_.List Item
 Reserved:_root_.List ou
 Notes:_root_.List Note
structure DD where
 Kind:Int
 Name:Str
deriving DecidableEq
structure bu where
 Num:Int
 Name:Str
 Card:Int
 Key:Int
 di:DD
 Union:Str
 jf:Bool
 Default:af
 Notes:_root_.List Note
structure aK where
 Name:Str
 Fields:_root_.List bu
 Reserved:_root_.List ou
 Gone:_root_.List Str
 Notes:_root_.List Note
structure aF where
 Messages:_root_.List aK
 Enums:_root_.List gu
 dC:_root_.List dQ
structure Status where
 Code:Int
 Text:Str
deriving DecidableEq
structure Tape where
 Method:Str
 In:_root_.List Str
 Out:_root_.List Str
 Status:Status
deriving DecidableEq
structure Op where
 Num:Int
 Name:Str
 Alias:Str
 Card:Int
 Key:Int
 Kind:Int
 Target:Int
 Union:Int
deriving DecidableEq
structure bC where
 Name:Str
 Ops:_root_.List Op
 Zw:Int
deriving DecidableEq
structure aJ where
 aO:_root_.List bC
 Enums:_root_.List gu
structure aph where
 Method:Str
 Kind:Int
 Num:Int
 aJl:Int
deriving DecidableEq
structure jW where
 Bytes:Int
 Depth:Int
 Nodes:Int
 Text:Int
deriving DecidableEq
structure dW where
 Def:Str
 Num:Int
 Err:Int
deriving DecidableEq
structure az where
 qN:Str
 l:_root_.List dW
deriving DecidableEq
structure ak where
 qN:Str
 num:Int
 out:_root_.List dW
deriving DecidableEq
structure ah where
 Data:Str
 At:Int
 End:Int
 Depth:Int
 Nodes:Int
 Text:Int
deriving DecidableEq
structure ae where
 p:aJ
 c:ah
structure DF where
 Kind:Int
 Key:Str
 Val:Str
 Num:Int
 ou:Int
deriving DecidableEq
structure h_ where
 kind:Int
 targets:Int
deriving DecidableEq
inductive D where
 | aK (l:List aK)
 | gu (l:List gu)
 | dQ (l:List dQ)
 | str (l:List Str)
 | Tape (l:List Tape)
 | bC (l:List bC)
 | Note (l:List Note)
 | af (l:List af)
 | Pair (l:List Pair)
 | Slot (l:List Slot)
 | Raw (l:List Raw)
 | bu (l:List bu)
 | ou (l:List ou)
 | dS (l:List dS)
 | Op (l:List Op)
 | Item (l:List Item)
 | dW (l:List dW)
 | u8 (l:List Int)
 | bool (l:List Bool)
 | DF (l:List DF)
 | aB0 (l:List (List Str))
 | i64 (l:List Int)
 | apr (l:List Unit)
 | oN (l:List (Str×Bool))
 | kG (l:List (Str×h_))
def nV (d:D):Option (List (Str×Bool)):=
 match d with
 | .oN l=>some l
 | _=>none
def mi:kF D (List (Str×Bool)):=axE D.oN nV
def tu (d:D):Option (List (Str×h_)):=
 match d with
 | .kG l=>some l
 | _=>none
def Ah:kF D (List (Str×h_)):=axE D.kG tu
def PH (d:D):Option (List Unit):=
 match d with
 | .apr l=>some l
 | _=>none
def Ap (d:D):Option (List aK):=
 match d with
 | .aK l=>some l
 | _=>none
def xB:kF D (List aK):=x8 D.aK Ap []
def Nw (d:D):Option (List gu):=
 match d with
 | .gu l=>some l
 | _=>none
def Dp:kF D (List gu):=x8 D.gu Nw []
def zX (d:D):Option (List dQ):=
 match d with
 | .dQ l=>some l
 | _=>none
def AZ:kF D (List dQ):=x8 D.dQ zX []
def Uy (d:D):Option (List Str):=
 match d with
 | .str l=>some l
 | _=>none
def dI:kF D (List Str):=x8 D.str Uy []
def OX (d:D):Option (List Tape):=
 match d with
 | .Tape l=>some l
 | _=>none
def agB:kF D (List Tape):=x8 D.Tape OX []
def Nh (d:D):Option (List bC):=
 match d with
 | .bC l=>some l
 | _=>none
def Xr:kF D (List bC):=x8 D.bC Nh []
def Nq (d:D):Option (List Note):=
 match d with
 | .Note l=>some l
 | _=>none
def jE:kF D (List Note):=x8 D.Note Nq []
def NZ (d:D):Option (List af):=
 match d with
 | .af l=>some l
 | _=>none
def Dy:kF D (List af):=x8 D.af NZ []
def pO (d:D):Option (List Pair):=
 match d with
 | .Pair l=>some l
 | _=>none
def fB:kF D (List Pair):=x8 D.Pair pO []
def pM (d:D):Option (List Slot):=
 match d with
 | .Slot l=>some l
 | _=>none
def fZ:kF D (List Slot):=x8 D.Slot pM []
def sJ (d:D):Option (List Raw):=
 match d with
 | .Raw l=>some l
 | _=>none
def iH:kF D (List Raw):=x8 D.Raw sJ []
def D5 (d:D):Option (List bu):=
 match d with
 | .bu l=>some l
 | _=>none
def jI:kF D (List bu):=x8 D.bu D5 []
def OG (d:D):Option (List ou):=
 match d with
 | .ou l=>some l
 | _=>none
def pW:kF D (List ou):=x8 D.ou OG []
def Ac (d:D):Option (List dS):=
 match d with
 | .dS l=>some l
 | _=>none
def Bd:kF D (List dS):=x8 D.dS Ac []
def ad9 (d:D):Option (List Op):=
 match d with
 | .Op l=>some l
 | _=>none
def aml:kF D (List Op):=x8 D.Op ad9 []
def MG (d:D):Option (List Item):=
 match d with
 | .Item l=>some l
 | _=>none
def oD:kF D (List Item):=x8 D.Item MG []
def AY (d:D):Option (List dW):=
 match d with
 | .dW l=>some l
 | _=>none
def kZ:kF D (List dW):=x8 D.dW AY []
def adf (d:D):Option (List Int):=
 match d with
 | .u8 l=>some l
 | _=>none
def ayh:kF D (List Int):=x8 D.u8 adf []
def Ol (d:D):Option (List Bool):=
 match d with
 | .bool l=>some l
 | _=>none
def yX:kF D (List Bool):=x8 D.bool Ol []
def Qg (d:D):Option (List DF):=
 match d with
 | .DF l=>some l
 | _=>none
def XA (d:D):Option (List (List Str)):=
 match d with
 | .aB0 l=>some l
 | _=>none
def UZ (d:D):Option (List Int):=
 match d with
 | .i64 l=>some l
 | _=>none
def aBQ:kF D (List Int):=x8 D.i64 UZ []
def qM:kF D Raw:=rH (dM (gW .i64) (dM (gW .i64) (dM (gW .u64) cStr))) (fun p=>Raw.mk (p.1) (p.2.1) (p.2.2.1) (p.2.2.2)) (fun b=>(b.Num,b.eF,b.Bits,b.Data))
def aH:kF D af:=rH (dM (gW .i64) (dM (gW .u64) (dM cStr (dM Dy (dM fB (dM fZ iH)))))) (fun p=>af.mk (p.1) (p.2.1) (p.2.2.1) (p.2.2.2.1) (p.2.2.2.2.1) (p.2.2.2.2.2.1) (p.2.2.2.2.2.2)) (fun b=>(b.Kind,b.Bits,b.Text,b.List,b.Pairs,b.Slots,b.dH))
def MB:kF D Slot:=rH (dM (gW .i64) aH) (fun p=>Slot.mk (p.1) (p.2)) (fun b=>(b.Num,b.Val))
def yg:kF D Pair:=rH (dM aH aH) (fun p=>Pair.mk (p.1) (p.2)) (fun b=>(b.Key,b.Val))
def EY:kF D Note:=rH (dM cStr aH) (fun p=>Note.mk (p.1) (p.2)) (fun b=>(b.Name,b.Val))
def o_:kF D dS:=rH (dM cStr (dM cStr (dM cStr (dM (gW .i64) jE)))) (fun p=>dS.mk (p.1) (p.2.1) (p.2.2.1) (p.2.2.2.1) (p.2.2.2.2)) (fun b=>(b.Name,b.In,b.Out,b.Shape,b.Notes))
def o5:kF D dQ:=rH (dM cStr (dM Bd jE)) (fun p=>dQ.mk (p.1) (p.2.1) (p.2.2)) (fun b=>(b.Name,b.Methods,b.Notes))
def Fh:kF D Item:=rH (dM cStr (dM (gW .i64) jE)) (fun p=>Item.mk (p.1) (p.2.1) (p.2.2)) (fun b=>(b.Name,b.Num,b.Notes))
def Vm:kF D ou:=rH (dM (gW .i64) (gW .i64)) (fun p=>ou.mk (p.1) (p.2)) (fun b=>(b.From,b.To))
def o6:kF D gu:=rH (dM cStr (dM aW (dM oD (dM pW jE)))) (fun p=>gu.mk (p.1) (p.2.1) (p.2.2.1) (p.2.2.2.1) (p.2.2.2.2)) (fun b=>(b.Name,b.Open,b.Items,b.Reserved,b.Notes))
def wW:kF D DD:=rH (dM (gW .i64) cStr) (fun p=>DD.mk (p.1) (p.2)) (fun b=>(b.Kind,b.Name))
def iK:kF D bu:=rH (dM (gW .i64) (dM cStr (dM (gW .i64) (dM (gW .i64) (dM wW (dM cStr (dM aW (dM aH jE)))))))) (fun p=>bu.mk (p.1) (p.2.1) (p.2.2.1) (p.2.2.2.1) (p.2.2.2.2.1) (p.2.2.2.2.2.1) (p.2.2.2.2.2.2.1) (p.2.2.2.2.2.2.2.1) (p.2.2.2.2.2.2.2.2)) (fun b=>(b.Num,b.Name,b.Card,b.Key,b.di,b.Union,b.jf,b.Default,b.Notes))
def jq:kF D aK:=rH (dM cStr (dM jI (dM pW (dM dI jE)))) (fun p=>aK.mk (p.1) (p.2.1) (p.2.2.1) (p.2.2.2.1) (p.2.2.2.2)) (fun b=>(b.Name,b.Fields,b.Reserved,b.Gone,b.Notes))
def bV:kF D aF:=rH (dM xB (dM Dp AZ)) (fun p=>aF.mk (p.1) (p.2.1) (p.2.2)) (fun b=>(b.Messages,b.Enums,b.dC))
def Dq:kF D Status:=rH (dM (gW .i64) cStr) (fun p=>Status.mk (p.1) (p.2)) (fun b=>(b.Code,b.Text))
def Eo:kF D Tape:=rH (dM cStr (dM dI (dM dI Dq))) (fun p=>Tape.mk (p.1) (p.2.1) (p.2.2.1) (p.2.2.2)) (fun b=>(b.Method,b.In,b.Out,b.Status))
def jD:kF D Op:=rH (dM (gW .i64) (dM cStr (dM cStr (dM (gW .i64) (dM (gW .i64) (dM (gW .i64) (dM (gW .i64) (gW .i64)))))))) (fun p=>Op.mk (p.1) (p.2.1) (p.2.2.1) (p.2.2.2.1) (p.2.2.2.2.1) (p.2.2.2.2.2.1) (p.2.2.2.2.2.2.1) (p.2.2.2.2.2.2.2)) (fun b=>(b.Num,b.Name,b.Alias,b.Card,b.Key,b.Kind,b.Target,b.Union))
def jV:kF D bC:=rH (dM cStr (dM aml (gW .i64))) (fun p=>bC.mk (p.1) (p.2.1) (p.2.2)) (fun b=>(b.Name,b.Ops,b.Zw))
def dU:kF D aJ:=rH (dM Xr Dp) (fun p=>aJ.mk (p.1) (p.2)) (fun b=>(b.aO,b.Enums))
def al2:kF D aph:=rH (dM cStr (dM (gW .i64) (dM (gW .i64) (gW .i64)))) (fun p=>aph.mk (p.1) (p.2.1) (p.2.2.1) (p.2.2.2)) (fun b=>(b.Method,b.Kind,b.Num,b.aJl))
def qZ:kF D jW:=rH (dM (gW .i64) (dM (gW .i64) (dM (gW .i64) (gW .i64)))) (fun p=>jW.mk (p.1) (p.2.1) (p.2.2.1) (p.2.2.2)) (fun b=>(b.Bytes,b.Depth,b.Nodes,b.Text))
def Y2:kF D dW:=rH (dM cStr (dM (gW .i64) (gW .i64))) (fun p=>dW.mk (p.1) (p.2.1) (p.2.2)) (fun b=>(b.Def,b.Num,b.Err))
def bH:kF D az:=rH (dM cStr kZ) (fun p=>az.mk (p.1) (p.2)) (fun b=>(b.qN,b.l))
def aT:kF D ak:=rH (dM cStr (dM (gW .i64) kZ)) (fun p=>ak.mk (p.1) (p.2.1) (p.2.2)) (fun b=>(b.qN,b.num,b.out))
def aP:kF D ah:=rH (dM cStr (dM (gW .i64) (dM (gW .i64) (dM (gW .i64) (dM (gW .i64) (gW .i64)))))) (fun p=>ah.mk (p.1) (p.2.1) (p.2.2.1) (p.2.2.2.1) (p.2.2.2.2.1) (p.2.2.2.2.2)) (fun b=>(b.Data,b.At,b.End,b.Depth,b.Nodes,b.Text))
def a_:kF D ae:=rH (dM dU aP) (fun p=>ae.mk (p.1) (p.2)) (fun b=>(b.p,b.c))
def agc:kF D DF:=rH (dM (gW .i64) (dM cStr (dM cStr (dM (gW .i64) (gW .i64))))) (fun p=>DF.mk (p.1) (p.2.1) (p.2.2.1) (p.2.2.2.1) (p.2.2.2.2)) (fun b=>(b.Kind,b.Key,b.Val,b.Num,b.ou))
def Ak:Raw:=Raw.mk 0 0 0 []
instance:Inhabited Raw:=⟨Ak⟩
def l_:af:=af.mk 0 0 [] [] [] [] []
instance:Inhabited af:=⟨l_⟩
def iV:Slot:=Slot.mk 0 l_
def fH:Pair:=Pair.mk l_ l_
def qI:Note:=Note.mk [] l_
def iY:dS:=dS.mk [] [] [] 0 []
instance:Inhabited dS:=⟨iY⟩
def kJ:dQ:=dQ.mk [] [] []
def iT:Item:=Item.mk [] 0 []
def vF:ou:=ou.mk 0 0
def fF:gu:=gu.mk [] false [] [] []
def aA_:DD:=DD.mk 0 []
def aB:bu:=bu.mk 0 [] 0 0 aA_ [] false l_ []
def b_:aK:=aK.mk [] [] [] [] []
def avt:Status:=Status.mk 0 []
def KN:Tape:=Tape.mk [] [] [] avt
def vk:Op:=Op.mk 0 [] [] 0 0 0 0 0
def aU:bC:=bC.mk [] [] 0
def aDT:aJ:=aJ.mk [] []
def apY:dW:=dW.mk [] 0 0
def auN:ah:=ah.mk [] 0 0 0 0 0
def TF:ae:=ae.mk aDT auN
instance:Inhabited ae:=⟨TF⟩
instance:Inhabited ah:=⟨ah.mk [] 0 0 0 0 0⟩
def aBF:DF:=DF.mk 0 [] [] 0 0
def aiy:h_:=h_.mk 0 0
def XI:El D:=⟨aK,jq,b_,D.aK,Ap⟩
def anc:El D:=⟨gu,o6,fF,D.gu,Nw⟩
def VR:El D:=⟨dQ,o5,kJ,D.dQ,zX⟩
def awj:El D:=⟨Str,cStr,[],D.str,Uy⟩
def apc:El D:=⟨Tape,Eo,KN,D.Tape,OX⟩
def am5:El D:=⟨bC,jV,aU,D.bC,Nh⟩
def aoO:El D:=⟨Note,EY,qI,D.Note,Nq⟩
def anF:El D:=⟨af,aH,l_,D.af,NZ⟩
def am9:El D:=⟨Pair,yg,fH,D.Pair,pO⟩
def anh:El D:=⟨Slot,MB,iV,D.Slot,pM⟩
def atG:El D:=⟨Raw,qM,Ak,D.Raw,sJ⟩
def abH:El D:=⟨bu,iK,aB,D.bu,D5⟩
def ang:El D:=⟨ou,Vm,vF,D.ou,OG⟩
def Y_:El D:=⟨dS,o_,iY,D.dS,Ac⟩
def aCH:El D:=⟨Op,jD,vk,D.Op,ad9⟩
def anP:El D:=⟨Item,Fh,iT,D.Item,MG⟩
def WB:El D:=⟨dW,Y2,apY,D.dW,AY⟩
def aCA:El D:=⟨Int,(gW .u8),0,D.u8,adf⟩
def am3:El D:=⟨Bool,aW,false,D.bool,Ol⟩
def ai4:El D:=⟨DF,agc,aBF,D.DF,Qg⟩
def aor:El D:=⟨List Str,dI,[],D.aB0,XA⟩
def awP:El D:=⟨Int,(gW .i64),0,D.i64,UZ⟩
def YF:El D:=⟨Unit,aop,(),D.apr,PH⟩
def view (d:D):Vw D:=
 match d with
 | .aK l=>⟨XI,l⟩
 | .gu l=>⟨anc,l⟩
 | .dQ l=>⟨VR,l⟩
 | .str l=>⟨awj,l⟩
 | .Tape l=>⟨apc,l⟩
 | .bC l=>⟨am5,l⟩
 | .Note l=>⟨aoO,l⟩
 | .af l=>⟨anF,l⟩
 | .Pair l=>⟨am9,l⟩
 | .Slot l=>⟨anh,l⟩
 | .Raw l=>⟨atG,l⟩
 | .bu l=>⟨abH,l⟩
 | .ou l=>⟨ang,l⟩
 | .dS l=>⟨Y_,l⟩
 | .Op l=>⟨aCH,l⟩
 | .Item l=>⟨anP,l⟩
 | .dW l=>⟨WB,l⟩
 | .u8 l=>⟨aCA,l⟩
 | .bool l=>⟨am3,l⟩
 | .DF l=>⟨ai4,l⟩
 | .aB0 l=>⟨aor,l⟩
 | .i64 l=>⟨awP,l⟩
 | .apr l=>⟨YF,l⟩
 | .oN _=>⟨YF,[]⟩
 | .kG _=>⟨YF,[]⟩
def Fq:=(kvS false pvB false)
def kH:=(kvS true (aoV (pvP (pvI .i64) (pvI .i64)) (fun p=>h_.mk (p.1) (p.2)) (fun b=>(b.kind,b.targets))) aiy)
def DK (d:D):Option (Mp D):=
 match d with
 | .oN l=>some (TD Fq D.oN l)
 | .kG l=>some (TD kH D.kG l)
 | _=>none
def Jq:TypeId->Option D:=lk [(197,D.oN []),(473,D.kG [])]
def awc:List (Nat×El D):=[(71,XI),(90,anc),(74,VR),(9,awj),(31,apc),(86,am5),(143,aoO),(65,anF),(300,am9),(291,anh),(284,atG),(67,abH),(137,ang),(47,Y_),(132,aCH),(139,anP),(226,WB),(5,aCA),(4,am3),(316,ai4),(27,aor),(3,awP)]
def pI:TypeId->Option (El D):=lk awc
def rowOf (e:TypeId)(s:List UInt8):Option D:=if Nat.beq e 5 then some (D.u8 (txI s))else none
def S:Sh D:=vJ view pI (fun _=>none) rowOf DK Jq
theorem CJ (d:D)(a:List (Str×Bool))(h:nV d=some a):d=D.oN a:=by
 cases d<;>simp[nV]at h
 subst h;rfl
instance asR:dK S mi:=ao0 CJ
instance aB4:zH S (asG D.oN nV):=azv CJ
theorem FQ (d:D)(a:List (Str×h_))(h:tu d=some a):d=D.kG a:=by
 cases d<;>simp[tu]at h
 subst h;rfl
instance ajb:dK S Ah:=ao0 FQ
theorem Ej (d:D)(a:List Unit)(h:PH d=some a):d=D.apr a:=by
 cases d<;>simp[PH]at h
 subst h;rfl
theorem GR (d:D)(a:List aK)(h:Ap d=some a):d=D.aK a:=by
 cases d<;>simp[Ap]at h
 subst h;rfl
instance ayJ:dK S xB:=lu GR rfl
theorem RY (d:D)(a:List gu)(h:Nw d=some a):d=D.gu a:=by
 cases d<;>simp[Nw]at h
 subst h;rfl
instance aDh:dK S Dp:=lu RY rfl
theorem GI (d:D)(a:List dQ)(h:zX d=some a):d=D.dQ a:=by
 cases d<;>simp[zX]at h
 subst h;rfl
instance ayL:dK S AZ:=lu GI rfl
theorem Xl (d:D)(a:List Str)(h:Uy d=some a):d=D.str a:=by
 cases d<;>simp[Uy]at h
 subst h;rfl
instance amH:dK S dI:=lu Xl rfl
theorem RF (d:D)(a:List Tape)(h:OX d=some a):d=D.Tape a:=by
 cases d<;>simp[OX]at h
 subst h;rfl
instance aDm:dK S agB:=lu RF rfl
theorem RZ (d:D)(a:List bC)(h:Nh d=some a):d=D.bC a:=by
 cases d<;>simp[Nh]at h
 subst h;rfl
instance aDk:dK S Xr:=lu RZ rfl
theorem Rt (d:D)(a:List Note)(h:Nq d=some a):d=D.Note a:=by
 cases d<;>simp[Nq]at h
 subst h;rfl
instance Tt:dK S jE:=lu Rt rfl
theorem RH (d:D)(a:List af)(h:NZ d=some a):d=D.af a:=by
 cases d<;>simp[NZ]at h
 subst h;rfl
instance aDg:dK S Dy:=lu RH rfl
theorem Gu (d:D)(a:List Pair)(h:pO d=some a):d=D.Pair a:=by
 cases d<;>simp[pO]at h
 subst h;rfl
instance aDj:dK S fB:=lu Gu rfl
instance aIX {e:TypeId}:zH S (xu e D.Pair pO):=acW Gu
theorem G_ (d:D)(a:List Slot)(h:pM d=some a):d=D.Slot a:=by
 cases d<;>simp[pM]at h
 subst h;rfl
instance aDl:dK S fZ:=lu G_ rfl
instance aIY {e:TypeId}:zH S (xu e D.Slot pM):=acW G_
theorem JW (d:D)(a:List Raw)(h:sJ d=some a):d=D.Raw a:=by
 cases d<;>simp[sJ]at h
 subst h;rfl
instance aGd:dK S iH:=lu JW rfl
instance aJq {e:TypeId}:zH S (xu e D.Raw sJ):=acW JW
theorem Jo (d:D)(a:List bu)(h:D5 d=some a):d=D.bu a:=by
 cases d<;>simp[D5]at h
 subst h;rfl
instance ay3:dK S jI:=lu Jo rfl
theorem Rn (d:D)(a:List ou)(h:OG d=some a):d=D.ou a:=by
 cases d<;>simp[OG]at h
 subst h;rfl
instance Tu:dK S pW:=lu Rn rfl
theorem GN (d:D)(a:List dS)(h:Ac d=some a):d=D.dS a:=by
 cases d<;>simp[Ac]at h
 subst h;rfl
instance ayI:dK S Bd:=lu GN rfl
theorem ab4 (d:D)(a:List Op)(h:ad9 d=some a):d=D.Op a:=by
 cases d<;>simp[ad9]at h
 subst h;rfl
instance aGC:dK S aml:=lu ab4 rfl
theorem SA (d:D)(a:List Item)(h:MG d=some a):d=D.Item a:=by
 cases d<;>simp[MG]at h
 subst h;rfl
instance aDi:dK S oD:=lu SA rfl
theorem G7 (d:D)(a:List dW)(h:AY d=some a):d=D.dW a:=by
 cases d<;>simp[AY]at h
 subst h;rfl
instance ayK:dK S kZ:=lu G7 rfl
theorem abY (d:D)(a:List Int)(h:adf d=some a):d=D.u8 a:=by
 cases d<;>simp[adf]at h
 subst h;rfl
instance aGD:dK S ayh:=lu abY rfl
theorem Si (d:D)(a:List Bool)(h:Ol d=some a):d=D.bool a:=by
 cases d<;>simp[Ol]at h
 subst h;rfl
instance aDn:dK S yX:=lu Si rfl
theorem aeo (d:D)(a:List DF)(h:Qg d=some a):d=D.DF a:=by
 cases d<;>simp[Qg]at h
 subst h;rfl
theorem aiA (d:D)(a:List (List Str))(h:XA d=some a):d=D.aB0 a:=by
 cases d<;>simp[XA]at h
 subst h;rfl
theorem VK (d:D)(a:List Int)(h:UZ d=some a):d=D.i64 a:=by
 cases d<;>simp[UZ]at h
 subst h;rfl
instance aGe:dK S aBQ:=lu VK rfl
instance acr:dK S qM:=ji inferInstance fun _=>rfl
instance Zx:dK S aH:=ji inferInstance fun _=>rfl
instance ZC:dK S MB:=ji inferInstance fun _=>rfl
instance ZB:dK S yg:=ji inferInstance fun _=>rfl
instance ZA:dK S EY:=ji inferInstance fun _=>rfl
instance JI:dK S o_:=ji inferInstance fun _=>rfl
instance JJ:dK S o5:=ji inferInstance fun _=>rfl
instance Zz:dK S Fh:=ji inferInstance fun _=>rfl
instance ZE:dK S Vm:=ji inferInstance fun _=>rfl
instance Zy:dK S o6:=ji inferInstance fun _=>rfl
instance aDf:dK S wW:=ji inferInstance fun _=>rfl
instance Pn:dK S iK:=ji inferInstance fun _=>rfl
instance BI:dK S jq:=ji inferInstance fun _=>rfl
instance afF:dK S bV:=ji inferInstance fun _=>rfl
instance aB8:dK S Dq:=ji inferInstance fun _=>rfl
instance amJ:dK S Eo:=ji inferInstance fun _=>rfl
instance ayM:dK S jD:=ji inferInstance fun _=>rfl
instance amI:dK S jV:=ji inferInstance fun _=>rfl
instance aGf:dK S dU:=ji inferInstance fun _=>rfl
instance ay2:dK S al2:=ji inferInstance fun _=>rfl
instance aB7:dK S qZ:=ji inferInstance fun _=>rfl
instance aal:dK S Y2:=ji inferInstance fun _=>rfl
instance wB:dK S bH:=ji inferInstance fun _=>rfl
instance pz:dK S aT:=ji inferInstance fun _=>rfl
instance aB6:dK S aP:=ji inferInstance fun _=>rfl
instance ajj:dK S a_:=ji inferInstance fun _=>rfl
instance aja:dK S agc:=ji inferInstance fun _=>rfl
theorem aD0:ayF S view pI:=by
 refine⟨fun e E h l=> ?_,fun d l=> ?_,fun d d2 a h=> ?_,fun d=> ?_⟩
 ·have:=VQ h;simp only[awc,zN,Qbw,Qbq,or_false]at this;rcases this with⟨_,rfl⟩ | ⟨_,rfl⟩ | ⟨_,rfl⟩ | ⟨_,rfl⟩ | ⟨_,rfl⟩ | ⟨_,rfl⟩ | ⟨_,rfl⟩ | ⟨_,rfl⟩ | ⟨_,rfl⟩ | ⟨_,rfl⟩ | ⟨_,rfl⟩ | ⟨_,rfl⟩ | ⟨_,rfl⟩ | ⟨_,rfl⟩ | ⟨_,rfl⟩ | ⟨_,rfl⟩ | ⟨_,rfl⟩ | ⟨_,rfl⟩ | ⟨_,rfl⟩ | ⟨_,rfl⟩ | ⟨_,rfl⟩ | ⟨_,rfl⟩<;>rfl
 ·cases d<;>rfl
 ·cases d
  ·rw[GR d2 a h];rfl
  ·rw[RY d2 a h];rfl
  ·rw[GI d2 a h];rfl
  ·rw[Xl d2 a h];rfl
  ·rw[RF d2 a h];rfl
  ·rw[RZ d2 a h];rfl
  ·rw[Rt d2 a h];rfl
  ·rw[RH d2 a h];rfl
  ·rw[Gu d2 a h];rfl
  ·rw[G_ d2 a h];rfl
  ·rw[JW d2 a h];rfl
  ·rw[Jo d2 a h];rfl
  ·rw[Rn d2 a h];rfl
  ·rw[GN d2 a h];rfl
  ·rw[ab4 d2 a h];rfl
  ·rw[SA d2 a h];rfl
  ·rw[G7 d2 a h];rfl
  ·rw[abY d2 a h];rfl
  ·rw[Si d2 a h];rfl
  ·rw[aeo d2 a h];rfl
  ·rw[aiA d2 a h];rfl
  ·rw[VK d2 a h];rfl
  ·rw[Ej d2 a h];rfl
  ·rw[Ej d2 a h];rfl
  ·rw[Ej d2 a h];rfl
 ·cases d
  ·exact BI
  ·exact Zy
  ·exact JJ
  ·exact aek
  ·exact amJ
  ·exact amI
  ·exact ZA
  ·exact Zx
  ·exact ZB
  ·exact ZC
  ·exact acr
  ·exact Pn
  ·exact ZE
  ·exact JI
  ·exact ayM
  ·exact Zz
  ·exact aal
  ·exact(qp _)
  ·exact LY
  ·exact aja
  ·exact amH
  ·exact(qp _)
  ·exact OZ
  ·exact OZ
  ·exact OZ
theorem aEI:ayD S view pI S.Po S.text DK Jq where
 inj:=fun d l=>by cases d<;>rfl
 el:=fun e E h l=>by
  have:=VQ h;simp only[awc,zN,Qbw,Qbq,or_false]at this;rcases this with⟨_,rfl⟩ | ⟨_,rfl⟩ | ⟨_,rfl⟩ | ⟨_,rfl⟩ | ⟨_,rfl⟩ | ⟨_,rfl⟩ | ⟨_,rfl⟩ | ⟨_,rfl⟩ | ⟨_,rfl⟩ | ⟨_,rfl⟩ | ⟨_,rfl⟩ | ⟨_,rfl⟩ | ⟨_,rfl⟩ | ⟨_,rfl⟩ | ⟨_,rfl⟩ | ⟨_,rfl⟩ | ⟨_,rfl⟩ | ⟨_,rfl⟩ | ⟨_,rfl⟩ | ⟨_,rfl⟩ | ⟨_,rfl⟩ | ⟨_,rfl⟩<;>rfl
 txt:=fun e s d h=>by
  have h:rowOf e s=some d:=h;unfold rowOf at h;split at h
  ·injection h with h
   subst h;rfl
  ·cases h
 Po:=fun i d h=>by
  exact nomatch h
 size:=fun d m h=>by
  cases d<;>first
   | (cases h;done)
   | (have h2:=Qdw h;subst h2;exact⟨rfl,rfl,aoy (atL aGt) (fun _=>rfl) _⟩)
   | (have h2:=Qdw h;subst h2;exact⟨rfl,rfl,aoy (atL (atF (aGu (hc:=(ayY .i64)) (hd:=(ayY .i64))) (fun _=>rfl))) (fun _=>rfl) _⟩)
 new:=fun t d h=>by
  have:=VQ h;simp only[zN,Qbw,Qbq,or_false]at this;rcases this with⟨_,rfl⟩ | ⟨_,rfl⟩<;>exact⟨_,rfl,rfl⟩
theorem aJh:iZ S:=au1 aD0 (fun e s d h=>by
 unfold rowOf at h;split at h
 ·injection h with h
  subst h;exact⟨rfl,ae0 s,fun i _=>Ll (Lf.int .u8) (aDH s i)⟩
 ·cases h) aEI
abbrev lZ (e:Nat):Ty:=⟨4,false,1,24,[.slice none 0 0],[],some e,[],false,none,false,none⟩
abbrev dO:Value:=.slice none 0 0
abbrev kD:Value:=.int .i64 0
abbrev kC:Value:=.string ⟨#[]⟩
abbrev aak:Value:=.int .u64 0
abbrev jP (n b:Nat)(z:List Value)(f:List (Nat×Nat×Bool)):Ty:=⟨5,true,n,b,z,f,none,[],false,none,true,none⟩
abbrev aaf:List (Nat×Nat×Bool):=[(0,1,false),(1,1,false)]
abbrev arW:List (Nat×Nat×Bool):=[(0,1,false),(1,1,false),(2,1,false)]
abbrev aAt:List (Nat×Nat×Bool):=[(0,1,false),(1,1,false),(2,1,false),(3,1,false),(4,1,false)]
abbrev aF_:List (Nat×Nat×Bool):=[(0,1,false),(1,1,false),(2,1,false),(3,1,false)]
abbrev aH8:List (Nat×Nat×Bool):=[(0,1,false),(1,1,false),(2,1,false),(3,1,false),(4,1,false),(5,1,false),(6,1,false)]
def tys:List (Nat×Ty):=
 [(3,⟨23,false,1,8,[kD],[],none,[],false,none,false,none⟩),
  (4,⟨1,false,1,1,[.bool false],[],none,[],false,none,false,none⟩),
  (5,⟨24,false,1,1,[.int .u8 0],[],none,[],false,none,false,none⟩),
  (9,⟨3,false,1,16,[kC],[],none,[],false,none,false,none⟩),
  (20,⟨0,false,1,16,[.nilIface],[],none,[],false,none,false,none⟩),
  (21,⟨22,false,1,4,[.int .i32 0],[],none,[],false,none,false,none⟩),
  (22,lZ 71),
  (23,lZ 90),
  (24,lZ 74),
  (26,jP 3 72 [dO, dO, dO] arW),
  (27,lZ 9),
  (29,⟨5,true,2,24,[kD, kC],aaf,none,[2,3],false,none,true,none⟩),
  (31,jP 5 88 [kC, dO, dO, kD, kC] [(0,1,false),(1,1,false),(2,1,false),(3,2,true)]),
  (34,lZ 31),
  (35,⟨23,false,1,8,[kD],[],none,[],false,none,false,none⟩),
  (40,lZ 86),
  (42,jP 2 48 [dO, dO] aaf),
  (45,lZ 143),
  (47,jP 5 80 [kC, kC, kC, kD, dO] aAt),
  (51,lZ 65),
  (59,⟨5,true,2,24,[kD, kC],aaf,none,[2,3],false,none,true,none⟩),
  (60,⟨27,false,1,8,[aak],[],none,[],false,none,false,none⟩),
  (61,⟨4,false,1,24,[dO],[],some 300,[],true,none,false,none⟩),
  (62,lZ 291),
  (63,⟨4,false,1,24,[dO],[],some 284,[],true,none,false,none⟩),
  (65,jP 7 128 [kD, aak, kC, dO, dO, dO, dO] aH8),
  (67,jP 16 240 [kD, kC, kD, kD, kD, kC, kC, .bool false, kD, aak, kC, dO, dO, dO, dO, dO] [(0,1,false),(1,1,false),(2,1,false),(3,1,false),(4,2,true),(6,1,false),(7,1,false),(8,7,true),(15,1,false)]),
  (68,lZ 67),
  (69,lZ 137),
  (71,jP 5 112 [kC, dO, dO, dO, dO] aAt),
  (72,lZ 47),
  (74,jP 3 64 [kC, dO, dO] arW),
  (76,⟨5,true,4,40,[kC, kD, kD, kD],aF_,none,[3,2,2,2],false,none,true,none⟩),
  (84,lZ 132),
  (86,jP 3 48 [kC, dO, kD] arW),
  (88,lZ 139),
  (90,jP 5 96 [kC, .bool false, dO, dO, dO] aAt),
  (94,⟨7,false,1,8,[.nilFunc],[],none,[],false,none,false,none⟩),
  (100,⟨5,true,4,32,[kD, kD, kD, kD],aF_,none,[2,2,2,2],false,none,true,none⟩),
  (105,lZ 226),
  (112,⟨4,false,1,24,[dO],[],some 5,[],true,none,false,none⟩),
  (132,⟨5,true,8,80,[kD, kC, kC, kD, kD, kD, kD, kD],[(0,1,false),(1,1,false),(2,1,false),(3,1,false),(4,1,false),(5,1,false),(6,1,false),(7,1,false)],none,[2,3,3,2,2,2,2,2],false,none,true,none⟩),
  (137,⟨5,true,2,16,[kD, kD],aaf,none,[2,2],false,none,true,none⟩),
  (139,jP 3 48 [kC, kD, dO] arW),
  (143,jP 8 144 [kC, kD, aak, kC, dO, dO, dO, dO] [(0,1,false),(1,7,true)]),
  (149,⟨7,false,1,8,[.nilFunc],[],none,[],false,none,false,none⟩),
  (156,jP 2 40 [kC, dO] aaf),
  (160,⟨4,false,1,24,[dO],[],some 4,[],true,none,false,none⟩),
  (167,lZ 316),
  (190,⟨6,false,1,8,[.pointer none],[],none,[],false,none,false,some (192,192)⟩),
  (192,jP 3 48 [kC, kD, dO] arW),
  (193,⟨0,true,3,72,[dO, dO, dO],[],none,[],true,some (27,3),true,none⟩),
  (197,⟨0,false,1,8,[.map none],[],none,[],false,none,false,some (9,4)⟩),
  (201,⟨7,false,1,8,[.nilFunc],[],none,[],false,none,false,none⟩),
  (203,⟨7,false,1,8,[.nilFunc],[],none,[],false,none,false,none⟩),
  (208,⟨7,false,1,8,[.nilFunc],[],none,[],false,none,false,none⟩),
  (211,⟨5,true,6,56,[kC, kD, kD, kD, kD, kD],[(0,1,false),(1,1,false),(2,1,false),(3,1,false),(4,1,false),(5,1,false)],none,[3,2,2,2,2,2],false,none,true,none⟩),
  (214,⟨6,false,1,8,[.pointer none],[],none,[],false,none,false,some (216,216)⟩),
  (216,jP 8 104 [dO, dO, kC, kD, kD, kD, kD, kD] [(0,2,true),(2,6,true)]),
  (221,⟨7,false,1,8,[.nilFunc],[],none,[],false,none,false,none⟩),
  (224,⟨6,false,1,8,[.pointer none],[],none,[],false,none,false,some (156,156)⟩),
  (226,⟨5,true,3,32,[kC, kD, kD],arW,none,[3,2,2],false,none,true,none⟩),
  (229,⟨7,false,1,8,[.nilFunc],[],none,[],false,none,false,none⟩),
  (271,⟨7,false,1,8,[.nilFunc],[],none,[],false,none,false,none⟩),
  (273,⟨7,false,1,8,[.nilFunc],[],none,[],false,none,false,none⟩),
  (276,⟨27,false,1,8,[aak],[],none,[],false,none,false,none⟩),
  (284,⟨5,true,4,40,[kD, kD, aak, kC],aF_,none,[2,2,2,3],true,none,true,none⟩),
  (291,jP 8 136 [kD, kD, aak, kC, dO, dO, dO, dO] [(0,1,false),(1,7,true)]),
  (298,⟨7,false,1,8,[.nilFunc],[],none,[],false,none,false,none⟩),
  (300,⟨5,true,14,256,[kD, aak, kC, dO, dO, dO, dO, kD, aak, kC, dO, dO, dO, dO],[(0,7,true),(7,7,true)],none,[],true,none,true,none⟩),
  (316,⟨5,true,5,56,[kD, kC, kC, kD, kD],aAt,none,[2,3,3,2,2],false,none,true,none⟩),
  (337,⟨7,false,1,8,[.nilFunc],[],none,[],false,none,false,none⟩),
  (340,⟨7,false,1,8,[.nilFunc],[],none,[],false,none,false,none⟩),
  (343,⟨7,false,1,8,[.nilFunc],[],none,[],false,none,false,none⟩),
  (345,⟨7,false,1,8,[.nilFunc],[],none,[],false,none,false,none⟩),
  (355,⟨7,false,1,8,[.nilFunc],[],none,[],false,none,false,none⟩),
  (358,⟨6,false,1,8,[.pointer none],[],none,[],false,none,false,some (284,284)⟩),
  (360,⟨7,false,1,8,[.nilFunc],[],none,[],false,none,false,none⟩),
  (362,jP 1 8 [.nilFunc] [(0,1,false)]),
  (370,⟨5,true,2,32,[kC, kC],aaf,none,[3,3],false,none,true,none⟩),
  (371,⟨5,true,2,32,[kC, kC],aaf,none,[3,3],false,none,true,none⟩),
  (374,⟨5,true,1,8,[kD],[(0,1,false)],none,[2],false,none,true,none⟩),
  (377,⟨5,true,2,16,[kD, kD],aaf,none,[2,2],false,none,true,none⟩),
  (379,⟨5,true,1,8,[kD],[(0,1,false)],none,[2],false,none,true,none⟩),
  (381,jP 0 0 [] []),
  (396,jP 7 128 [kD, aak, kC, dO, dO, dO, dO] aH8),
  (397,lZ 65),
  (399,lZ 300),
  (401,⟨7,false,1,8,[.nilFunc],[],none,[],false,none,false,none⟩),
  (403,jP 2 48 [dO, dO] aaf),
  (467,lZ 3),
  (471,⟨5,true,2,16,[kD, kD],aaf,none,[2,2],false,none,true,none⟩),
  (473,⟨0,false,1,8,[.map none],[],none,[],false,none,false,some (9,471)⟩),
  (496,⟨0,true,256,256,(List.replicate 256 (.bool false)),[],none,(List.replicate 256 1),false,some (4,256),true,none⟩),
  (500,⟨6,false,1,8,[.pointer none],[],none,[],false,none,false,some (496,496)⟩)]
def T:TypeId->Option Ty:=lk tys
theorem aJj:∀t a,T t=some a->eP Tryz.prog t a:=by
 intro t a h;have:=VQ h;simp only[tys,zN,Qbw,Qbq,or_false]at this;rcases this with⟨rfl,rfl⟩ | ⟨rfl,rfl⟩ | ⟨rfl,rfl⟩ | ⟨rfl,rfl⟩ | ⟨rfl,rfl⟩ | ⟨rfl,rfl⟩ | ⟨rfl,rfl⟩ | ⟨rfl,rfl⟩ | ⟨rfl,rfl⟩ | ⟨rfl,rfl⟩ | ⟨rfl,rfl⟩ | ⟨rfl,rfl⟩ | ⟨rfl,rfl⟩ | ⟨rfl,rfl⟩ | ⟨rfl,rfl⟩ | ⟨rfl,rfl⟩ | ⟨rfl,rfl⟩ | ⟨rfl,rfl⟩ | ⟨rfl,rfl⟩ | ⟨rfl,rfl⟩ | ⟨rfl,rfl⟩ | ⟨rfl,rfl⟩ | ⟨rfl,rfl⟩ | ⟨rfl,rfl⟩ | ⟨rfl,rfl⟩ | ⟨rfl,rfl⟩ | ⟨rfl,rfl⟩ | ⟨rfl,rfl⟩ | ⟨rfl,rfl⟩ | ⟨rfl,rfl⟩ | ⟨rfl,rfl⟩ | ⟨rfl,rfl⟩ | ⟨rfl,rfl⟩ | ⟨rfl,rfl⟩ | ⟨rfl,rfl⟩ | ⟨rfl,rfl⟩ | ⟨rfl,rfl⟩ | ⟨rfl,rfl⟩ | ⟨rfl,rfl⟩ | ⟨rfl,rfl⟩ | ⟨rfl,rfl⟩ | ⟨rfl,rfl⟩ | ⟨rfl,rfl⟩ | ⟨rfl,rfl⟩ | ⟨rfl,rfl⟩ | ⟨rfl,rfl⟩ | ⟨rfl,rfl⟩ | ⟨rfl,rfl⟩ | ⟨rfl,rfl⟩ | ⟨rfl,rfl⟩ | ⟨rfl,rfl⟩ | ⟨rfl,rfl⟩ | ⟨rfl,rfl⟩ | ⟨rfl,rfl⟩ | ⟨rfl,rfl⟩ | ⟨rfl,rfl⟩ | ⟨rfl,rfl⟩ | ⟨rfl,rfl⟩ | ⟨rfl,rfl⟩ | ⟨rfl,rfl⟩ | ⟨rfl,rfl⟩ | ⟨rfl,rfl⟩ | ⟨rfl,rfl⟩ | ⟨rfl,rfl⟩ | ⟨rfl,rfl⟩ | ⟨rfl,rfl⟩ | ⟨rfl,rfl⟩ | ⟨rfl,rfl⟩ | ⟨rfl,rfl⟩ | ⟨rfl,rfl⟩ | ⟨rfl,rfl⟩ | ⟨rfl,rfl⟩ | ⟨rfl,rfl⟩ | ⟨rfl,rfl⟩ | ⟨rfl,rfl⟩ | ⟨rfl,rfl⟩ | ⟨rfl,rfl⟩ | ⟨rfl,rfl⟩ | ⟨rfl,rfl⟩ | ⟨rfl,rfl⟩ | ⟨rfl,rfl⟩ | ⟨rfl,rfl⟩ | ⟨rfl,rfl⟩ | ⟨rfl,rfl⟩ | ⟨rfl,rfl⟩ | ⟨rfl,rfl⟩ | ⟨rfl,rfl⟩ | ⟨rfl,rfl⟩ | ⟨rfl,rfl⟩ | ⟨rfl,rfl⟩ | ⟨rfl,rfl⟩ | ⟨rfl,rfl⟩ | ⟨rfl,rfl⟩ | ⟨rfl,rfl⟩ | ⟨rfl,rfl⟩<;>(clear h;show _=_;kernel_rfl)
theorem mixed:Tryz.prog.follows .mixedOrders=true:=by kernel_rfl
@[reducible] noncomputable def Z:Seat D:=⟨Tryz.prog,S,T,mixed,aJj,aJh⟩
theorem aq4:fK Tryz.prog (Ug Tryz.prog fun _=>none) 56 (qP 2 16 137):=vX fO func56 ntmps56 au fO fO (fun r a=>by kernel_rfl)
theorem aCm:∃j,Tryz.prog.info? 114=some j/\j.size=2:=Qck.1 (show(Tryz.prog.info? 114).map (·.size)=some 2 by kernel_rfl)
theorem aG9:liesAt Tryz.prog Tryz.prog.depth 114 (2 / Tryz.prog.cellsOf 114) 0 114 1=true:=by kernel_rfl
set_option maxHeartbeats 1000000 in
set_option maxRecDepth 100000 in
theorem XY (b:Nat)(w:World)(d:w.cell? ⟨b,0,none⟩=some (.pointer (some ⟨b,0,none⟩))):
  Calls Tryz.prog 92 #[.pointer (some ⟨b,0,none⟩)] w fun e a=>e= .returned (.tuple #[])/\a=w:=by
 obtain⟨j,c,_⟩:=aCm
 go_enter func92,ntmps92
 go_wp2
 rw[Lib.run_neq_ptr_same w _ underlying111 c]
 go_wp2
 go_end0
 exact⟨rfl,rfl⟩
set_option maxHeartbeats 1000000 in
set_option maxRecDepth 100000 in
theorem TL (b:Nat)(w:World)(h:w.cell? ⟨b,0,none⟩=some (.pointer none))(a:w.shape? b=some (114,2))(g:w.frozen? ⟨b,0,none⟩=false):
  Calls Tryz.prog 92 #[.pointer (some ⟨b,0,none⟩)] w fun e f=>e= .returned (.tuple #[])/\f=w.setCell ⟨b,0,none⟩ (.pointer (some ⟨b,0,none⟩)):=by
 obtain⟨j,d,c⟩:=aCm
 go_enter func92,ntmps92
 go_wp2
 rw[Lib.run_to_unsafe w ⟨b,0,none⟩ underlying111 underlying258 d (by rw[c];decide) a (Nat.zero_lt_succ 1)];simp only[Result.andThen];rw[Oper.upon_value]
 go_wp2
 rw[run_callFunc_extern func160 fO fO fO (e:=Extern.AbiNoEscape.same) fO];rw[Lib.run_noEscape];simp only[Result.andThen];rw[Oper.upon_value]
 go_wp2
 rw[Lib.run_from_unsafe w ⟨b,0,none⟩ underlying258 underlying111 d a aG9];simp only[Result.andThen];rw[Oper.upon_value]
 go_wp2
 go_end0
 exact⟨rfl,rfl⟩
theorem aAK {D:Type}{S:Sh D}:fK Tryz.prog S 92 (TT 114):=amg (enters_of func92 fO fO) XY TL
set_option maxHeartbeats 1000000 in
set_option maxRecDepth 100000 in
theorem V6 (s:ByteArray)(c:Int)(w:World):
  Calls Tryz.prog 180 #[.string s, .int .u8 c] w fun e a=>e= .returned (.int .i64 (Lib.indexByte s.data.toList c.toNat.toUInt8))/\a=w:=by
 go_enter func180,ntmps180
 go_wp2
 rw[run_callFunc_extern func255 fO fO fO (e:=Extern.BytealgIndexByte.indexByte) fO,Lib.run_indexByteString];simp only[Result.andThen];rw[Oper.upon_value]
 go_wp2
 go_ret
 exact⟨rfl,rfl⟩
theorem Q3 {D:Type}{S:Sh D}:fK Tryz.prog S 180 (Bl zA):=YP (enters_of func180 fO fO) V6
set_option maxHeartbeats 1000000 in
set_option maxRecDepth 100000 in
theorem count_walk (s:ByteArray)(c:UInt8)(w:World):
  Calls Tryz.prog 185 #[.string s, .string ⟨#[c]⟩] w fun e a=>e= .returned (.int .i64 (Lib.countByte s.data.toList c))/\a=w:=by
 go_enter func185,ntmps185
 go_wp2
 rw[run_callFunc_extern func259 fO fO fO (e:=Extern.BytealgCount.count) fO,Lib.run_countString];simp only[Result.andThen];rw[Oper.upon_value]
 go_wp2
 go_ret
 exact⟨rfl,rfl⟩
theorem anm {D:Type}{S:Sh D}:fK Tryz.prog S 185 (Bl Zk):=amx (enters_of func185 fO fO) count_walk
theorem amy:fK Tryz.prog (Ug Tryz.prog fun _=>none) 194 (qP 4 40 284):=vX fO func194 ntmps194 au fO fO (fun r a=>by kernel_rfl)
theorem ake:fK Tryz.prog (Ug Tryz.prog fun _=>none) 270 (qP 8 136 291):=vX fO func270 ntmps270 au fO fO (fun r a=>by kernel_rfl)
theorem akt:fK Tryz.prog (Ug Tryz.prog fun _=>none) 361 (qP 14 256 300):=vX fO func361 ntmps361 au fO fO (fun r a=>by kernel_rfl)
theorem ak7:fK Tryz.prog (Ug Tryz.prog fun _=>none) 436 (qP 7 128 65):=vX fO func436 ntmps436 au fO fO (fun r a=>by kernel_rfl)
theorem akx:fK Tryz.prog (Ug Tryz.prog fun _=>none) 531 (qP 16 240 67):=vX fO func531 ntmps531 au fO fO (fun r a=>by kernel_rfl)
def Rj:bT Z:=⟨180,Bl zA,Q3⟩
def aAp:bT Z:=⟨185,Bl Zk,anm⟩
def axg:List (Nat×Ct U):=[(56,qP 2 16 137),(92,TT 114),(180,Bl zA),(185,Bl Zk),(194,qP 4 40 284),(270,qP 8 136 291),(361,qP 14 256 300),(436,qP 7 128 65),(531,qP 16 240 67)]
theorem Wl:Tryz.prog.follows .mixedOrders=true:=by kernel_rfl
theorem aE7:∀p∈axg,fK Tryz.prog (Ug Tryz.prog fun _=>none) p.1 p.2:=Qbz.2 ⟨aq4,Qbz.2 ⟨aAK,Qbz.2 ⟨Q3,Qbz.2 ⟨anm,Qbz.2 ⟨amy,Qbz.2 ⟨ake,Qbz.2 ⟨akt,Qbz.2 ⟨ak7,Qbz.2 ⟨akx,fun _ h=>nomatch h⟩⟩⟩⟩⟩⟩⟩⟩⟩
def aHT:U:= .mk 5 [[.str [71,101,116], .str [77], .str [77], .int .i64 1, .dat (.mk 8 [])]]
def aHH:U:= .mk 8 [[.int .i64 1, .str [120], .str [], .int .i64 3, .int .i64 0, .int .i64 4, .int .i64 (-1), .int .i64 (-1)]]
def aCu:U:= .mk 8 [[.int .i64 1, .int .i64 4, .int .u64 5, .str [], .dat (.mk 7 []), .dat (.mk 14 []), .dat (.mk 8 []), .dat (.mk 4 [])]]
def avu:U:= .mk 3 [[.str [83], .dat aHT, .dat (.mk 8 [])]]
def asU:U:= .mk 3 [[.str [77], .dat aHH, .int .i64 0]]
def aH0:U:= .mk 16 [[.int .i64 1, .str [120], .int .i64 3, .int .i64 0, .int .i64 4, .str [], .str [], .bool false, .int .i64 0, .int .u64 0, .str [], .dat (.mk 7 []), .dat (.mk 14 []), .dat (.mk 8 []), .dat (.mk 4 []), .dat (.mk 8 [])]]
def atu:U:= .mk 5 [[.str [77], .dat aH0, .dat (.mk 2 []), .dat (.mk 1 []), .dat (.mk 8 [])]]
def aDb:List (Sl U):=[.one (.agg [.dat atu, .val (.slice none 0 0), .dat avu])]
def aCc:List (Bk U):=[]
def aDd:Res:=(.one (.lf (.val (.slice none 0 0))),[],[])
theorem aJg:sO (goU Tryz.prog axg 60 51) aDb aCc aDd=true:=by kernel_rfl
def as3:List (Nat×Ct U):=(51,aeu aDb aCc aDd)::axg
theorem aFO:∀p∈as3,fK Tryz.prog (Ug Tryz.prog fun _=>none) p.1 p.2:=IZ Wl E5 aE7 aJg
def aCJ:List (Sl U):=[.one (.agg [.dat asU, .val (.slice none 0 0)]), .one (.lf (.str [77])), .one (.agg [.int .i64 10, .int .u64 0, .str [], .val (.slice none 0 0), .val (.slice none 0 0), .val (.slice none 0 0), .val (.slice none 0 0)]), .one (.lf (.str [8,5])), .one (.agg [.int .i64 65536, .int .i64 16, .int .i64 4096, .int .i64 4096])]
def aCT:List (Bk U):=[]
def aCQ:Res:=(.wU [.agg [.int .i64 10, .int .u64 0, .str [], .val (.slice none 0 0), .val (.slice none 0 0), .own 0, .val (.slice none 0 0)], .lf (.int .i64 0)],[(0, .row 291 aCu)],[])
theorem aI7:sO (goU Tryz.prog as3 60 65) aCJ aCT aCQ=true:=by kernel_rfl
def auP:List (Nat×Ct U):=(65,aeu aCJ aCT aCQ)::as3
theorem aFE:∀p∈auP,fK Tryz.prog (Ug Tryz.prog fun _=>none) p.1 p.2:=IZ Wl E5 aFO aI7
def aCG:List (Sl U):=[.one (.agg [.dat asU, .val (.slice none 0 0)])]
def aCE:List (Bk U):=[]
def aCf:Res:=(.one (.lf (.int .i64 0)),[],[])
theorem aJc:sO (goU Tryz.prog auP 60 226) aCG aCE aCf=true:=by kernel_rfl
def ayl:List (Nat×Ct U):=(226,aeu aCG aCE aCf)::auP
theorem aEP:∀p∈ayl,fK Tryz.prog (Ug Tryz.prog fun _=>none) p.1 p.2:=IZ Wl E5 aFE aJc
def aCW:List (Sl U):=[.one (.agg [.dat asU, .val (.slice none 0 0)]), .one (.lf (.str [77])), .one (.agg [.int .i64 10, .int .u64 0, .str [], .dat (.mk 7 []), .dat (.mk 14 []), .dat aCu, .dat (.mk 4 [])])]
def aCi:List (Bk U):=[]
def aDc:Res:=(.wU [.lf (.str [8,5]), .lf (.int .i64 0)],[],[])
theorem aI8:sO (goU Tryz.prog ayl 60 87) aCW aCi aDc=true:=by kernel_rfl
def aym:List (Nat×Ct U):=(87,aeu aCW aCi aDc)::ayl
theorem aF1:∀p∈aym,fK Tryz.prog (Ug Tryz.prog fun _=>none) p.1 p.2:=IZ Wl E5 aEP aI8
def aCg:List (Sl U):=[.one (.agg [.dat atu, .val (.slice none 0 0), .dat avu]), .one (.agg [.str [83,47,71,101,116], .int .i64 1, .int .i64 0, .int .i64 0]), .one (.lf (.dat (.mk 1 [[.str [8,5]]])))]
def aCC:List (Bk U):=[]
def aC9:Res:=(.wU [.lf (.own 0), .agg [.int .i64 0, .str []]],[(0, .row 9 (.mk 1 [[.str [8,5]]]))],[])
theorem aI2:sO (goU Tryz.prog aym 60 45) aCg aCC aC9=true:=by kernel_rfl
def axe:List (Nat×Ct U):=(45,aeu aCg aCC aC9)::aym
theorem aE_:∀p∈axe,fK Tryz.prog (Ug Tryz.prog fun _=>none) p.1 p.2:=IZ Wl E5 aF1 aI2
def aCP:List (Sl U):=[.one (.agg [.dat atu, .val (.slice none 0 0), .dat avu]), .one (.agg [.str [83,47,71,101,116], .dat (.mk 1 [[.str [8,5]]]), .dat (.mk 1 [[.str [8,5]]]), .int .i64 0, .str []])]
def aC_:List (Bk U):=[]
def aCk:Res:=(.one (.lf (.int .i64 0)),[],[])
theorem aJa:sO (goU Tryz.prog axe 60 6) aCP aC_ aCk=true:=by kernel_rfl
def aCq:List (Nat×Ct U):=(6,aeu aCP aC_ aCk)::axe
theorem aD9:∀p∈aCq,fK Tryz.prog (Ug Tryz.prog fun _=>none) p.1 p.2:=IZ Wl E5 aE_ aJa
theorem avG:sO (goU Tryz.prog aCq 60 8) [] [] (.one (.lf (.bool true)),[],[])=true:=by kernel_rfl
def aBd:bT Z:=⟨8,ctB D true,aEj rfl (aoI Wl E5 aD9 (Jv avG)) (Wv avG) rfl⟩
theorem X7 {A:Type}{c:A->A->Bool}(d:zT c){l m:List A}(h:qO c l m):l.Perm m:=by
 haveI:DecidableEq A:=fun a b=>Classical.propDecidable (a=b)
 refine List.perm_iff_count.2 fun a=> ?_;have e:∀n:List A,n.count a=(n.filter (BB c a)).count a:=fun n=>(List.count_filter (d.rfl' a)).symm
 rw[e l,e m,h a]
def akm (x:Int):Pg Bool:=.ret (x !=x)
def adG (x:Int):=(akm x).val
def au2:bT Z:=E0 [] [] (a1 (df cI)) (R1 aW) [] func280 1 akm
def aD6 (x:Int)(y:Int):Pg Int:=.lt (adG y) fun a=> .br (adG x) (.br a (.ret 0) (.ret (-1))) (.br a (.ret 1) (.br (decide (x < y)) (.ret (-1)) (.br (decide (y < x)) (.ret 1) (.ret 0))))
def Jr (x:Int)(y:Int):=(aD6 x y).val
def ad6:bT Z:=E0 [au2] [] (ax (df cI) (a1 (df cI))) (R1 cI) [] func201 1 (u2 aD6)
theorem Fg (x y:Int):Jr x y=if x < y then -1 else if y < x then 1 else 0:=by
 unfold Jr aD6 adG akm;simp only[bF,aN,ay,bne_self_eq_false,Qa7,Lh,RX,if_false]
theorem Ef (x y:Int):decide (Jr x y < 0)=decide (x < y):=by
 rw[Fg];by_cases h:x < y
 ·rw[nI h];exact(jK jy).trans (jK h).symm
 ·rw[kT h,jF h];split<;>rfl
def rwC (a:Raw)(b:Raw):Pg Int:=.ret (Jr a.Num b.Num)
def Jh (a:Raw)(b:Raw):=(rwC a b).val
def Zq:bT Z:=E1 [ad6] [] (ax (aQ qM) (a1 (aQ qM))) (R1 cI) [] func200 1 (u2 rwC) fun a=>True
theorem EP:zT (ltOf Jh):=ane (fun a=>a.Num) fun a b=>Ef a.Num b.Num
def aH4 (a:Int)(b:Int)(n:Int)(l:List Raw):Pg (List Raw):=apQ Ak a b n l
theorem aAk (a:Int)(b:Int)(n:Int)(l:List Raw)(h:swQ a b n l.length):Is (aH4 a b n l):=
 aCr h
def aEY:bT Z:=E1B [Zq] [jS 1 (dh (fun b=>[s0 10, .row (pid (b 0)) 284]) (aC cI (l1 iH)))] (ax (zD 0) (ax (df cI) (ax (df cI) (ax (df cI) (a1 (zO 200 [])))))) (b1 (xu 284 D.Raw sJ)) (shr [.row 0 284] (l1 iH)) [] func511 0 (fun a=>aH4 a.1.2.1 a.1.2.2.1 a.1.2.2.2.1 a.2) (fun a=>swQ a.1.2.1 a.1.2.2.1 a.1.2.2.2.1 a.2.length) fun a h=>aAk a.1.2.1 a.1.2.2.1 a.1.2.2.2.1 a.2 h
def aG4 (a:Int)(m:Int)(b:Int)(l:List Raw):Pg (List Raw):=aFt Ak a m b l
theorem aBl (a:Int)(m:Int)(b:Int)(l:List Raw)(h:roQ a m b l.length):Is (aG4 a m b l):=
 aCZ h
def aEG:bT Z:=E1B [Zq,aEY] [jS 2 (dh (fun b=>[s0 10, s0 11, .row (pid (b 0)) 284]) (aC cI (aC cI (l1 iH))))] (ax (zD 0) (ax (df cI) (ax (df cI) (ax (df cI) (a1 (zO 200 [])))))) (b1 (xu 284 D.Raw sJ)) (shr [.row 0 284] (l1 iH)) [] func458 0 (fun a=>aG4 a.1.2.1 a.1.2.2.1 a.1.2.2.2.1 a.2) (fun a=>roQ a.1.2.1 a.1.2.2.1 a.1.2.2.2.1 a.2.length) fun a h=>aBl a.1.2.1 a.1.2.2.1 a.1.2.2.2.1 a.2 h
def aDR (a:Int)(b:Int)(l:List Raw):Pg (List Raw):=aFA Jh (fun _ _=>True) Ak a b l
def aG6 (a:Int)(b:Int)(l:List Raw):=(aDR a b l).val
theorem aAJ (a:Int)(b:Int)(l:List Raw)(h:inQ (fun _ _=>True) a b l):Is (aDR a b l):=
 aCx EP h
def aEm:bT Z:=yQ Z [Zq] [jS 1 (dh (fun b=>[s0 8, .row (pid (b 0)) 284]) (aC cI (l1 iH))),jS 4 (dh (fun b=>[s0 9, .row (pid (b 0)) 284]) (aC cI (l1 iH)))] (lH (ax (zD 0) (ax (df cI) (ax (df cI) (a1 (zO 200 []))))) (b1 (xu 284 D.Raw sJ))) (tJ (n:=53) rfl) (shr [.row 0 284] (l1 iH)) [] func367 ntmps367 fO 0 rfl (fun a=>aDR (a.1.2.1) (a.1.2.2.1) (a.2)) (fun a=>some (inQ (fun _ _=>True) (a.1.2.1) (a.1.2.2.1) (a.2))) (fun a e _=>by kernel_rfl) (fun a=>aG6 (a.1.2.1) (a.1.2.2.1) (a.2)) (fun a h=>⟨aAJ (a.1.2.1) (a.1.2.2.1) (a.2) h,rfl⟩)
def aHd (c:Int->Int->Int->List Raw->List Raw)(SB:Int->Int->Int->List Raw->Prop)(a:Int)(m:Int)(b:Int)(l:List Raw):Pg (List Raw):=az2 Jh (fun _ _=>True) Ak c SB a m b l
def SB (c:Nat)(a:Int)(m:Int)(b:Int)(l:List Raw):Prop:=Z4 Jh (fun _ _=>True) c a m b l
def apC:Nat->(Int->Int->Int->(List Raw)->(List Raw))
 | 0=>(fun _ _ _ _=>default)
 | c+1=>(fun a m b l=>(aHd ((apC c)) (SB c) a m b l).val)
def aoH (a:Int)(m:Int)(b:Int)(l:List Raw):List Raw:=(apC ((b - a).toNat+1)) a m b l
theorem NU:∀(c:Nat) (a m b:Int) (l:List Raw),SB c a m b l->mrg Jh a b l (apC c a m b l)
 | 0,_,_,_,_,h=>abW h
 | c+1,_,_,_,_,h=>(aj0 (JL:=apC c) (PE:=SB c) (d:=Ak) EP (fun _ _ _ _ h=>h) (NU c) h).2
abbrev ayz (a:Nat):=aHd ((apC a)) (SB a)
theorem ay_ (c:Nat)(a:Int)(m:Int)(b:Int)(l:List Raw)(h:SB (c+1) a m b l):Is (ayz c a m b l):=
 (aj0 EP (fun _ _ _ _ h=>h) (NU c) h).1
theorem avN:∀c,fK Z.P Z.S 368 (xK (lH (ax (zD 0) (ax (df cI) (ax (df cI) (ax (df cI) (a1 (zO 200 [])))))) (b1 (xu 284 D.Raw sJ))) (shr [.row 0 284] (l1 iH)) 0 [] (fun a=>some (SB c (a.1.2.1) (a.1.2.2.1) (a.1.2.2.2.1) (a.2))) (fun a=>(apC c) (a.1.2.1) (a.1.2.2.1) (a.1.2.2.2.1) (a.2)))
 | 0=>jU func368 fO (fun a h=>abW h)
 | c+1=>by
  have d:=avN c;exact Um [Zq,aEG,⟨368,_,d⟩] [jS 3 (dh (fun b=>[s0 10, s0 11]) (aC cI (l1 cI))),jS 9 (dh (fun b=>[s0 13, .row (pid (b 0)) 284]) (aC cI (l1 iH))),jS 15 (dh (fun b=>[s0 14, s0 15]) (aC cI (l1 cI))),jS 21 (dh (fun b=>[s0 17, .row (pid (b 0)) 284]) (aC cI (l1 iH))),jS 33 (dh (fun b=>[s0 20, s0 21]) (aC cI (l1 cI))),jS 100008 (dh (fun b=>[s0 10]) (l1 cI)),jS 100012 (dh (fun b=>[.row (pid (b 0)) 284]) (l1 iH)),jS 100020 (dh (fun b=>[s0 14]) (l1 cI)),jS 100024 (dh (fun b=>[.row (pid (b 0)) 284]) (l1 iH)),jS 100032 (dh (fun b=>[s0 20, s0 21]) (aC cI (l1 cI))),jS 100038 (dh (fun b=>[s0 20]) (l1 cI)),jS 100041 (dh (fun b=>[.row (pid (b 0)) 284]) (l1 iH)),jS 100043 (dh (fun b=>[.row (pid (b 0)) 284]) (l1 iH))] func368 ntmps368 (fun a=>ayz c a.1.2.1 a.1.2.2.1 a.1.2.2.2.1 a.2) (fun a h=>⟨ay_ c a.1.2.1 a.1.2.2.1 a.1.2.2.2.1 a.2 h,rfl⟩) (tJ (n:=220) rfl)
def aE8:bT Z:=⟨368,xK (lH (ax (zD 0) (ax (df cI) (ax (df cI) (ax (df cI) (a1 (zO 200 [])))))) (b1 (xu 284 D.Raw sJ))) (shr [.row 0 284] (l1 iH)) 0 [] (fun a=>some (Z4 Jh (fun _ _=>True) (((a.1.2.2.2.1) - (a.1.2.1)).toNat+1) (a.1.2.1) (a.1.2.2.1) (a.1.2.2.2.1) (a.2))) (fun a=>aoH (a.1.2.1) (a.1.2.2.1) (a.1.2.2.2.1) (a.2)),uM (fun n=>((avN n))) _ _ (fun a h=>⟨((a.1.2.2.2.1) - (a.1.2.1)).toNat+1,h,rfl⟩)⟩
def aEl (n:Int)(l:List Raw):Pg (List Raw):=aHe Jh (fun _ _=>True) Ak aoH n l
def aGW (n:Int)(l:List Raw):=(aEl n l).val
theorem azQ (n:Int)(l:List Raw)(h:stQ (fun _ _=>True) n l):Is (aEl n l):=
 (ajT (JL:=aoH) EP (fun a m b l h=>NU _ a m b l h) h).1
def aDv:bT Z:=E1B [Zq,aEm,aE8] [jS 2 (dh (fun b=>[s0 7, s0 8, .row (pid (b 0)) 284]) (aC cI (aC cI (l1 iH)))),jS 7 (dh (fun b=>[s0 6, .row (pid (b 0)) 284]) (aC cI (l1 iH))),jS 9 (dh (fun b=>[s0 7, s0 8, .row (pid (b 0)) 284]) (aC cI (aC cI (l1 iH)))),jS 100006 (dh (fun b=>[s0 7, .row (pid (b 0)) 284]) (aC cI (l1 iH))),jS 100013 (dh (fun b=>[s0 7, .row (pid (b 0)) 284]) (aC cI (l1 iH)))] (ax (zD 0) (ax (df cI) (a1 (zO 200 [])))) (b1 (xu 284 D.Raw sJ)) (shr [.row 0 284] (l1 iH)) [] func279 0 (fun a=>aEl a.1.2.1 a.2) (fun a=>stQ (fun _ _=>True) a.1.2.1 a.2) fun a h=>azQ a.1.2.1 a.2 h
def aFq (l:List Raw):Pg (List Raw):=.ob (stQ (fun(x b:Raw)=>True) (↑l.length:Int) l) (.lt (aGW (↑l.length:Int) l) fun a=> aL a (.ret a))
def nM (l:List Raw):=(aFq l).val
theorem aBM (l:List Raw)(h:yP (fun _ _=>True) l):Is (aFq l):=
 bM ((⟨h,rfl⟩)) (dm fun b a=>jH fun _=>aZ)
def aDy:bT Z:=E1B [Zq,aDv] [] (ax (zD 0) (a1 (zO 200 []))) (b1 (xu 284 D.Raw sJ)) (shr [.row 0 284] (l1 iH)) [] func199 0 (fun a=>aFq a.2) (fun a=>yP (fun _ _=>True) a.2) fun a h=>aBM a.2 h
theorem RP (l:List Raw)(h:yP (fun _ _=>True) l):Sorted Jh l (nM l):=
 (ajT (q:=(fun _ _=>True)) (d:=Ak) (JL:=aoH) EP (fun a m b l h=>NU _ a m b l h) ⟨h,rfl⟩).2
theorem ap8 {l:List Raw}(h:yP (fun _ _=>True) l):(nM l).Perm l:=(X7 EP (RP l h).2.1).symm
theorem aot {l:List Raw}(h:l.length<=1048576):(nM l).Perm l:=ap8 ⟨by omega,fun _ _ _ _=>trivial⟩


def byteAt (s:Str)(p:Nat):Nat:=(s.getD p 0).toNat
def Qz (s:Str)(p:Nat):Bool:=decide (p < s.length)
def mJ (s:Str)(p:Nat):Bool:=Qz s p && (decide (128<=byteAt s p) && decide (byteAt s p<=191))
def szN (a b1:Nat)(c e b d:Bool):Int:=
 if a < 128 then 1 else if 194<=a/\a<=223/\e=true then 2 else if a=224/\c=true/\160<=b1/\b1<=191/\b=true then 3
 else if a=237/\c=true/\128<=b1/\b1<=159/\b=true then 3 else if 225<=a/\a<=239/\a≠237/\e=true/\b=true then 3
 else if a=240/\c=true/\144<=b1/\b1<=191/\b=true/\d=true then 4 else if 241<=a/\a<=243/\e=true/\b=true/\d=true then 4
 else if a=244/\c=true/\128<=b1/\b1<=143/\b=true/\d=true then 4 else 0
def dcN (a b1 b d:Nat)(c e f:Bool):Nat×Nat:=
 if a < 128 then(a,1)
 else if a / 32==6 && c then(if (a % 32)*64+b1 % 64≥128 then((a % 32)*64+b1 % 64,2)else(65533,1))
 else if a / 16==14 && c && e then(if (a % 16)*4096+(b1 % 64)*64+b % 64≥2048 && Utf8.valid (((a % 16)*4096+(b1 % 64)*64+b % 64:Nat):Int)then((a % 16)*4096+(b1 % 64)*64+b % 64,3)else(65533,1))
 else if a / 8==30 && c && e && f then(if (a % 8)*262144+(b1 % 64)*4096+(b % 64)*64+d % 64≥65536 && Utf8.valid (((a % 8)*262144+(b1 % 64)*4096+(b % 64)*64+d % 64:Nat):Int)then((a % 8)*262144+(b1 % 64)*4096+(b % 64)*64+d % 64,4)else(65533,1))
 else(65533,1)
theorem UX (s:Str)(p:Nat):Utf8.decode ⟨s.toArray⟩ p=dcN (byteAt s p) (byteAt s (p+1)) (byteAt s (p+2)) (byteAt s (p+3)) (mJ s (p+1)) (mJ s (p+2)) (mJ s (p+3)):=by
 have a:∀k,((ByteArray.mk s.toArray).get! (p+k)).toNat=byteAt s (p+k):=by
  intro k;unfold byteAt;have:(ByteArray.mk s.toArray).get! (p+k)=s.getD (p+k) 0:=by
   show s.toArray[p+k]! =_
   simp[List.getD,List.getElem!_eq_getElem?_getD];rfl
  rw[this]
 have c:∀k,(decide (p+k < (ByteArray.mk s.toArray).size) && byteAt s (p+k) / 64==2)=mJ s (p+k):=by
  intro k;unfold mJ Qz;have b:(ByteArray.mk s.toArray).size=s.length:=by show s.toArray.size=_;simp
  rw[b];congr 1;rw[Qba];simp only[Vt,jA,Lh];omega
 have d:=a 0;rw[Qb]at d;unfold Utf8.decode dcN;simp only[a,c,Utf8.runeError];simp only[Qb]
theorem asv (n:Nat):Utf8.valid (n:Int)=true ↔ n < 55296\/(57344<=n/\n<=1114111):=by
 unfold Utf8.valid;simp only[Qbi,jA,Lh];omega
set_option maxHeartbeats 4000000 in
theorem aHp (c b1 e g:Nat)(f a b d:Bool)(i:a=(f && (decide (128<=b1) && decide (b1<=191))))(k:b=true->128<=e/\e<=191)(j:d=true->128<=g/\g<=191)(m:c < 256):
  (szN c b1 f a b d=0->dcN c b1 e g a b d=(65533,1)/\¬(c=239/\b1=191/\e=189/\a=true/\b=true))/\
  (szN c b1 f a b d≠0->((dcN c b1 e g a b d).1=65533->c=239/\b1=191/\e=189/\a=true/\b=true)/\((dcN c b1 e g a b d).2:Int)=szN c b1 f a b d):=by
 have l:a=true ↔ f=true/\128<=b1/\b1<=191:=by
  rw[i];simp only[jA,Lh]
 clear i;unfold szN dcN;cases a<;>cases b<;>cases d<;>cases f<;>simp only[Qeb,Qeh,RX,and_true,and_false,true_and,false_and,if_false,false_iff,true_iff,Vt,ge_iff_le,jA,asv,Lh,forall_const,not_and,not_false_eq_true,implies_true,not_true_eq_false]at l k j⊢<;>(repeat' split)<;>simp only[Qbw,ne_eq,and_true,true_and,and_false,false_and,not_false_eq_true]<;>first | trivial | omega | exact⟨fun _ i k j=>by omega,fun h=>(h trivial).elim⟩
def adc (s:Str)(p:Str):Pg Bool:=.br (decide ((↑(List.length p):Int)<=(↑(List.length s):Int))) (.ob ((0:Int)<=0/\0<=(↑(List.length p):Int)/\(↑(List.length p):Int)<=(↑(List.length s):Int)) (.as (List.length s<=9223372036854775807) (.as (List.length p<=9223372036854775807) (.as (List.length p<=9223372036854775807) (.ret (List.take (List.length p) s==p)))))) (.as (List.length s<=9223372036854775807) (.as (List.length p<=9223372036854775807) (.ret false)))
def af1 (s:Str)(p:Str):=(adc s p).val
def aqQ:bT Z:=E0 [] [] (ax (df cStr) (a1 (df cStr))) (R1 aW) [] func260 1 (u2 adc)
def alm (s:Str)(p:Str):Pg Bool:=.ret (af1 s p)
def OV (s:Str)(p:Str):=(alm s p).val
def auK:bT Z:=E0 [aqQ] [] (ax (df cStr) (a1 (df cStr))) (R1 aW) [] func187 1 (u2 alm)
def wrong (s:Str)(a:Int)(c:Int):Pg Bool:=.br (c==65533) (.ob (0<=a/\a<=(↑(List.length s):Int)/\(↑(List.length s):Int)<=(↑(List.length s):Int)) (.ret !OV (List.drop a.toNat (List.take (List.length s) s)) [239,191,189])) (.ret false)
def Yw (s:Str)(a:Int)(c:Int):=(wrong s a c).val
def azl:bT Z:=E1 [auK] [] (ax (df cStr) (ax (df cI) (a1 (df (gW .i32))))) (R1 aW) [] func112 1 (u3 wrong) fun a=>0<=a.2.1/\a.2.1<=a.1.length
def O3 (s:Str)(i:Int)(b:Int)(a:Int):Pg Bool:=.br (decide (i < (↑(List.length s):Int))) (.ix i (List.length s) (.br (decide (b<=(↑(List.getD s i.toNat 0).toNat:Int))) (.ix i (List.length s) (.as (List.length s<=9223372036854775807) (.ret (decide ((↑(List.getD s i.toNat 0).toNat:Int)<=a))))) (.as (List.length s<=9223372036854775807) (.ret false)))) (.as (List.length s<=9223372036854775807) (.ret false))
def ul (s:Str)(i:Int)(b:Int)(a:Int):=(O3 s i b a).val
theorem ahe (s:Str)(i:Int)(a:Int)(b:Int)(h:0<=i):Is (O3 s i a b):=
 bn (fun _=>dJ au au (bn (fun _=>dJ au au (jH fun _=>aZ)) (fun _=>jH fun _=>aZ))) (fun _=>jH fun _=>aZ)
def Y8:bT Z:=E1 [] [] (ax (df cStr) (ax (df cI) (ax (df (gW .u8)) (a1 (df (gW .u8)))))) (R1 aW) [] func210 1 (u4 O3) (fun a=>0<=a.2.1) fun a h=>ahe a.1 a.2.1 a.2.2.1 a.2.2.2 h
def aoJ (s:Str)(i:Int)(n:Int):Pg Bool:=.cnt Ec 0 n (fun a (c:Unit)=> .lt (bJ .i64 (i+a)) fun b=> .ob (0<=b) (.br (!ul s b 128 191) (.ret (.inr false)) (rl ()))) (fun a (c:Unit)=> .ret true) ()
def ES (s:Str)(i:Int)(n:Int):=(aoJ s i n).val
theorem awx (s:Str)(i:Int)(n:Int)(h:0<=i/\i<=s.length+1/\n<=3/\s.length<=9223372036854775700):Is (aoJ s i n):=
 Yl au au (fun a b _ _=>mO fun d c _=>bM au (aS iR iR)) (fun a b _ _=>aZ)
def aAU:bT Z:=E1 [Y8] [jS 2 (dh (fun b=>[s0 7]) (l1 cI))] (ax (df cStr) (ax (df cI) (a1 (df cI)))) (R1 aW) [] func209 1 (u3 aoJ) (fun a=>0<=a.2.1/\a.2.1<=a.1.length+1/\a.2.2<=3/\a.1.length<=9223372036854775700) fun a h=>awx a.1 a.2.1 a.2.2 h
def aoL (s:Str)(i:Int):Pg Int:=.ix i (List.length s) (.br (decide ((↑(List.getD s i.toNat 0).toNat:Int) < 128)) (.ret 1) (.lt (bJ .i64 (i+1)) fun a=> .cut (fun(f:Bool)=> .br f (.ret 2) (.lt (ES s (bJ .i64 (i+2)) 1) fun e=> .lt (bJ .i64 (i+2)) fun b=> .cut (fun(h:Bool)=> .br h (.ret 3) (.cut (fun(k:Bool)=> .br k (.ret 3) (.cut (fun(j:Bool)=> .br j (.ret 3) (.lt (ES s b 2) fun d=> .cut (fun(g:Bool)=> .br g (.ret 4) (.lt (ul s a 128 143) fun c=> .br (decide (241<=(↑(List.getD s i.toNat 0).toNat:Int))) (.br (decide ((↑(List.getD s i.toNat 0).toNat:Int)<=243)) (.ob (0<=a/\a<=(↑(List.length s):Int)+1/\(3:Int)<=3/\List.length s<=9223372036854775700) (.br (ES s a 3) (.ret 4) (.br ((↑(List.getD s i.toNat 0).toNat:Int)==244) (.ob (0<=a) (.br c (.ob (0<=b/\ b<=(↑(List.length s):Int)+1/\(2:Int)<=3/\List.length s<=9223372036854775700) (.br d (.ret 4) (.ret 0))) (.ret 0))) (.ret 0)))) (.br ((↑(List.getD s i.toNat 0).toNat:Int)==244) (.ob (0<=a) (.br c (.ob (0<=b/\ b<=(↑(List.length s):Int)+1/\(2:Int)<=3/\List.length s<=9223372036854775700) (.br d (.ret 4) (.ret 0))) (.ret 0))) (.ret 0))) (.br ((↑(List.getD s i.toNat 0).toNat:Int)==244) (.ob (0<=a) (.br c (.ob (0<=b/\ b<=(↑(List.length s):Int)+1/\(2:Int)<=3/\List.length s<=9223372036854775700) (.br d (.ret 4) (.ret 0))) (.ret 0))) (.ret 0)))) (.br ((↑(List.getD s i.toNat 0).toNat:Int)==240) (.ob (0<=a) (.br (ul s a 144 191) (.ob (0<=b/\b<=(↑(List.length s):Int)+1/\(2:Int)<=3/\List.length s<=9223372036854775700) (rl d)) (rl false))) (rl false)))) (.br (decide (225<=(↑(List.getD s i.toNat 0).toNat:Int))) (.br (decide ((↑(List.getD s i.toNat 0).toNat:Int)<=239)) (.br ((↑(List.getD s i.toNat 0).toNat:Int) !=237) (.ob (0<=a/\a<=(↑(List.length s):Int)+1/\(2:Int)<=3/\List.length s<=9223372036854775700) (rl (ES s a 2))) (rl false)) (rl false)) (rl false)))) (.br ((↑(List.getD s i.toNat 0).toNat:Int)==237) (.ob (0<=a) (.br (ul s a 128 159) (.ob (0<=b/\b<=(↑(List.length s):Int)+1/\(1:Int)<=3/\List.length s<=9223372036854775700) (rl e)) (rl false))) (rl false)))) (.br ((↑(List.getD s i.toNat 0).toNat:Int)==224) (.ob (0<=a) (.br (ul s a 160 191) (.ob (0<=b/\b<=(↑(List.length s):Int)+1/\(1:Int)<=3/\List.length s<=9223372036854775700) (rl e)) (rl false))) (rl false)))) (.br (decide (194<=(↑(List.getD s i.toNat 0).toNat:Int))) (.br (decide ((↑(List.getD s i.toNat 0).toNat:Int)<=223)) (.ob (0<=a/\a<=(↑(List.length s):Int)+1/\(1:Int)<=3/\List.length s<=9223372036854775700) (rl (ES s a 1))) (rl false)) (rl false))))
def zF (s:Str)(i:Int):=(aoL s i).val
theorem aw7 (s:Str)(i:Int)(h:0<=i/\i < s.length/\s.length<=9223372036854775700):Is (aoL s i):=
 dJ au au (bn iR (fun _=>mO fun q g _=>lK (bn (fun _=>bn (fun _=>bM au (aZ)) iR) iR) (fun p d=>aS iR (fun _=>dm fun u b=>mO fun l r _=>lK (bK (fun _=>bM au (aS (fun _=>bM au (aZ)) iR)) iR) (fun n c=>aS iR (fun _=>lK (bK (fun _=>bM au (aS (fun _=>bM au (aZ)) iR)) iR) (fun o k=>aS iR (fun _=>lK (bn (fun _=>bn (fun _=>gQ (fun _=>bM au (aZ)) iR) iR) iR) (fun w f=>aS iR (fun _=>dm fun t a=>lK (bK (fun _=>bM au (aS (fun _=>bM au (aZ)) iR)) iR) (fun m j=>aS iR (fun _=>dm fun e v=>bn (fun _=>bn (fun _=>bM au (aS iR (fun _=>bK (fun _=>bM au (aS (fun _=>bM au (aS iR iR)) iR)) iR))) (fun _=>bK (fun _=>bM au (aS (fun _=>bM au (aS iR iR)) iR)) iR)) (fun _=>bK (fun _=>bM au (aS (fun _=>bM au (aS iR iR)) iR)) iR)))))))))))))
def azN:bT Z:=E1 [aAU,Y8] [jS 100005 (dh (fun b=>[s0 12]) (l1 aW)),jS 100007 (dh (fun b=>[s0 25]) (l1 aW)),jS 100009 (dh (fun b=>[s0 40]) (l1 aW)),jS 100011 (dh (fun b=>[s0 55]) (l1 aW)),jS 100013 (dh (fun b=>[s0 72]) (l1 aW))] (ax (df cStr) (a1 (df cI))) (R1 cI) [] func133 1 (u2 aoL) (fun a=>0<=a.2/\a.2 < a.1.length/\a.1.length<=9223372036854775700) fun a h=>aw7 a.1 a.2 h
theorem Td (s:Str)(p:Nat)(a b:Nat):ul s (p:Int) (a:Int) (b:Int)=(Qz s p && (decide (a<=byteAt s p) && decide (byteAt s p<=b))):=by
 unfold ul O3 Qz byteAt;simp only[aN,dN,gm,ay,uZ,Int.ofNat_lt,Int.ofNat_le];cases decide (p < List.length s)<;>cases decide (a<=(s.getD p 0).toNat)<;>rfl
theorem afP (s:Str)(p:Nat)(h:p+3 < 9223372036854775808):ES s (p:Int) 1=mJ s p/\ES s (p:Int) 2=(mJ s p && mJ s (p+1))/\ES s (p:Int) 3=(mJ s p && (mJ s (p+1) && mJ s (p+2))):=by
 have w:∀k:Nat,k < 3->bJ .i64 ((p:Int)+(k:Int))=((p+k:Nat):Int):=fun k g=>by
  rw[bY (k:= .i64) p_];omega
 have e:∀k:Nat,k < 3->ul s (bJ .i64 ((p:Int)+(k:Int))) 128 191=mJ s (p+k):=fun k g=>by
  rw[w k g];exact Td s (p+k) 128 191
 have c:=e 0 au;have b:=e 1 au;have a:=e 2 au;unfold ES aoJ;simp only[qx,bF,bG,aN,ay];simp only[show((0:Nat):Int)=0 from rfl,show((1:Nat):Int)=1 from rfl,show((2:Nat):Int)=2 from rfl]at c b a;have j:((1:Int) - 0).toNat=0+1:=rfl;have i:((2:Int) - 0).toNat=0+1+1:=rfl;have l:((3:Int) - 0).toNat=0+1+1+1:=rfl;have d:(0:Int)+1=1:=rfl;have f:(1:Int)+1=2:=rfl;refine⟨?_,?_,?_⟩
 ·rw[j];simp only[Iw,QJ,d,f,c,b,a];cases mJ s p<;>rfl
 ·rw[i];simp only[Iw,QJ,d,f,c,b,a];cases mJ s p<;>cases mJ s (p+1)<;>rfl
 ·rw[l];simp only[Iw,QJ,d,f,c,b,a];cases mJ s p<;>cases mJ s (p+1)<;>cases mJ s (p+2)<;>rfl
set_option maxHeartbeats 4000000 in
theorem avW (s:Str)(p:Nat)(h:p+10 < 9223372036854775808):zF s (p:Int)=szN (byteAt s p) (byteAt s (p+1)) (Qz s (p+1)) (mJ s (p+1)) (mJ s (p+2)) (mJ s (p+3)):=by
 have j:bJ .i64 ((p:Int)+1)=((p+1:Nat):Int):=by rw[bY (k:= .i64) p_];omega
 have r:bJ .i64 ((p:Int)+2)=((p+2:Nat):Int):=by rw[bY (k:= .i64) p_];omega
 obtain⟨a1,a2,m⟩:=afP s (p+1) au;obtain⟨d1,d2,_⟩:=afP s (p+2) au;have c:=fun t y=>Td s (p+1) t y
 have d:=c 160 191;have b:=c 128 159;have f:=c 144 191;have e:=c 128 143;simp only[show((160:Nat):Int)=160 from rfl,show((191:Nat):Int)=191 from rfl,show((128:Nat):Int)=128 from rfl,show((159:Nat):Int)=159 from rfl,show((144:Nat):Int)=144 from rfl,show((143:Nat):Int)=143 from rfl]at d b f e;unfold zF aoL;simp only[dN,aN,bG,bF,gz,ay,j,r,a1,a2,m,d1,d2,d,b,f,e,uZ,<-byteAt.eq_1];generalize byteAt s p=a;generalize byteAt s (p+1)=b1;generalize Qz s (p+1)=w;generalize mJ s (p+1)=z;generalize mJ s (p+2)=v;generalize mJ s (p+3)=x;have o:∀n:Nat,((a:Int)==(n:Int))=decide (a=n):=fun n=>by rw[Qba];simp only[Vt,Lh];omega
 have i:∀n:Nat,((a:Int) !=(n:Int))=decide (a≠n):=fun n=>by rw[Qba];simp only[Qdd,Lh];omega
 have g:∀n:Nat,decide ((a:Int) < (n:Int))=decide (a < n):=fun n=>by congr 1;rw[eq_iff_iff];omega
 have l:∀n:Nat,decide ((a:Int)<=(n:Int))=decide (a<=n):=fun n=>by congr 1;rw[eq_iff_iff];omega
 have q:∀n:Nat,decide ((n:Int)<=(a:Int))=decide (n<=a):=fun n=>by congr 1;rw[eq_iff_iff];omega
 have u:=fun(n:Nat)=>g n
 simp only[show(128:Int)=((128:Nat):Int)from rfl,show(194:Int)=((194:Nat):Int)from rfl,show(223:Int)=((223:Nat):Int)from rfl,show(224:Int)=((224:Nat):Int)from rfl,show(237:Int)=((237:Nat):Int)from rfl,show(225:Int)=((225:Nat):Int)from rfl,
  show(239:Int)=((239:Nat):Int)from rfl,show(240:Int)=((240:Nat):Int)from rfl,show(241:Int)=((241:Nat):Int)from rfl,show(243:Int)=((243:Nat):Int)from rfl,show(244:Int)=((244:Nat):Int)from rfl,o,i,g,l,q,akS,fG,cond_true,jm]
 unfold szN;clear a1 a2 m d1 d2 j r c d b f e o i g l q u h;cases z<;>cases v<;>cases x<;>cases w<;>simp only[Qb9,Qbt,Qeh,Qeb,Bool.and_self,cond_true,jm,Bool.cond_self,Bool.cond_decide,RX,and_true,and_false,true_and,false_and,if_false,<-Bool.decide_and]<;>(repeat' split)<;>first | rfl | omega
theorem asl (s:Str)(p:Nat)(n:p<=s.length):OV (List.drop p (List.take (List.length s) s)) [239,191,189]=true ↔ byteAt s p=239/\byteAt s (p+1)=191/\byteAt s (p+2)=189/\p+2 < s.length:=by
 unfold OV alm af1 adc;simp only[ay,aN,bG,gm,JG];unfold byteAt;have f:∀k,s.getD (p+k) 0=(s.drop p).getD k 0:=fun k=>by simp[List.getD,Qc3]
 have j:=f 0;have m:=f 1;have l:=f 2;rw[Qb]at j;rw[j,m,l];have a:(s.drop p).length=s.length - p:=Qbe;generalize s.drop p=r at*;have d:∀b:UInt8,b.toNat=239 ↔ b=239:=fun b=>⟨fun h=>Qcn.1 h,fun h=>by rw[h];rfl⟩
 have e:∀b:UInt8,b.toNat=191 ↔ b=191:=fun b=>⟨fun h=>Qcn.1 h,fun h=>by rw[h];rfl⟩
 have c:∀b:UInt8,b.toNat=189 ↔ b=189:=fun b=>⟨fun h=>Qcn.1 h,fun h=>by rw[h];rfl⟩
 rw[d,e,c];rcases r with _ | ⟨x,_ | ⟨y,_ | ⟨z,r⟩⟩⟩
 ·simp[List.getD]at a⊢
 ·simp[List.getD]at a⊢
 ·simp[List.getD]at a⊢
 ·have g:p+2 < s.length:=by simp at a;omega
  simp only[zx,BP,Qcb,Qej,g,and_true,Qca,Qc];have i:decide (((0+1+1+1:Nat):Int)<=((r.length+1+1+1:Nat):Int))=true:=by simp;omega
  rw[i,cond_true,Vt];simp
theorem Xv (s:Str)(p:Nat)(w:p < s.length)(x:s.length<=9223372036854775700):
  (zF s (p:Int)=0->Yw s (p:Int) (sZ s p)=true)/\(zF s (p:Int)≠0->Yw s (p:Int) (sZ s p)=false/\(Df s p:Int)=zF s (p:Int)/\1<=Df s p/\Df s p<=4):=by
 have g:∀q,mJ s q=true->128<=byteAt s q/\byteAt s q<=191:=fun q a=>by
  unfold mJ at a;simp only[jA,Lh]at a;exact a.2
 have e:=aHp (byteAt s p) (byteAt s (p+1)) (byteAt s (p+2)) (byteAt s (p+3)) (Qz s (p+1)) (mJ s (p+1)) (mJ s (p+2)) (mJ s (p+3)) rfl (g _) (g _) (UInt8.toNat_lt _);have b:=asl s p au;have m:∀q,mJ s q=true->q < s.length:=fun q a=>by
  unfold mJ Qz at a;simp only[jA,Lh]at a;exact a.1
 have u:Yw s (p:Int) (sZ s p)=(decide ((dcN (byteAt s p) (byteAt s (p+1)) (byteAt s (p+2)) (byteAt s (p+3)) (mJ s (p+1)) (mJ s (p+2)) (mJ s (p+3))).1=65533) && !OV (List.drop p (List.take (List.length s) s)) [239,191,189]):=by
  unfold Yw wrong sZ;rw[UX];generalize (dcN _ _ _ _ _ _ _).1=n;simp only[aN,bG,ay,uZ];by_cases h:n=65533
  ·subst h;rfl
  ·have:(((n:Nat):Int)==65533)=false:=by rw[Qbo];omega
   rw[this,jF h];rfl
 rw[avW s p au,u];refine⟨fun h=> ?_,fun h=> ?_⟩
 ·obtain⟨j,i⟩:=e.1 h;rw[j];have:¬OV (List.drop p (List.take (List.length s) s)) [239,191,189]=true:=fun r=>by
   obtain⟨k,c,d,o⟩:=b.1 r;refine i ⟨k,c,d,?_,?_⟩
   ·unfold mJ Qz;rw[c];simp;omega
   ·unfold mJ Qz;rw[d];simp;omega
  rw[Qc0]at this;rw[this];rfl
 ·obtain⟨j,i⟩:=e.2 h;have f:(Df s p:Int)=szN (byteAt s p) (byteAt s (p+1)) (Qz s (p+1)) (mJ s (p+1)) (mJ s (p+2)) (mJ s (p+3)):=by
   unfold Df;rw[UX];exact i
  refine⟨?_,f,?_⟩
  ·by_cases l:(dcN (byteAt s p) (byteAt s (p+1)) (byteAt s (p+2)) (byteAt s (p+3)) (mJ s (p+1)) (mJ s (p+2)) (mJ s (p+3))).1=65533
   ·obtain⟨k,c,d,o,t⟩:=j l;rw[b.2 ⟨k,c,d,m _ t⟩];simp
   ·rw[jF l];rfl
  ·have v:szN (byteAt s p) (byteAt s (p+1)) (Qz s (p+1)) (mJ s (p+1)) (mJ s (p+2)) (mJ s (p+3))<=4/\0<=szN (byteAt s p) (byteAt s (p+1)) (Qz s (p+1)) (mJ s (p+1)) (mJ s (p+2)) (mJ s (p+3)):=by
    unfold szN;(repeat' split)<;>omega
   rw[<-f]at v h;omega
def azD (s:Str):Pg Int:=.wh (s.length+1) default (fun(a:Int)=> .as (List.length s<=9223372036854775807) (.br (decide (a < (↑(List.length s):Int))) (.ob (0<=a/\a < (↑(List.length s):Int)/\List.length s<=9223372036854775700) (.lt (zF s a) fun b=> .br (b==0) (.ret (.inr a)) (rl (bJ .i64 (a+b))))) (.ret (.inr (-1))))) 0
def aiH (s:Str):=(azD s).val
theorem azh (s:Str)(h:s.length<=9223372036854775700):Is (azD s):=
 by
 refine L_ (fun x=>0<=x/\x<=s.length+4) (fun x=>s.length - x.toNat) ⟨by omega,by omega⟩ au (fun x m=>⟨jH fun _=>bn (fun _=>bM au (dm fun n i=>bK iR iR)) iR,fun j c=> ?_⟩);revert c;simp only[gm,aN,bG,bF,ay];by_cases a:x < (s.length:Int)
 ·obtain⟨p,rfl⟩:∃p:Nat,x=p:=⟨x.toNat,by omega⟩;have g:=Xv s p au h;by_cases b:zF s (p:Int)=0
  ·simp[a,b]
  ·obtain⟨_,d,l,o⟩:=g.2 b;have f:(zF s (p:Int)==0)=false:=by simpa using b
   simp only[a,decide_true,cond_true,f,jm];intro e;injection e with e
   rw[<-d,bY (k:= .i64) p_]at e;subst e;omega
 ·simp[a]
def aEW:bT Z:=E1 [azN] [jS 2 (dh (fun b=>[s0 3]) (l1 cI))] (a1 (df cStr)) (R1 cI) [] func80 1 azD (fun a=>a.length<=9223372036854775700) fun a h=>azh a h
def bad (s:Str):Pg Int:=.wh (s.length+1) default (fun(a:List UInt8×Int)=> .br (decide (a.2.toNat < a.1.length)) (.ob (0<=(↑a.2.toNat:Int)/\(↑a.2.toNat:Int)<=(↑(List.length s):Int)) (.br (Yw s (↑a.2.toNat:Int) (sZ a.1 a.2.toNat)) (.ret (.inr (↑a.2.toNat:Int))) (rl (a.1,(↑(a.2.toNat+Df a.1 a.2.toNat):Int))))) (.ret (.inr (-1)))) (s,0)
theorem bad_eq (s:Str)(h:s.length<=9223372036854775700):(bad s).val=aiH s:=by
 unfold bad aiH azD;rw[sS,sS]
 suffices e:∀(n p:Nat),JE _ default n (s,(p:Int))=JE _ default n (p:Int)from e (s.length+1) 0
 intro n;induction n with
 | zero=>intro p;rfl
 | succ n i=>
  intro p;simp only[JE,gm,aN,bG,bF,ay,uZ];by_cases b:p < s.length
  ·have c:(p:Int) < (s.length:Int):=by omega
   have d:=Xv s p b h;simp only[b,c,decide_true,cond_true];by_cases a:zF s (p:Int)=0
   ·rw[d.1 a,a];rfl
   ·obtain⟨j,f,l,m⟩:=d.2 a;have g:(zF s (p:Int)==0)=false:=by simpa using a
    rw[j,g];simp only[jm];rw[<-f,bY (k:= .i64) p_];exact i (p+Df s p)
  ·have c:¬(p:Int) < (s.length:Int):=by omega
   simp only[b,c,decide_false,jm]
theorem aFL (s:Str)(h:s.length<=9223372036854775700):Is (bad s):=
 by
 refine L_ (fun x=>x.1=s/\0<=x.2) (fun x=>s.length - x.2.toNat) ⟨rfl,by omega⟩ au (fun x c=>⟨bn (fun i=>bM (by rw[c.1]at*;omega) (aS iR iR)) iR,fun j b=> ?_⟩);obtain⟨t,x⟩:=x;obtain⟨rfl,m⟩:=c;revert b;simp only[aN,bG,ay];by_cases a:x.toNat < t.length
 ·have f:=Xv t x.toNat a h;by_cases d:zF t (x.toNat:Int)=0
  ·rw[f.1 d];simp[a]
  ·obtain⟨g,k,l,n⟩:=f.2 d;rw[g];simp only[a,decide_true,cond_true,jm];intro e;injection e with e
   subst e;exact⟨⟨rfl,by omega⟩,by simp only[uZ];omega⟩
 ·simp[a]
def aGO:bT Z:=E2 [azl] [jS 2 (dh (fun b=>[.iter (pid (b 6))]) (l1 (dM cStr cI)))] (a1 (df cStr)) (R1 cI) [] func64 1 bad (fun a=>some (a.length<=9223372036854775700)) (fun a=>aiH a) fun a h=>⟨aFL a h,bad_eq a h⟩
def avs (s:Str):Pg Bool:=.ob (List.length s<=9223372036854775700) (.lt (aiH s) fun a=> .ret (decide (a < 0)))
def Ib (s:Str):=(avs s).val
def L6:bT Z:=E1 [aGO] [] (a1 (df cStr)) (R1 aW) [] func31 1 avs fun a=>a.length<=9223372036854775700
def amv (s:Str):Pg Bool:=.ob (List.length s<=9223372036854775700) (.lt (aiH s) fun a=> .ret (decide (a < 0)))
def Ie (s:Str):=(amv s).val
theorem apR (s:Str)(h:s.length<=9223372036854775700):Is (amv s):=
 bM h (dm fun _ _=>aZ)
def Oy:bT Z:=E1 [aEW] [] (a1 (df cStr)) (R1 aW) [] func40 1 amv (fun a=>a.length<=9223372036854775700) fun a h=>apR a h
def jQ (u:Int):Prop:=0<=u/\u < 18446744073709551616
theorem GK (x:Nat):BD .u64 (x:Int) 7=((x / 128:Nat):Int):=XV (k:= .u64) x 7 jy
def aJi (u:Int):Pg (List UInt8):=.wh (u.toNat+1) default (fun(a:Int×List Int)=> .br (decide (128<=a.1)) (.ob (dE (a.2.length+1) 1) (.ob ((0:Int)<=7) (rl (BD .u64 a.1 7,a.2++[orI .u8 (bJ .u8 a.1) 128])))) (.ob (dE (a.2.length+1) 1) (.lt (a.2++[bJ .u8 a.1]) fun(b:List Int)=> .ob (TG (fun(i:Nat)=>true) b.length=true) (.ret (.inr (txU b)))))) (u,[])
def aHX (u:Int):=(aJi u).val
def TB (u i:Nat)(t:Nat×Nat×Int):Int×Int×Int:=if t.2.2=0 then(((u+2 ^ (7*i)*t.1:Nat):Int),((i+t.2.1:Nat):Int),0)else(0,0,t.2.2)
theorem avy {u i c:Nat}(b:u < 2 ^ (7*i))(a:i<=8\/i=9/\c<=1)(g:c < 128):c*2 ^ (7*i) < 2 ^ 64/\u ||| (c*2 ^ (7*i))=u+2 ^ (7*i)*c/\u+2 ^ (7*i)*c < 2 ^ 64:=by
 have d:u ||| (c*2 ^ (7*i))=u+2 ^ (7*i)*c:=by
  rw[Nat.or_comm,Qb0,<-Qdi b,Qdn]
 rw[d];rcases a with a | ⟨rfl,e⟩
 ·have h:2 ^ (7*i)<=2 ^ 56:=Qee jy au;generalize 2 ^ (7*i)=p at*;have f:c*p<=127*p:=Qbu p au;rw[Qb0 p c];refine⟨by omega,rfl,by omega⟩
 ·have:c=0\/c=1:=by omega
  rcases this with rfl | rfl<;>refine⟨by decide,rfl,by omega⟩
theorem aF8 (c:UInt8):bJ .u64 (uF .u8 (c.toNat:Int) 127)=((c.toNat % 128:Nat):Int):=by
 have a:=c.toNat_lt;have e:uF .u8 (c.toNat:Int) 127=((c.toNat &&& 127:Nat):Int):=GH (k:= .u8) rfl (y:=127) a jy;rw[e,show c.toNat &&& 127=c.toNat % 128 from Nat.and_two_pow_sub_one_eq_mod _ 7];exact yO (k:= .u64) rfl (Nat.lt_trans (Qdl _ jy) (by decide:128 < 2 ^ 64))
theorem aAE (u i:Nat)(c:UInt8)(f:u < 2 ^ (7*i))(e:i<=8\/i=9/\c.toNat<=1):orI .u64 (u:Int) (WZ .u64 (bJ .u64 (uF .u8 (c.toNat:Int) 127)) (bJ .i64 (7*(i:Int))))=((u+2 ^ (7*i)*(c.toNat % 128):Nat):Int):=by
 have g:c.toNat % 128 < 128:=Qdl _ jy;obtain⟨b,d,j⟩:=avy f (e.imp id fun h=>⟨h.1,by omega⟩) g;have w:bJ .i64 (7*(i:Int))=((7*i:Nat):Int):=by rw[bY (k:= .i64) p_];omega
 rw[aF8,w,aiw (k:= .u64) rfl (show 7*i<=64 by omega) b];have a:u < 2 ^ 64:=by omega
 rw[afd (k:= .u64) rfl a b,d]
theorem drop_at {s:Str}{i:Nat}(h:i < s.length):s.drop i=s.getD i 0::s.drop (i+1):=by
 rw[Qbc h];simp[List.getD,h]
theorem ah_ (u i:Nat)(c:UInt8)(r:Str)(b:¬(i=9/\1 < c.toNat))(f:¬c.toNat < 128):TB u i (lN i (c::r))=TB (u+2 ^ (7*i)*(c.toNat % 128)) (i+1) (lN (i+1) r):=by
 conv=>lhs;unfold lN
 rw[kT b,kT f];generalize lN (i+1) r=t;obtain⟨v,n,e⟩:=t;dsimp only;by_cases a:e=0
 ·subst a;unfold TB;dsimp only;rw[nI rfl,nI rfl,nI rfl];have d:u+2 ^ (7*i)*(c.toNat % 128+128*v)=u+2 ^ (7*i)*(c.toNat % 128)+2 ^ (7*(i+1))*v:=by
   rw[show 7*(i+1)=7*i+7 by omega,Nat.pow_add,Nat.mul_add,Qec,<-Qeo]
  rw[d,show i+(n+1)=i+1+n by omega]
 ·unfold TB;rw[kT a,kT a,kT a]
def at1 (s:Str):Pg (Int×Int×Int):=.wh (11) default (fun(a:Int×Int)=> .as (List.length s<=9223372036854775807) (.br (a.2==(↑(List.length s):Int)) (.ret (.inr (0,0,4))) (.ix a.2 (List.length s) (.cut (fun(e:Unit)=> .lt (bJ .i64 (7*a.2)) fun d=> .ob (0<=d) (.lt (orI .u64 a.1 (WZ .u64 (bJ .u64 (uF .u8 (↑(List.getD s a.2.toNat 0).toNat:Int) 127)) d)) fun b=> .lt (bJ .i64 (a.2+1)) fun c=> .br (decide ((↑(List.getD s a.2.toNat 0).toNat:Int) < 128)) (.ret (.inr (b,c,0))) (rl (b,c)))) (.br (a.2==9) (.br (decide (1 < (↑(List.getD s a.2.toNat 0).toNat:Int))) (.ret (.inr (.inr (0,0,6)))) (rl ())) (rl ())))))) (0,0)
def tH (s:Str):=(at1 s).val
theorem aw9 (s:Str):Is (at1 s):=
 by
 refine L_ (fun X=>0<=X.2/\X.2<=9/\X.2<=s.length) (fun X=>(10 - X.2).toNat) ⟨by decide,by decide,by simp⟩ jy (fun X h=> ?_);obtain⟨u,n⟩:=X;obtain⟨i,g,j⟩:=h;dsimp only at i g j⊢;have w:bJ .i64 (7*n)=7*n:=bY (k:= .i64) p_;have f:bJ .i64 (n+1)=n+1:=bY (k:= .i64) p_;rw[w,f];refine⟨jH fun _=>bK iR (fun l=>dJ au au (lK (bK (fun _=>bn iR iR) iR) (fun y q=>dm fun r p=>bM au (dm fun v o=>dm fun x m=>bn iR iR)))),fun t d=> ?_⟩;revert d;simp only[gm,aN,dN,gz,bF,bG,ay,Qa7,Lh,Vt];by_cases b:n=(s.length:Int)
 ·rw[nI b];intro e;cases e
 rw[kT b];by_cases a:n=9
 ·rw[nI a];by_cases c:(1:Int) < ((s.getD n.toNat 0).toNat:Int)
  ·rw[nI c];intro e;cases e
  ·rw[kT c,fG,nI au];intro e;cases e
 ·rw[kT a,fG];split
  ·intro e;cases e
  ·intro e;injection e with e
   subst e;exact⟨⟨by show 0<=n+1;omega,by show n+1<=9;omega,by show n+1<=(s.length:Int);omega⟩,by show(10 - (n+1)).toNat < (10 - n).toNat;omega⟩
def aBu:bT Z:=E0 [] [jS 3 (dh (fun b=>[s0 5, s0 6]) (aC (gW .u64) (l1 cI))),jS 100008 (dh (fun b=>[]) l0)] (a1 (df cStr)) (shr [s0 0, s0 1, s0 2] (aC (gW .u64) (aC cI (l1 cI)))) [] func235 3 at1 fun a=>aw9 a
theorem aGF {u i c:Nat}(b:u < 2 ^ (7*i)):u+2 ^ (7*i)*(c % 128) < 2 ^ (7*(i+1)):=by
 rw[show 7*(i+1)=7*i+7 by omega,Nat.pow_add];have d:c % 128 < 128:=Qdl _ jy;generalize 2 ^ (7*i)=p at*;have a:p*(c % 128)<=p*127:=Qd p au;omega
theorem an7 (u i:Nat):TB u i (lN i [])=(0,0,4):=rfl
theorem am4 (u i:Nat)(c:UInt8)(r:Str)(a:i=9/\1 < c.toNat):TB u i (lN i (c::r))=(0,0,6):=by
 unfold lN;rw[nI a];rfl
theorem anS (u i:Nat)(c:UInt8)(r:Str)(b:¬(i=9/\1 < c.toNat))(a:c.toNat < 128):TB u i (lN i (c::r))=(((u+2 ^ (7*i)*(c.toNat % 128):Nat):Int),((i+1:Nat):Int),0):=by
 unfold lN;rw[kT b,nI a,Qcs a];rfl
theorem O5 (s:Str):tH s=TB 0 0 (lN 0 s):=by
 have j:∀(m i u:Nat),i<=9->i<=s.length->u < 2 ^ (7*i)->10 - i < m->JE (fun(a:Int×Int)=>bif a.2==(s.length:Int)then(Sum.inr (0,0,4):(Int×Int)⊕(Int×Int×Int))else thenS (bif a.2==9 then(bif decide ((1:Int) < ((s.getD a.2.toNat 0).toNat:Int))then(Sum.inr (.inr (0,0,6)):Unit⊕((Int×Int)⊕(Int×Int×Int)))else .inl ())else .inl ()) fun _=>bif decide (((s.getD a.2.toNat 0).toNat:Int) < 128)then Sum.inr (orI .u64 a.1 (WZ .u64 (bJ .u64 (uF .u8 ((s.getD a.2.toNat 0).toNat:Int) 127)) (bJ .i64 (7*a.2))),bJ .i64 (a.2+1),0)else .inl (orI .u64 a.1 (WZ .u64 (bJ .u64 (uF .u8 ((s.getD a.2.toNat 0).toNat:Int) 127)) (bJ .i64 (7*a.2))),bJ .i64 (a.2+1))) default m ((u:Int),(i:Int))=TB u i (lN i (s.drop i)):=by
  intro m;induction m with
  | zero=>intro i u _ _ _ h;omega
  | succ m n=>
   intro i u p t g r;unfold JE;dsimp only;by_cases o:i=s.length
   ·have:((i:Int)==(s.length:Int))=true:=by rw[o];simp
    rw[this,Qdy au,an7];rfl
   ·have:((i:Int)==(s.length:Int))=false:=by rw[Qbo];omega
    rw[this,jm,uZ,drop_at au];generalize s.getD i 0=c;by_cases b:i=9/\1 < c.toNat
    ·rw[am4 _ _ _ _ b];have d:((i:Int)==9)=true:=by rw[b.1];rfl
     have e:decide ((1:Int) < (c.toNat:Int))=true:=jK au;rw[d,e];rfl
    ·have q:(bif (i:Int)==9 then(bif decide ((1:Int) < (c.toNat:Int))then(Sum.inr (.inr (0,0,6)):Unit⊕((Int×Int)⊕(Int×Int×Int)))else .inl ())else .inl ())= .inl ():=by
      by_cases f:i=9
      ·have e:decide ((1:Int) < (c.toNat:Int))=false:=jF au;rw[e];cases(i:Int)==9<;>rfl
      ·have d:((i:Int)==9)=false:=by rw[Qbo];omega
       rw[d];rfl
     have l:i<=8\/i=9/\c.toNat<=1:=by omega
     have k:bJ .i64 ((i:Int)+1)=((i+1:Nat):Int):=lX au;rw[q,fG,aAE u i c g l,k];by_cases f:c.toNat < 128
     ·rw[anS _ _ _ _ b f,jK (show(c.toNat:Int) < 128 by omega)];rfl
     ·rw[ah_ _ _ _ _ b f,jF (show ¬(c.toNat:Int) < 128 by omega)];exact n (i+1) _ au au (aGF g) au
 exact j 11 0 0 jy (Jd _) jy jy
theorem av4 (s:Str):jQ (tH s).1/\0<=(tH s).2.1/\(tH s).2.1<=s.length/\((tH s).2.2=0\/(tH s).2.2=4\/(tH s).2.2=6)/\((tH s).2.2=0->1<=(tH s).2.1):=by
 rw[O5];have b:∀(r:Str) (i:Nat),(lN i r).2.2=0\/(lN i r).2.2=4\/(lN i r).2.2=6:=by
  intro r;induction r with
  | nil=>intro i;exact .inr (.inl rfl)
  | cons c r f=>
   intro i;unfold lN;split
   ·exact .inr (.inr rfl)
   ·split
    ·exact .inl rfl
    ·have:=f (i+1);generalize lN (i+1) r=t at*;obtain⟨u,n,e⟩:=t;dsimp only at this⊢;split
     ·exact .inl rfl
     ·exact this
 unfold TB;by_cases h:(lN 0 s).2.2=0
 ·obtain⟨l,d,k,g,j,o,m,a⟩:=WF s 0 jy h;have:=aBj d;rw[nI h];have a:(lN 0 s).1 < 18446744073709551616:=a;rw[zM,zM,Nat.mul_zero,Nat.pow_zero,Nat.one_mul];dsimp only;exact⟨⟨by omega,by omega⟩,by omega,by omega, .inl rfl,fun _=>by omega⟩
 ·rw[kT h];dsimp only;exact⟨⟨ZU _,by decide⟩,ZU _,by omega,(b s 0),fun e=>absurd e h⟩
def aEV (u:Int):Pg Int:=.ob ((0:Int)<=1) (.ret (TE .i64 (bJ .i64 (BD .u64 u 1)) (bJ .i64 (-bJ .i64 (uF .u64 u 1)))))
def ao2 (u:Int):=(aEV u).val
def aDS:bT Z:=E0 [] [] (a1 (df (gW .u64))) (R1 cI) [] func453 1 aEV
def amr (c:ah):Pg Bool:=.br (decide (0<=c.At)) (.br (decide (c.At<=c.End)) (.as (List.length c.Data<=9223372036854775807) (.ret (decide (c.End<=(↑(List.length c.Data):Int))))) (.ret false)) (.ret false)
def IA (c:ah):=(amr c).val
def XD:bT Z:=E0 [] [] (a1 (aQ aP)) (R1 aW) [] func261 1 amr
def awq (c:ah):Pg Int:=.br (!IA c) (.ret 0) (.ret (bJ .i64 (c.End - c.At)))
def oK (c:ah):=(awq c).val
def Au:bT Z:=E0 [XD] [] (a1 (aQ aP)) (R1 cI) [] func189 1 awq
def ame (c:ah)(n:Int):Pg ah:=.ret (ah.mk c.Data (bJ .i64 (c.At+n)) c.End c.Depth c.Nodes c.Text)
def qV (c:ah)(n:Int):=(ame c n).val
def NV:bT Z:=E0 [] [] (ax (aQ aP) (a1 (df cI))) (shr [.slot 0 true (nn 6)] (l1 aP)) [] func345 1 (u2 ame)
def ig (c:ah):Prop:=(0<=c.At/\c.At<=c.End/\c.End<=c.Data.length/\c.Data.length<=1048576)/\(0<=c.Depth/\c.Depth<=1048576)/\(0<=c.Nodes/\c.Nodes<=1099511627776)/\0<=c.Text/\c.Text<=1099511627776
def rX (c:ah):Str:=(c.Data.take c.End.toNat).drop c.At.toNat
theorem yz {c:ah}(h:ig c):((rX c).length:Int)=c.End - c.At:=by
 obtain⟨⟨e,d,b,a⟩,_⟩:=h;unfold rX;rw[Qbe,C9];omega
theorem II {c:ah}(h:ig c):IA c=true:=by
 obtain⟨⟨d,b,a,e⟩,_⟩:=h;unfold IA amr;simp only[aN,gm,ay];rw[jK d,jK b,jK a];rfl
theorem nJ {c:ah}(h:ig c):oK c=c.End - c.At:=by
 have a:=II h;obtain⟨⟨f,d,e,b⟩,_⟩:=h;unfold oK awq;simp only[aN,ay,a,Qbj,jm];exact bY (k:= .i64) p_
theorem CG {c:ah}(h:ig c){n:Int}(i:0<=n)(j:n<=c.End - c.At):qV c n=ah.mk c.Data (c.At+n) c.End c.Depth c.Nodes c.Text/\ig (qV c n):=by
 obtain⟨⟨f,g,d,b⟩,a⟩:=h;have e:qV c n=ah.mk c.Data (c.At+n) c.End c.Depth c.Nodes c.Text:=by
  unfold qV ame;simp only[ay];rw[bY (k:= .i64) p_]
 rw[e];exact⟨rfl,⟨by show 0<=c.At+n;omega,by show c.At+n<=c.End;omega,d,b⟩,a⟩
def anz (c:ah)(n:Int):Pg (List UInt8):=.br (!IA c) (.ret []) (.lt (bJ .i64 (c.At+n)) fun a=> .ob (0<=c.At/\c.At<=min c.End a/\min c.End a<=(↑(List.length c.Data):Int)) (.ret (List.drop c.At.toNat (List.take (min c.End a).toNat c.Data))))
def qL (c:ah)(n:Int):=(anz c n).val
theorem awn (c:ah)(n:Int)(h:ig c/\0<=n/\n<=1000):Is (anz c n):=
 aS iR (fun _=>mO fun d a _=>bM (by obtain⟨⟨⟨i,g,f,b⟩,_⟩,j,e⟩:=h;omega) (aZ))
def aon:bT Z:=E1 [XD] [] (ax (aQ aP) (a1 (df cI))) (R1 cStr) [] func344 1 (u2 anz) (fun a=>ig a.1/\0<=a.2/\a.2<=1000) fun a h=>awn a.1 a.2 h
theorem MX {c:ah}(h:ig c){n:Nat}(d:n<=1000):qL c n=(rX c).take n:=by
 have a:=II h;obtain⟨⟨g,e,f,b⟩,_⟩:=h;unfold qL anz rX;simp only[aN,bF,bG,ay,a,Qbj,jm];rw[bY (k:= .i64) p_,List.take_drop];congr 1;rw[List.take_take];congr 1;omega
def aiJ (c:ah):Pg (Int×ah×Int):=.lt (oK c) fun a=> .br (decide (a < 1)) (.ret (0,c,4)) (.ix c.At (List.length c.Data) (.ret ((↑(List.getD c.Data c.At.toNat 0).toNat:Int),qV c 1,0)))
def DX (c:ah):=(aiJ c).val
theorem aw6 (c:ah)(h:ig c):Is (aiJ c):=
 dm fun e a=>bn iR (fun b=>by rw[a,nJ h]at b;obtain⟨⟨d,f,i,g⟩,_⟩:=h;exact dJ au au aZ)
def azt:bT Z:=E1 [Au,NV] [] (a1 (aQ aP)) (shr [s0 0, .slot 1 true (nn 6), s0 2] (aC (gW .u8) (aC aP (l1 cI)))) [] func351 3 aiJ (fun a=>ig a) fun a h=>aw6 a h
def MP (c:ah):Pg (Int×ah×Int):=.ob (ig c/\(0:Int)<=10/\(10:Int)<=1000) (.lt (tH (qL c 10)) fun a=> .br (a.2.2 !=0) (.ret (0,c,a.2.2)) (.ret (a.1,qV c a.2.1,0)))
def bi (c:ah):=(MP c).val
theorem akz (c:ah)(h:ig c):Is (MP c):=
 bM ((⟨h,by decide,by decide⟩)) (dm fun b a=>gQ iR iR)
def CW:bT Z:=E1 [aBu,aon,NV] [] (a1 (aQ aP)) (shr [s0 0, .slot 1 true (nn 6), s0 2] (aC (gW .u64) (aC aP (l1 cI)))) [] func262 3 MP (fun a=>ig a) fun a h=>akz a h
def akc (c:ah)(n:Int):Pg (ah×Int):=.br (decide (n < 0)) (.ret (c,1)) (.br (decide (c.Nodes < n)) (.ret (c,3)) (.ret (ah.mk c.Data c.At c.End c.Depth (bJ .i64 (c.Nodes - n)) c.Text,0)))
def oZ (c:ah)(n:Int):=(akc c n).val
def afY:bT Z:=E0 [] [] (ax (aQ aP) (a1 (df cI))) (shr [.slot 0 true (nn 6), s0 1] (aC aP (l1 cI))) [] func188 2 (u2 akc)
def adE (c:ah)(n:Int):Pg (ah×Int):=.br (decide (n < 0)) (.ret (c,1)) (.lt (oK c) fun a=> .br (decide (a < n)) (.ret (c,4)) (.br (decide (c.Depth < 1)) (.ret (c,17)) (.ret (ah.mk c.Data c.At (bJ .i64 (c.At+n)) (bJ .i64 (c.Depth - 1)) c.Nodes c.Text,0))))
def I_ (c:ah)(n:Int):=(adE c n).val
def au9:bT Z:=E0 [Au] [] (ax (aQ aP) (a1 (df cI))) (shr [.slot 0 true (nn 6), s0 1] (aC aP (l1 cI))) [] func450 2 (u2 adE)
def ajl (c:ah)(a:ah):Pg ah:=.br (!IA c) (.ret c) (.br (decide (a.End < c.At)) (.ret c) (.br (decide (c.End < a.End)) (.ret c) (.br (decide (a.Nodes < 0)) (.ret c) (.br (decide (c.Nodes < a.Nodes)) (.ret c) (.ret (ah.mk c.Data a.End c.End c.Depth a.Nodes c.Text))))))
def Et (c:ah)(a:ah):=(ajl c a).val
def avo:bT Z:=E0 [XD] [] (ax (aQ aP) (a1 (aQ aP))) (shr [.slot 0 true (nn 6)] (l1 aP)) [] func451 1 (u2 ajl)
def AA (k:Int)(c d:ah):Prop:=ig d/\d.Data=c.Data/\d.End=c.End/\d.Depth=c.Depth/\d.Text=c.Text/\d.Nodes<=c.Nodes/\c.At+k<=d.At
theorem IK {c:ah}(h:ig c){n k:Int}(a:0<=n)(b:n<=c.End - c.At)(d:k<=n):AA k c (qV c n):=by
 obtain⟨e,q⟩:=CG h a b;rw[e]at q⊢;exact⟨q,rfl,rfl,rfl,rfl,ZU _,by show c.At+k<=c.At+n;omega⟩
theorem iM {a b:Int}{c d e:ah}(n:AA a c d)(h:AA b d e):AA (a+b) c e:=by
 obtain⟨_,i,l,f,o,s,t⟩:=n;obtain⟨k,m,p,g,j,q,r⟩:=h;exact⟨k,m.trans i,p.trans l,g.trans f,j.trans o,by omega,by omega⟩
theorem iC {a b:Int}{c d:ah}(h:AA a c d)(l:b<=a):AA b c d:=by
 obtain⟨k,i,f,e,j,g,m⟩:=h;exact⟨k,i,f,e,j,g,by omega⟩
theorem bW {a:Int}:(a !=0)=false ↔ a=0:=by simp
theorem jv {c:ah}(h:ig c):jQ (bi c).1/\((bi c).2.2=0->AA 1 c (bi c).2.1/\(bi c).2.1.Nodes=c.Nodes):=by
 have k:=av4 (qL c 10);have g:=yz h;have d:=MX h (n:=10) jy;unfold bi MP;simp only[bG,bF,aN,ay];cases e:(tH (qL c 10)).2.2 !=0 with
 | true=>
  refine⟨by show(0:Int)<=0/\(0:Int) < 18446744073709551616;decide,fun a=> ?_⟩;have a:(tH (qL c 10)).2.2=0:=a;rw[a]at e;cases e
 | false=>
  have f:=bW.1 e;refine⟨k.1,fun _=> ?_⟩;have b:(qL c 10).length<=(rX c).length:=by
   rw[show qL c 10=(rX c).take 10 from d,C9];omega
  refine⟨IK h k.2.1 (by have:=k.2.2.1;omega) (k.2.2.2.2 f),rfl⟩
def WT (s:Str):Pg (Int×Int):=.br (decide ((↑(List.length s):Int) < 8)) (.ret (0,4)) (.cnt rP 0 8 (fun(a b:Int)=> .ix a (List.length s) (.lt (bJ .i64 (8*a)) fun c=> .ob (0<=c) (rl (orI .u64 b (WZ .u64 (bJ .u64 (↑(List.getD s a.toNat 0).toNat:Int)) c))))) (fun(a b:Int)=> .ret (b,0)) 0)
def xQ (s:Str):=(WT s).val
theorem awL (s:Str):Is (WT s):=
 bn iR (fun _=>Yl au au (fun a b _ _=>dJ au au (mO fun d c _=>bM au (aZ))) (fun a b _ _=>aZ))
def aAi:bT Z:=E0 [] [jS 5 (dh (fun b=>[s0 9, s0 4]) (aC cI (l1 (gW .u64))))] (a1 (df cStr)) (shr [s0 0, s0 1] (aC (gW .u64) (l1 cI))) [] func454 2 WT fun a=>awL a
def PK (c:ah):Pg (Int×ah×Int):=.ob (ig c/\(0:Int)<=8/\(8:Int)<=1000) (.lt (xQ (qL c 8)) fun a=> .br (a.2 !=0) (.ret (0,c,a.2)) (.ret (a.1,qV c 8,0)))
def wK (c:ah):=(PK c).val
theorem aqt (c:ah)(h:ig c):Is (PK c):=
 bM ((⟨h,by decide,by decide⟩)) (dm fun b a=>gQ iR iR)
def aid:bT Z:=E1 [aon,NV,aAi] [] (a1 (aQ aP)) (shr [s0 0, .slot 1 true (nn 6), s0 2] (aC (gW .u64) (aC aP (l1 cI)))) [] func357 3 PK (fun a=>ig a) fun a h=>aqt a h
def VS (c:ah)(n:Int):Pg (List Int):=.lt (bJ .i64 (c.At+n)) fun a=> .ob (0<=c.At/\c.At<=a/\a<=(↑(List.length c.Data):Int)) (.ob (0<=n/\n=n/\n<=(↑(txI (List.drop c.At.toNat (List.take a.toNat c.Data))).length:Int)) (.ret (List.take n.toNat (txI (List.drop c.At.toNat (List.take a.toNat c.Data))))))
def OA (c:ah)(n:Int):=(VS c n).val
theorem aqk (c:ah)(n:Int)(h:ig c/\0<=n/\n<=c.End - c.At):Is (VS c n):=
 mO fun j i _=>bM (by obtain⟨⟨⟨f,e,d,a⟩,_⟩,g,b⟩:=h;omega) (bM (by obtain⟨⟨⟨f,e,d,a⟩,_⟩,g,b⟩:=h;rw[ae0,Qbe,C9];omega) (aZ))
def axH:bT Z:=E1 [] [] (ax (aQ aP) (a1 (df cI))) (R1 ayh) [] func507 1 (u2 VS) (fun a=>ig a.1/\0<=a.2/\a.2<=a.1.End - a.1.At) fun a h=>aqk a.1 a.2 h
def abE (c:ah)(n:Int):Pg (List UInt8×ah×Int):=.br (decide (n < 0)) (.ret ([],c,1)) (.lt (oK c) fun b=> .br (decide (b < n)) (.ret ([],c,4)) (.br (decide (c.Text < n)) (.ret ([],c,3)) (.br (n==0) (.ret ([],c,0)) (.ob (ig c/\0<=n/\n<=c.End - c.At) (.lt (OA c n) fun a=> .ob (TG (fun(i:Nat)=>true) a.length=true) (.ret (txU a,qV c n,0)))))))
def xJ (c:ah)(n:Int):=(abE c n).val
theorem avh (c:ah)(n:Int)(h:ig c):Is (abE c n):=
 bn iR (fun _=>dm fun d a=>bn iR (fun _=>bn iR (fun _=>bK iR (fun _=>bM ((⟨h,by omega,by rw[<-nJ h];omega⟩)) (dm fun e b=>bM (ab7 (fun _=>rfl) _) (aZ))))))
def ay7:bT Z:=E1 [Au,NV,axH] [] (ax (aQ aP) (a1 (df cI))) (shr [s0 0, .slot 1 true (nn 6), s0 2] (aC cStr (aC aP (l1 cI)))) [] func452 3 (u2 abE) (fun a=>ig a.1) fun a h=>avh a.1 a.2 h
theorem agd {c:ah}(h:ig c){v2:Int×ah×Int}(g:v2=bi c)(m:v2.2.2=0){i e a:Int}(j:i=bJ .u64 (oK v2.2.1))(l:e=bJ .i64 v2.1)(f:a=bJ .i64 (v2.2.1.At+e))(n:¬i < v2.1):0<=v2.2.1.At/\v2.2.1.At<=a/\a<=(v2.2.1.Data.length:Int):=by
 obtain⟨d,k⟩:=jv h;rw[<-g]at d k;obtain⟨⟨b,_⟩,_⟩:=k m;have kl:=nJ b;obtain⟨⟨o,p,s,q⟩,_⟩:=b;obtain⟨r,u2⟩:=d;rw[kl,bY (k:= .u64) p_]at j;rw[bY (k:= .i64) p_]at l;rw[bY (k:= .i64) p_]at f;omega
def auT (c:ah):Pg (Int×Int×ah×Int):=.ob (ig c) (.lt (bi c) fun a=> .br (a.2.2 !=0) (.ret (0,0,c,a.2.2)) (.ob ((8:Int)≠0) (.br (a.1.tmod (8:Int)==7) (.ret (0,0,c,5)) (.ob ((8:Int)≠0) (.lt (bJ .u64 (a.1.tdiv 8)) fun b=> .br (decide (b < 1)) (.ret (0,0,c,6)) (.ob ((8:Int)≠0) (.br (decide (65535 < b)) (.ret (0,0,c,6)) (.ob ((8:Int)≠0) (.ob ((8:Int)≠0) (.ret (bJ .i64 b,bJ .i64 (a.1.tmod 8),a.2.1,0)))))))))))
def dZ (c:ah):=(auT c).val
def alA:bT Z:=E1 [CW] [] (a1 (aQ aP)) (shr [s0 0, s0 1, .slot 2 true (nn 6), s0 3] (aC cI (aC cI (aC aP (l1 cI))))) [] func190 4 auT fun a=>ig a
def aaJ (c:ah)(d:Int):Pg (List UInt8×ah×Int):=.ob (ig c) (.lt (bi c) fun a=> .br (a.2.2 !=0) (.ret ([],c,a.2.2)) (.cut (fun(g:Int)=> .lt (bJ .u64 (oK a.2.1)) fun f=> .br (decide (f < a.1)) (.ret ([],c,4)) (.lt (bJ .i64 a.1) fun e=> .br (decide (g < e)) (.ret ([],c,3)) (.lt (bJ .i64 (a.2.1.At+e)) fun b=> .ob (0<=a.2.1.At/\a.2.1.At<=b/\b<=(↑(List.length a.2.1.Data):Int)) (.ret (List.drop a.2.1.At.toNat (List.take b.toNat a.2.1.Data), ah.mk a.2.1.Data b a.2.1.End a.2.1.Depth a.2.1.Nodes a.2.1.Text,0))))) (.br (d==3) (rl c.Text) (rl 65536))))
def Bz (c:ah)(a:Int):=(aaJ c a).val
theorem axh (c:ah)(a:Int)(h:ig c):Is (aaJ c a):=
 bM (h) (dm fun j d=>gQ iR (fun _=>lK (bK iR iR) (fun i g=>dm fun l b=>bn iR (fun _=>mO fun k f _=>bn iR (fun _=>mO fun m e _=>bM ((agd h d au b f e au)) (aZ))))))
def aBo:bT Z:=E1 [Au,CW] [jS 100007 (dh (fun b=>[s0 10]) (l1 cI))] (ax (aQ aP) (a1 (df cI))) (shr [s0 0, .slot 1 true (nn 6), s0 2] (aC cStr (aC aP (l1 cI)))) [] func358 3 (u2 aaJ) (fun a=>ig a.1) fun a h=>axh a.1 a.2 h
theorem ahV {s:Str}(h:(xQ s).2=0):8<=s.length:=by
 rcases Qc7 s.length 8 with a | a
 ·unfold xQ WT at h;simp only[aN,ay]at h;rw[jK (show(s.length:Int) < 8 by omega)]at h;cases h
 ·exact a
theorem YG {c:ah}(h:ig c)(a:(wK c).2.2=0):AA 1 c (wK c).2.1/\(wK c).2.1.Nodes=c.Nodes:=by
 have g:=yz h;have d:=MX h (n:=8) jy;unfold wK PK at a⊢;simp only[bG,bF,aN,ay]at a⊢;cases e:(xQ (qL c 8)).2 !=0 with
 | true=>
  rw[e]at a;have a:(xQ (qL c 8)).2=0:=a;rw[a]at e;cases e
 | false=>
  have f:=ahV (bW.1 e);have b:(qL c 8).length<=(rX c).length:=by
   rw[show qL c 8=(rX c).take 8 from d,C9];omega
  exact⟨IK h jy au jy,rfl⟩
theorem aq3 {c:ah}(h:ig c){n:Int}(a:(xJ c n).2.2=0):AA 0 c (xJ c n).2.1/\(xJ c n).2.1.Nodes=c.Nodes/\(0<=n/\n<=c.End - c.At)/\(xJ c n).2.1.At=c.At+n:=by
 have g:=nJ h;unfold xJ abE at a⊢;simp only[bG,bF,aN,ay]at a⊢;by_cases f:n < 0
 ·rw[jK f]at a;cases a
 rw[jF f]at a⊢;by_cases d:oK c < n
 ·rw[jK d]at a;cases a
 rw[jF d]at a⊢;by_cases e:c.Text < n
 ·rw[jK e]at a;cases a
 rw[jF e];rw[g]at d;cases b:n==0 with
 | true=>
  have b:n=0:=by simpa using b
  subst b;exact⟨⟨h,rfl,rfl,rfl,rfl,ZU _,by show c.At+0<=c.At;omega⟩,rfl,⟨ZU _,by omega⟩,by show c.At=c.At+0;omega⟩
 | false=>
  refine⟨IK h au au au,rfl,⟨by omega,by omega⟩,?_⟩;show(qV c n).At=_
  rw[(CG h (n:=n) au au).1]
theorem qF {c:ah}(h:ig c)(a:(dZ c).2.2.2=0):AA 1 c (dZ c).2.2.1/\(dZ c).2.2.1.Nodes=c.Nodes:=by
 obtain⟨_,k⟩:=jv h;unfold dZ auT at a⊢;simp only[bG,bF,aN,ay]at a⊢;cases e:(bi c).2.2 !=0 with
 | true=>
  rw[e]at a;have a:(bi c).2.2=0:=a;rw[a]at e;cases e
 | false=>
  rw[e]at a;simp only[jm]at a⊢;cases d:(bi c).1.tmod 8==7 with
  | true=>rw[d]at a;cases a
  | false=>
   rw[d]at a;simp only[jm]at a⊢;by_cases f:bJ .u64 ((bi c).1.tdiv 8) < 1
   ·rw[jK f]at a;cases a
   ·rw[jF f]at a⊢;by_cases b:65535 < bJ .u64 ((bi c).1.tdiv 8)
    ·rw[jK b]at a;cases a
    ·rw[jF b];exact k (bW.1 e)
theorem aq6 {c:ah}(h:ig c){b:Int}(a:(Bz c b).2.2=0):AA 1 c (Bz c b).2.1/\(Bz c b).2.1.Nodes=c.Nodes:=by
 obtain⟨j,k⟩:=jv h;unfold Bz aaJ at a⊢;simp only[bG,bF,aN,ay,gz]at a⊢;cases e:(bi c).2.2 !=0 with
 | true=>
  rw[e]at a;have a:(bi c).2.2=0:=a;rw[a]at e;cases e
 | false=>
  obtain⟨f,r⟩:=k (bW.1 e);have d:=f.1;have kl:=nJ d;have s:thenS (bif b==3 then(Sum.inl c.Text:Int⊕(Str×ah×Int))else Sum.inl 65536)=thenS (.inl (bif b==3 then c.Text else 65536)):=by cases b==3<;>rfl
  rw[e]at a;simp only[jm]at a⊢;rw[s]at a⊢;simp only[fG]at a⊢;obtain⟨⟨v,w,u,m⟩,o⟩:=d;obtain⟨y,u2⟩:=j;rw[kl,bY (k:= .u64) p_]at a⊢;by_cases g:(bi c).2.1.End - (bi c).2.1.At < (bi c).1
  ·rw[jK g]at a;cases a
  rw[jF g]at a⊢;rw[bY (k:= .i64) p_]at a⊢;by_cases i:(bif b==3 then c.Text else 65536) < (bi c).1
  ·rw[jK i]at a;cases a
  rw[jF i];simp only[jm];rw[bY (k:= .i64) p_];obtain⟨_,n,p,l,t,q,x⟩:=f;exact⟨⟨⟨⟨by show 0<=(bi c).2.1.At+(bi c).1;omega,by show(bi c).2.1.At+(bi c).1<=(bi c).2.1.End;omega,u,m⟩,o⟩,n,p,l,t,q,by show c.At+1<=(bi c).2.1.At+(bi c).1;omega⟩,r⟩
def yH (c:ah)(f:Raw):Pg (ah×Int×Raw):=.cut (fun(e:Bool)=> .br e (.ob (ig c) (.lt (bi c) fun a=> .ret (a.2.1,a.2.2,Raw.mk f.Num f.eF a.1 f.Data))) (.br (f.eF==2) (.ob (ig c) (.lt (wK c) fun d=> .ret (d.2.1,d.2.2,Raw.mk f.Num f.eF d.1 f.Data))) (.ob (ig c) (.lt (Bz c f.eF) fun b=> .ret (b.2.1,b.2.2,Raw.mk f.Num f.eF f.Bits b.1))))) (.br (f.eF==0) (rl (f.eF==0)) (rl (f.eF==1)))
def eQ (c:ah)(f:Raw):=(yH c f).val
def ahd:bT Z:=E1B [CW,aid,aBo] [jS 100006 (dh (fun b=>[s0 24]) (l1 aW))] (ax (aQ aP) (a1 (lm 0))) (b1 (cZ qM)) (shr [.slot 0 true (nn 6), s0 1, .cells 0 (nn 4)] (aC aP (aC cI (l1 qM)))) [] func269 2 (u11 yH) fun a=>ig a.1.1
theorem akv {c:ah}(h:ig c){n:Int}(a:(oZ c n).2=0):oZ c n=(ah.mk c.Data c.At c.End c.Depth (c.Nodes - n) c.Text,0)/\0<=n/\n<=c.Nodes:=by
 obtain⟨f,g,⟨j,i⟩,e⟩:=h;unfold oZ akc at a⊢;simp only[aN,ay]at a⊢;by_cases d:n < 0
 ·rw[jK d]at a;cases a
 rw[jF d]at a⊢;by_cases b:c.Nodes < n
 ·rw[jK b]at a;cases a
 rw[jF b];have w:bJ .i64 (c.Nodes - n)=c.Nodes - n:=bY (k:= .i64) p_;rw[w];exact⟨rfl,by omega,by omega⟩
theorem lJ {c:ah}(h:ig c){n:Int}(i:(oZ c n).2=0):AA 0 c (oZ c n).1/\(oZ c n).1.Nodes=c.Nodes - n/\(oZ c n).1.At=c.At/\0<=n/\n<=c.Nodes:=by
 obtain⟨e,a,g⟩:=akv h i;obtain⟨d,f,⟨k,j⟩,b⟩:=h;rw[e];exact⟨⟨⟨d,f,⟨by show 0<=c.Nodes - n;omega,by show c.Nodes - n<=1099511627776;omega⟩,b⟩,rfl,rfl,rfl,rfl,by show c.Nodes - n<=c.Nodes;omega,by show c.At+0<=c.At;omega⟩,rfl,rfl,a,g⟩
theorem Ju {c:ah}(h:ig c){f:Raw}(a:(eQ c f).2.1=0):AA 1 c (eQ c f).1/\(eQ c f).1.Nodes=c.Nodes:=by
 have d:∀K:Bool->ah×Int×Raw,(thenS (bif f.eF==0 then(Sum.inl (f.eF==0):Bool⊕(ah×Int×Raw))else Sum.inl (f.eF==1)) K)=K (bif f.eF==0 then true else f.eF==1):=fun K=>by cases e:f.eF==0<;>rfl
 unfold eQ yH at a⊢;simp only[bG,bF,aN,ay,gz]at a⊢;rw[d]at a⊢;cases e:(bif f.eF==0 then true else f.eF==1)with
 | true=>rw[e]at a;exact(jv h).2 a
 | false=>
  rw[e]at a;cases b:f.eF==2 with
  | true=>rw[b]at a;exact YG h a
  | false=>rw[b]at a;exact aq6 h a
def VA (c:ah):Pg (Raw×ah×Int):=.ob (ig c) (.lt (dZ c) fun a=> .br (a.2.2.2 !=0) (.ret (Raw.mk 0 0 0 [],c,a.2.2.2)) (.lt (oZ a.2.2.1 1) fun b=> .br (b.2 !=0) (.ret (Raw.mk 0 0 0 [],c,b.2)) (.ob (ig b.1) (.lt (eQ b.1 (Raw.mk a.1 a.2.1 0 [])) fun d=> .br (d.2.1 !=0) (.ret (Raw.mk 0 0 0 [],c,d.2.1)) (.ret (d.2.2,d.1,0))))))
def lg (c:ah):=(VA c).val
theorem auk (c:ah)(h:ig c):Is (VA c):=
 bM (h) (dm fun f a=>gQ iR (fun _=>dm fun g b=>gQ iR (fun _=>bM (by have k:=(qF h (by rw[<-a];omega)).1.1;rw[<-a]at k;have d:=(lJ k (n:=1) (by rw[<-b];omega)).1.1;rw[<-b]at d;exact d) (dm fun i e=>gQ iR iR))))
def aBa:bT Z:=E1 [afY,alA,ahd] [] (a1 (aQ aP)) (shr [.slot 0 true (nn 4), .slot 1 true (nn 6), s0 2] (aC qM (aC aP (l1 cI)))) [] func192 3 VA (fun a=>ig a) fun a h=>auk a h
theorem aaO {c:ah}(h:ig c)(a:(lg c).2.2=0):AA 2 c (lg c).2.1:=by
 have k:=qF h;unfold lg VA at a⊢;simp only[bG,bF,aN,ay]at a⊢;generalize dZ c=b at*;cases e:b.2.2.2 !=0 with
 | true=>
  rw[e]at a;have a:b.2.2.2=0:=a;rw[a]at e;cases e
 | false=>
  obtain⟨j,o⟩:=k (bW.1 e);rw[e]at a;simp only[jm]at a⊢;have s:=lJ j.1 (n:=1);generalize oZ b.2.2.1 1=i at*;cases d:i.2 !=0 with
  | true=>
   rw[d]at a;have a:i.2=0:=a;rw[a]at d;cases d
  | false=>
   obtain⟨l,_⟩:=s (bW.1 d);rw[d]at a;simp only[jm]at a⊢;have t:=Ju l.1 (f:=Raw.mk b.1 b.2.1 0 []);generalize eQ i.1 (Raw.mk b.1 b.2.1 0 [])=m at*;cases g:m.2.1 !=0 with
   | true=>
    rw[g]at a;have a:m.2.1=0:=a;rw[a]at g;cases g
   | false=>exact iC (iM j (iM l (t (bW.1 g)).1)) jy
def auV (s:Str):Pg (Int×Int×Int):=.cnt rP 0 10 (fun a (b:Int×Int)=> .as (List.length s<=9223372036854775807) (.br (decide ((↑(List.length s):Int)<=a)) (.ret (.inr (0,0,4))) (.ix a (List.length s) (.lt (bJ .u64 (↑(List.getD s a.toNat 0).toNat:Int)) fun c=> .cut (fun(e:Unit)=> .ob ((128:Int)≠0) (.lt (bJ .u64 (b.1+bJ .u64 (c.tmod 128*b.2))) fun d=> .br (decide (c < 128)) (.ret (.inr (d,bJ .i64 (a+1),0))) (rl (d,bJ .u64 (b.2*128))))) (.br (a==9) (.br (decide (1 < c)) (.ret (.inr (.inr (0,0,6)))) (rl ())) (rl ())))))) (fun a (b:Int×Int)=> .ret (0,0,6)) (0,1)
def ajN (s:Str):=(auV s).val
theorem avO (s:Str):Is (auV s):=
 Yl au au (fun a b _ _=>jH fun _=>bn iR (fun _=>dJ au au (dm fun f e=>lK (bK (fun _=>bn iR iR) iR) (fun h d=>bM au (dm fun g c=>bn iR iR))))) (fun a b _ _=>aZ)
def aA9:bT Z:=E0 [] [jS 3 (dh (fun b=>[s0 7, s0 5, s0 6]) (aC cI (aC (gW .u64) (l1 (gW .u64))))),jS 100010 (dh (fun b=>[]) l0)] (a1 (df cStr)) (shr [s0 0, s0 1, s0 2] (aC (gW .u64) (aC cI (l1 cI)))) [] func512 3 auV fun a=>avO a
theorem ayu (s:Str):ajN s=TB 0 0 (lN 0 s):=by
 have l:∀(k i u:Nat),i+k=10->i<=9->u < 2 ^ (7*i)->oq (fun(a:Int) (b:Int×Int)=>bif decide ((s.length:Int)<=a)then(Sum.inr (0,0,4):(Int×Int)⊕(Int×Int×Int))else thenS (bif a==9 then(bif decide (1 < bJ .u64 ((s.getD a.toNat 0).toNat:Int))then(Sum.inr (.inr (0,0,6)):Unit⊕((Int×Int)⊕(Int×Int×Int)))else .inl ())else .inl ()) fun _=>bif decide (bJ .u64 ((s.getD a.toNat 0).toNat:Int) < 128)then Sum.inr (bJ .u64 (b.1+bJ .u64 ((bJ .u64 ((s.getD a.toNat 0).toNat:Int)).tmod 128*b.2)),bJ .i64 (a+1),0)else .inl (bJ .u64 (b.1+bJ .u64 ((bJ .u64 ((s.getD a.toNat 0).toNat:Int)).tmod 128*b.2)),bJ .u64 (b.2*128))) (fun(_:Int) (_:Int×Int)=>((0:Int),(0:Int),(6:Int))) k (i:Int) ((u:Int),((2 ^ (7*i):Nat):Int))=TB u i (lN i (s.drop i)):=by
  intro k;induction k with
  | zero=>intro i u h n;omega
  | succ k B=>
   intro i u E n j;unfold oq;dsimp only;by_cases r:s.length<=i
   ·rw[jK (show(s.length:Int)<=(i:Int) by omega),Qdy r,an7];rfl
   ·rw[jF (show ¬(s.length:Int)<=(i:Int) by omega),jm,uZ,drop_at au];generalize s.getD i 0=c;have x:=c.toNat_lt;have p:bJ .u64 (c.toNat:Int)=(c.toNat:Int):=yO (k:= .u64) rfl (Nat.lt_trans x jy);rw[p];by_cases d:i=9/\1 < c.toNat
    ·rw[am4 _ _ _ _ d];have f:((i:Int)==9)=true:=by rw[d.1];rfl
     have g:decide ((1:Int) < (c.toNat:Int))=true:=jK au;rw[f,g];rfl
    ·have q:(bif (i:Int)==9 then(bif decide ((1:Int) < (c.toNat:Int))then(Sum.inr (.inr (0,0,6)):Unit⊕((Int×Int)⊕(Int×Int×Int)))else .inl ())else .inl ())= .inl ():=by
      by_cases e:i=9
      ·have g:decide ((1:Int) < (c.toNat:Int))=false:=jF au;rw[g];cases(i:Int)==9<;>rfl
      ·have f:((i:Int)==9)=false:=by rw[Qbo];omega
       rw[f];rfl
     have A:c.toNat % 128 < 128:=Qdl _ jy;have z:i<=8\/i=9/\c.toNat<=1:=by omega
     obtain⟨v,D,w⟩:=avy j (z.imp id fun h=>⟨h.1,by omega⟩) A;have o:bJ .i64 ((i:Int)+1)=((i+1:Nat):Int):=lX au;have y:bJ .u64 ((c.toNat:Int).tmod 128*((2 ^ (7*i):Nat):Int))=((c.toNat % 128*2 ^ (7*i):Nat):Int):=by
      have:(c.toNat:Int).tmod 128=((c.toNat % 128:Nat):Int):=aiY _ 128;rw[this,<-Int.natCast_mul];exact yO (k:= .u64) rfl v
     have m:bJ .u64 ((u:Int)+((c.toNat % 128*2 ^ (7*i):Nat):Int))=((u+2 ^ (7*i)*(c.toNat % 128):Nat):Int):=by
      rw[<-Int.natCast_add,Qb0 (c.toNat % 128)];exact yO (k:= .u64) rfl w
     rw[q,fG,y,m,o];by_cases e:c.toNat < 128
     ·rw[anS _ _ _ _ d e,jK (show(c.toNat:Int) < 128 by omega)];rfl
     ·rw[ah_ _ _ _ _ d e,jF (show ¬(c.toNat:Int) < 128 by omega)];have C:i<=8:=by omega
      have t:bJ .u64 (((2 ^ (7*i):Nat):Int)*128)=((2 ^ (7*(i+1)):Nat):Int):=by
       have:((2 ^ (7*i):Nat):Int)*128=((2 ^ (7*(i+1)):Nat):Int):=by
        rw[show 7*(i+1)=7*i+7 by omega,Nat.pow_add,Int.natCast_mul];rfl
       rw[this];exact yO (k:= .u64) rfl (Nat.pow_lt_pow_right jy (show 7*(i+1) < 64 by omega))
      rw[t];exact B (i+1) _ au au (aGF j)
 exact l 10 0 0 jy jy jy
theorem azm (s:Str):tH s=ajN s:=by rw[O5,ayu]
theorem abh:∀(s:Str) (i:Nat),i<=9->lN i (s.take (10 - i))=lN i s
 | [],i,_=>by rw[List.take_nil]
 | c::r,i,h=>by
  rw[show 10 - i=(9 - i)+1 by omega,Qcb];unfold lN;by_cases b:i=9/\1 < c.toNat
  ·rw[nI b,nI b]
  ·rw[kT b,kT b];by_cases a:c.toNat < 128
   ·rw[nI a,nI a]
   ·rw[kT a,kT a,show 9 - i=10 - (i+1) by omega,abh r (i+1) au]
theorem aqe (s:Str):tH (s.take 10)=tH s:=by
 rw[O5,O5];exact Ll _ (abh s 0 jy)
def ac_ (c:ah):Pg Bool:=.br (decide (0<=c.At)) (.br (decide (c.At<=c.End)) (.as (List.length c.Data<=9223372036854775807) (.ret (decide (c.End<=(↑(List.length c.Data):Int))))) (.ret false)) (.ret false)
def Zd (c:ah):=(ac_ c).val
theorem al0 (c:ah):Is (ac_ c):=
 bn (fun _=>bn (fun _=>jH fun _=>aZ) iR) iR
def aas:bT Z:=E0 [] [] (a1 (aQ aP)) (R1 aW) [] func459 1 ac_ fun a=>al0 a
theorem ajM (c:ah):Zd c=IA c:=rfl
def adm (c:ah):Pg (List UInt8):=.br (!Zd c) (.ret []) (.ob (0<=c.At/\c.At<=c.End/\c.End<=(↑(List.length c.Data):Int)) (.ret (List.drop c.At.toNat (List.take c.End.toNat c.Data))))
def EC (c:ah):=(adm c).val
theorem apD (c:ah)(h:ig c):Is (adm c):=
 aS iR (fun _=>bM (by obtain⟨⟨e,d,b,a⟩,_⟩:=h;omega) (aZ))
def F6:bT Z:=E1 [aas] [] (a1 (aQ aP)) (R1 cStr) [] func369 1 adm (fun a=>ig a) fun a h=>apD a h
def aeG (c:ah):Pg Int:=.ob (ig c) (.lt (EC c) fun a=> .as (List.length a<=9223372036854775807) (.ret (↑(List.length a):Int)))
def A7 (c:ah):=(aeG c).val
theorem aqw (c:ah)(h:ig c):Is (aeG c):=
 bM (h) (dm fun b a=>jH fun _=>aZ)
def Ci:bT Z:=E1 [F6] [] (a1 (aQ aP)) (R1 cI) [] func289 1 aeG (fun a=>ig a) fun a h=>aqw a h
def WJ (c:ah)(n:Int):Pg ah:=.ret (ah.mk c.Data (bJ .i64 (c.At+n)) c.End c.Depth c.Nodes c.Text)
def vM (c:ah)(n:Int):=(WJ c n).val
theorem aiB (c:ah)(n:Int):Is (WJ c n):=
 aZ
def Eg:bT Z:=E0 [] [] (ax (aQ aP) (a1 (df cI))) (shr [.slot 0 true (nn 6)] (l1 aP)) [] func513 1 (u2 WJ) fun a=>aiB a.1 a.2
def ac0 (c:ah):Pg (Int×ah×Int):=.ob (ig c) (.lt (EC c) fun a=> .br (a==[]) (.ret (0,c,4)) (.ix 0 (List.length a) (.ret ((↑(List.getD a 0 0).toNat:Int),vM c 1,0))))
def afv (c:ah):=(ac0 c).val
theorem aru (c:ah)(h:ig c):Is (ac0 c):=
 bM h (dm fun a d=>aS iR (fun b=>dJ au (by have:a≠[]:=(by simpa using b);have:=Qc9.2 this;omega) aZ))
def aws:bT Z:=E1 [F6,Eg] [] (a1 (aQ aP)) (shr [s0 0, .slot 1 true (nn 6), s0 2] (aC (gW .u8) (aC aP (l1 cI)))) [] func468 3 ac0 (fun a=>ig a) fun a h=>aru a h
def ND (c:ah):Pg (Int×ah×Int):=.ob (ig c) (.lt (ajN (EC c)) fun a=> .br (a.2.2 !=0) (.ret (0,c,a.2.2)) (.ret (a.1,vM c a.2.1,0)))
def vz (c:ah):=(ND c).val
theorem ahC (c:ah)(h:ig c):Is (ND c):=
 bM (h) (dm fun b a=>gQ iR iR)
def Eb:bT Z:=E1 [F6,aA9,Eg] [] (a1 (aQ aP)) (shr [s0 0, .slot 1 true (nn 6), s0 2] (aC (gW .u64) (aC aP (l1 cI)))) [] func460 3 ND (fun a=>ig a) fun a h=>ahC a h
theorem DC {c:ah}(h:ig c):EC c=rX c:=by
 have a:=II h;unfold EC adm rX;simp only[aN,bG,ay,<-ajM]at a⊢;rw[a];rfl
theorem vW {c:ah}(h:ig c):A7 c=oK c:=by
 have a:=yz h;rw[nJ h,<-a];unfold A7 aeG;simp only[bF,bG,gm,ay];rw[DC h]
theorem uj {c:ah}(h:ig c):vz c=bi c:=by
 unfold vz ND bi MP;simp only[bF,bG,aN,ay];have a:qL c 10=(rX c).take 10:=MX h (n:=10) jy;rw[DC h,<-azm,a,aqe];rfl
theorem arE {c:ah}(h:ig c):afv c=DX c:=by
 have b:=yz h;unfold afv ac0 DX aiJ;simp only[bF,bG,dN,aN,ay];rw[DC h,nJ h];obtain⟨⟨j,i,g,f⟩,_⟩:=h;cases e:rX c with
 | nil=>
  rw[e]at b;have b:(0:Int)=c.End - c.At:=b;rw[jK au];rfl
 | cons a l=>
  rw[e]at b;have b:((l.length+1:Nat):Int)=c.End - c.At:=b;rw[jF au];have k:List.getD c.Data c.At.toNat 0=a:=by
   have d:(rX c).getD 0 0=a:=by rw[e];rfl
   rw[<-d];unfold rX;simp only[List.getD,Qc3,Qcr,Qb];rw[nI au]
  rw[k];rfl
def Us (c:ah):Pg (Int×ah×Int):=.ob (ig c) (.lt (EC c) fun b=> .br (decide ((↑(List.length b):Int) < 8)) (.ret (0,c,4)) (.wh (9) default (fun(a:Int×Int)=> .br (decide (0<=a.2)) (.ix a.2 (List.length b) (rl (bJ .u64 (bJ .u64 (a.1*256)+bJ .u64 (↑(List.getD b a.2.toNat 0).toNat:Int)), bJ .i64 (a.2 - 1)))) (.ret (.inr (a.1,vM c 8,0)))) (0,7)))
def OM (c:ah):=(Us c).val
theorem akN (c:ah)(h:ig c):Is (Us c):=
 bM h (dm fun f b=>bn iR (fun j=>L_ (fun x=> -1<=x.2/\x.2<=7) (fun x=>(x.2+1).toNat) jy jy (fun x g=>⟨bn (fun i=>dJ au au aZ) iR,fun d a=>by
  revert a;simp only[aN,dN,ay,Qa7,Lh];split
  ·intro e;injection e with e
   subst e;have w:bJ .i64 (x.2 - 1)=x.2 - 1:=bY (k:= .i64) p_;exact⟨⟨by show -1<=bJ .i64 (x.2 - 1);omega,by show bJ .i64 (x.2 - 1)<=7;omega⟩,by show(bJ .i64 (x.2 - 1)+1).toNat < (x.2+1).toNat;omega⟩
  ·intro e;cases e⟩)))
def aaG:bT Z:=E1 [F6,Eg] [jS 6 (dh (fun b=>[s0 6, s0 7]) (aC (gW .u64) (l1 cI)))] (a1 (aQ aP)) (shr [s0 0, .slot 1 true (nn 6), s0 2] (aC (gW .u64) (aC aP (l1 cI)))) [] func514 3 Us (fun a=>ig a) fun a h=>akN a h
def ae5 (c:ah)(n:Int):Pg (List UInt8×ah×Int):=.ob (ig c) (.br (decide (n < 0)) (.ret ([],c,1)) (.lt (EC c) fun a=> .as (List.length a<=9223372036854775807) (.br (decide ((↑(List.length a):Int) < n)) (.ret ([],c,4)) (.br (decide (c.Text < n)) (.ret ([],c,3)) (.ob ((0:Int)<=0/\0<=n/\n<=(↑(List.length a):Int)) (.ret (List.take n.toNat a,vM c n,0)))))))
def aeX (c:ah)(n:Int):=(ae5 c n).val
theorem arF (c:ah)(n:Int)(h:ig c):Is (ae5 c n):=
 bM (h) (bn iR (fun _=>dm fun b a=>jH fun _=>bn iR (fun _=>bn iR (fun _=>bM au (aZ)))))
def ayf:bT Z:=E1 [F6,Eg] [] (ax (aQ aP) (a1 (df cI))) (shr [s0 0, .slot 1 true (nn 6), s0 2] (aC cStr (aC aP (l1 cI)))) [] func518 3 (u2 ae5) (fun a=>ig a.1) fun a h=>arF a.1 a.2 h
def ad7 (c:ah)(n:Int):Pg (ah×Int):=.br (decide (n < 0)) (.ret (c,1)) (.br (decide (c.Nodes < n)) (.ret (c,3)) (.ret (ah.mk c.Data c.At c.End c.Depth (bJ .i64 (c.Nodes - n)) c.Text,0)))
def wZ (c:ah)(n:Int):=(ad7 c n).val
theorem aka (c:ah)(n:Int):Is (ad7 c n):=
 bn iR (fun _=>bn iR iR)
def yJ:bT Z:=E0 [] [] (ax (aQ aP) (a1 (df cI))) (shr [.slot 0 true (nn 6), s0 1] (aC aP (l1 cI))) [] func216 2 (u2 ad7) fun a=>aka a.1 a.2
def UW (c:ah)(n:Int):Pg (ah×Int):=.br (decide (n < 0)) (.ret (c,1)) (.ob (ig c) (.lt (A7 c) fun a=> .br (decide (a < n)) (.ret (c,4)) (.br (decide (c.Depth < 1)) (.ret (c,17)) (.ret (ah.mk c.Data c.At (bJ .i64 (c.At+n)) (bJ .i64 (c.Depth - 1)) c.Nodes c.Text,0)))))
def WN (c:ah)(n:Int):=(UW c n).val
theorem akY (c:ah)(n:Int)(h:ig c):Is (UW c n):=
 bn iR (fun _=>bM (h) (dm fun b a=>bn iR (fun _=>bn iR iR)))
def aqL:bT Z:=E1 [Ci] [] (ax (aQ aP) (a1 (df cI))) (shr [.slot 0 true (nn 6), s0 1] (aC aP (l1 cI))) [] func516 2 (u2 UW) (fun a=>ig a.1) fun a h=>akY a.1 a.2 h
def acH (c:ah)(a:ah):Pg ah:=.br (!Zd c) (.ret c) (.br (decide (a.End < c.At)) (.ret c) (.br (decide (c.End < a.End)) (.ret c) (.br (decide (a.Nodes < 0)) (.ret c) (.br (decide (c.Nodes < a.Nodes)) (.ret c) (.ret (ah.mk c.Data a.End c.End c.Depth a.Nodes c.Text))))))
def ahU (c:ah)(a:ah):=(acH c a).val
theorem alb (c:ah)(a:ah):Is (acH c a):=
 aS iR (fun _=>bn iR (fun _=>bn iR (fun _=>bn iR (fun _=>bn iR iR))))
def arG:bT Z:=E0 [aas] [] (ax (aQ aP) (a1 (aQ aP))) (shr [.slot 0 true (nn 6)] (l1 aP)) [] func517 1 (u2 acH) fun a=>alb a.1 a.2
def alR (a:Str)(l:jW):Pg (ah×Int):=.br (decide (l.Bytes < 0)) (.ret (ah.mk [] 0 0 0 0 0,1)) (.br (decide (l.Depth < 0)) (.ret (ah.mk [] 0 0 0 0 0,1)) (.br (decide (l.Nodes < 0)) (.ret (ah.mk [] 0 0 0 0 0,1)) (.br (decide (l.Text < 0)) (.ret (ah.mk [] 0 0 0 0 0,1)) (.as (List.length a<=9223372036854775807) (.br (decide (l.Bytes < (↑(List.length a):Int))) (.ret (ah.mk [] 0 0 0 0 0,3)) (.as (List.length a<=9223372036854775807) (.ret (ah.mk a 0 (↑(List.length a):Int) l.Depth l.Nodes l.Text,0))))))))
def aBz (a:Str)(l:jW):=(alR a l).val
theorem aqK (a:Str)(l:jW):Is (alR a l):=
 bn iR (fun _=>bn iR (fun _=>bn iR (fun _=>bn iR (fun _=>jH fun _=>bn iR (fun _=>jH fun _=>aZ)))))
def as7:bT Z:=E0 [] [] (ax (df cStr) (a1 (aQ qZ))) (shr [.slot 0 true (nn 6), s0 1] (aC aP (l1 cI))) [] func215 2 (u2 alR) fun a=>aqK a.1 a.2
def leV:Str->Nat
 | []=>0
 | c::r=>c.toNat+256*leV r
theorem avV:∀s:Str,leV s < 256 ^ s.length
 | []=>by decide
 | c::r=>by
  have h:=avV r;have a:=c.toNat_lt;rw[leV,zx,Qd4];omega
theorem afV:∀(s:Str) (c:UInt8),leV (s++[c])=leV s+256 ^ s.length*c.toNat
 | [],c=>by simp[leV]
 | a::s,c=>by
  rw[Qb1,leV,leV,afV s c,zx,Qd4];rw[Nat.mul_add,Qb0 (256 ^ s.length) 256,Qeo];omega
theorem aFI (u i:Nat)(c:UInt8)(f:u < 256 ^ i)(l:i < 8):orI .u64 (u:Int) (WZ .u64 (bJ .u64 (c.toNat:Int)) (bJ .i64 (8*(i:Int))))=((u+256 ^ i*c.toNat:Nat):Int):=by
 have d:=c.toNat_lt;have e:(256:Nat) ^ i=2 ^ (8*i):=by rw[show(256:Nat)=2 ^ 8 from rfl,<-Nat.pow_mul]
 have g:256 ^ i*256<=2 ^ 64:=by
  rw[<-Qd4,show(2:Nat) ^ 64=256 ^ 8 by decide];exact Qee jy au
 have b:256 ^ i*c.toNat < 2 ^ 64:=Qce (Nat.mul_lt_mul_of_pos_left d (Nat.pow_pos jy)) g;have w:bJ .i64 (8*(i:Int))=((8*i:Nat):Int):=by rw[bY (k:= .i64) p_];omega
 have j:bJ .u64 (c.toNat:Int)=(c.toNat:Int):=yO (k:= .u64) rfl (Nat.lt_trans d jy);have a:u < 2 ^ 64:=Qce f (KF (Nat.le_mul_of_pos_right _ jy) g);have h:u < 2 ^ (8*i):=by rw[<-e];exact f
 rw[e]at b⊢;rw[j,w,aiw (k:= .u64) rfl (show 8*i<=64 by omega) (by rw[Qb0];exact b),afd (k:= .u64) rfl a (by rw[Qb0];exact b),Qb0 c.toNat,Nat.or_comm,<-Qdi h,Qdn]
theorem aq8 {s:Str}(h:8<=s.length):xQ s=((leV (s.take 8):Int),0):=by
 have d:∀(k i u:Nat),i+k=8->u < 256 ^ i->oq (fun(a b:Int)=>(Sum.inl (orI .u64 b (WZ .u64 (bJ .u64 (↑(List.getD s a.toNat 0).toNat:Int)) (bJ .i64 (8*a)))):Int⊕(Int×Int))) (fun(a b:Int)=>(b,(0:Int))) k (i:Int) (u:Int)=(((u+256 ^ i*leV ((s.drop i).take k):Nat):Int),0):=by
  intro k;induction k with
  | zero=>intro i u _ _;simp[oq,leV]
  | succ k g=>
   intro i u l f;unfold oq;dsimp only;rw[uZ,aFI u i _ f au];have j:=(s.getD i 0).toNat_lt;have c:u+256 ^ i*(s.getD i 0).toNat < 256 ^ (i+1):=by
    rw[Qd4];have:256 ^ i*(s.getD i 0).toNat<=256 ^ i*255:=Qd _ au;omega
   have q:=g (i+1) _ au c;rw[show((i:Int)+1)=((i+1:Nat):Int) by omega];refine q.trans ?_;have e:s.drop i=s.getD i 0::s.drop (i+1):=by
    rw[Qbc au];simp[List.getD,show i < s.length by omega]
   rw[e,Qcb,leV,Qd4];congr 2;rw[Nat.mul_add,Qeo,Nat.mul_left_comm];omega
 unfold xQ WT;simp only[aN,qx,dN,bF,bG,ay];rw[jF au,jm];have q:=d 8 0 0 rfl jy;simpa using q
theorem XM {c:ah}(h:ig c):OM c=wK c:=by
 have A:=yz h;have l:qL c 8=(rX c).take 8:=MX h (n:=8) jy;unfold OM Us wK PK;simp only[bF,bG,dN,aN,sS,ay];rw[DC h,l];by_cases w:8<=(rX c).length
 ·rw[aq8 qcb,List.take_take,jF au,jm];have d:=avV ((rX c).take 8);rw[C9,Nat.min_eq_left w,show(256:Nat) ^ 8=18446744073709551616 by decide]at d;generalize rX c=s at*;have e:∀(m n u:Nat),m < n->m<=8->u*256 ^ m+leV (s.take m) < 18446744073709551616->JE (fun(a:Int×Int)=>bif decide (0<=a.2)then(Sum.inl (bJ .u64 (bJ .u64 (a.1*256)+bJ .u64 (↑(List.getD s a.2.toNat 0).toNat:Int)),bJ .i64 (a.2 - 1)):(Int×Int)⊕(Int×ah×Int))else Sum.inr (a.1,vM c 8,0)) default n ((u:Int),(m:Int) - 1)=(((u*256 ^ m+leV (s.take m):Nat):Int),vM c 8,0):=by
   intro m;induction m with
   | zero=>
    intro n u y _ _;obtain⟨n,rfl⟩:∃k,n=k+1:=⟨n - 1,by omega⟩;unfold JE;simp[leV]
   | succ m x=>
    intro n u y C b;obtain⟨n,rfl⟩:∃k,n=k+1:=⟨n - 1,by omega⟩;have j:((m+1:Nat):Int) - 1=(m:Int):=by omega
    have i:s.take (m+1)=s.take m++[s.getD m 0]:=by
     rw[Qdg];congr 1;simp[List.getD,show m < s.length by omega]
    have B:=(s.getD m 0).toNat_lt;rw[i,afV,C9,Nat.min_eq_left au]at b⊢;have p:u*256 ^ (m+1)+(leV (s.take m)+256 ^ m*(s.getD m 0).toNat)=(u*256+(s.getD m 0).toNat)*256 ^ m+leV (s.take m):=by
     rw[Qd4,Qdx,Qb0 (256 ^ m) (s.getD m 0).toNat,Qeo,Qb0 256 (256 ^ m)];omega
    rw[p]at b⊢;have o:0 < 256 ^ m:=Nat.pow_pos jy;have z:u*256+(s.getD m 0).toNat < 18446744073709551616:=Nat.lt_of_le_of_lt (KF (Nat.le_mul_of_pos_right _ o) (Nat.le_add_right _ _)) b;unfold JE;dsimp only;rw[j,jK au,cond_true,uZ];have g:bJ .u64 ((u:Int)*256)=((u*256:Nat):Int):=by rw[bY (k:= .u64) p_];omega
    have v:bJ .u64 (((s.getD m 0).toNat:Nat):Int)=(((s.getD m 0).toNat:Nat):Int):=bY (k:= .u64) p_;have f:bJ .u64 (((u*256:Nat):Int)+(((s.getD m 0).toNat:Nat):Int))=((u*256+(s.getD m 0).toNat:Nat):Int):=by rw[bY (k:= .u64) p_];omega
    have t:bJ .i64 ((m:Int) - 1)=(m:Int) - 1:=bY (k:= .i64) p_;rw[g,v,f,t];exact x n _ au au b
  have q:=e 8 9 0 jy jy (by rw[Nat.zero_mul,zM];exact d);rw[Nat.zero_mul,zM]at q;exact q
 ·have r:xQ ((rX c).take 8)=(0,4):=by
   unfold xQ WT;simp only[aN,ay];rw[jK qcb];rfl
  rw[r,jK au];rfl
theorem jc (c:ah)(n:Int):wZ c n=oZ c n:=rfl
theorem alh {c:ah}(h:ig c)(n:Int):WN c n=I_ c n:=by
 unfold WN UW I_ adE;simp only[bF,bG,aN,ay];rw[vW h]
theorem ase {c:ah}(h:ig c)(n:Int):aeX c n=xJ c n:=by
 have j:=yz h;unfold aeX ae5 xJ abE;simp only[bF,bG,gm,aN,ay];rw[DC h,nJ h,j];by_cases d:n < 0
 ·rw[jK d];rfl
 rw[jF d];by_cases b:c.End - c.At < n
 ·rw[jK b];rfl
 rw[jF b];by_cases a:c.Text < n
 ·rw[jK a];rfl
 rw[jF a];have g:=CG h (n:=n) au au;have l:vM c n=qV c n:=rfl;rw[l];cases f:n==0 with
 | true=>
  have e:=eq_of_beq f;subst e;rw[g.1,Int.add_zero];rfl
 | false=>
  obtain⟨⟨m,o,q,p⟩,_⟩:=h;have e:txU (OA c n)=(rX c).take n.toNat:=by
   unfold OA VS rX;simp only[bF,bG,ay];rw[bY (k:= .i64) (show FX .i64 (c.At+n) by simp only[FX];omega)];have i:List.take n.toNat (txI (List.drop c.At.toNat (List.take (c.At+n).toNat c.Data)))=txI (List.drop c.At.toNat (List.take (c.At+n).toNat c.Data)):=Qcz (by rw[ae0,Qbe,C9];omega);rw[i,aBP,List.take_drop];congr 1;rw[List.take_take];congr 1;omega
  rw[e];rfl
def aeL (c:ah):Pg (Int×Int×ah×Int):=.ob (ig c) (.lt (vz c) fun a=> .br (a.2.2 !=0) (.ret (0,0,c,a.2.2)) (.ob ((8:Int)≠0) (.br (a.1.tmod (8:Int)==7) (.ret (0,0,c,5)) (.ob ((8:Int)≠0) (.lt (bJ .u64 (a.1.tdiv 8)) fun b=> .br (decide (b < 1)) (.ret (0,0,c,6)) (.ob ((8:Int)≠0) (.br (decide (65535 < b)) (.ret (0,0,c,6)) (.ob ((8:Int)≠0) (.ob ((8:Int)≠0) (.ret (bJ .i64 b,bJ .i64 (a.1.tmod 8),a.2.1,0)))))))))))
def Ot (c:ah):=(aeL c).val
theorem arD (c:ah)(h:ig c):Is (aeL c):=
 bM (h) (dm fun d a=>gQ iR (fun _=>bM au (bK iR (fun _=>bM au (dm fun e b=>bn iR (fun _=>bM au (bn iR (fun _=>bM au (bM au (aZ))))))))))
def Zt:bT Z:=E1 [Eb] [] (a1 (aQ aP)) (shr [s0 0, s0 1, .slot 2 true (nn 6), s0 3] (aC cI (aC cI (aC aP (l1 cI))))) [] func370 4 aeL (fun a=>ig a) fun a h=>arD a h
theorem CP {c:ah}(h:ig c):Ot c=dZ c:=by
 unfold Ot aeL dZ auT;simp only[bG,bF,aN,ay];rw[uj h]
theorem vC {c:ah}(h:ig c){v:Int×ah×Int}(a:v=vz c)(b:v.2.2=0):ig v.2.1:=by
 rw[uj h]at a;subst a;exact((jv h).2 b).1.1
def aeR (a:Int):Pg Bool:=.br (a==0) (.ret true) (.br (a==1) (.ret true) (.ret (a==2)))
def anq (a:Int):=(aeR a).val
theorem arc (a:Int):Is (aeR a):=
 bK iR (fun _=>bK iR iR)
def ayo:bT Z:=E0 [] [] (a1 (df cI)) (R1 aW) [] func515 1 aeR fun a=>arc a
def U6 (f:Raw)(c:ah):Pg (Raw×ah×Int):=.br (f.eF==2) (.ob (ig c) (.lt (OM c) fun d=> .ret (Raw.mk f.Num f.eF d.1 f.Data,d.2))) (.ob (ig c) (.lt (vz c) fun a=> .br (a.2.2 !=0) (.ret (Raw.mk f.Num f.eF a.1 f.Data,a.2)) (.br (anq f.eF) (.ret (Raw.mk f.Num f.eF a.1 f.Data,a.2)) (.ob (ig a.2.1) (.lt (bJ .u64 (A7 a.2.1)) fun g=> .br (decide (g < a.1)) (.ret (f,c,4)) (.cut (fun(h:Unit)=> .lt (bJ .i64 (a.2.1.At+bJ .i64 a.1)) fun b=> .ob (0<=a.2.1.At/\a.2.1.At<=b/\b<=(↑(List.length a.2.1.Data):Int)) (.ret (Raw.mk f.Num f.eF f.Bits (List.drop a.2.1.At.toNat (List.take b.toNat a.2.1.Data)), ah.mk a.2.1.Data b a.2.1.End a.2.1.Depth a.2.1.Nodes a.2.1.Text,0))) (.br (f.eF==3) (.lt (bJ .i64 a.1) fun e=> .br (decide (a.2.1.Text < e)) (.ret (.inr (f,c,3))) (.br (f.eF !=3) (.br (decide (65536 < a.1)) (.ret (.inr (f,c,3))) (rl ())) (rl ()))) (.br (f.eF !=3) (.br (decide (65536 < a.1)) (.ret (.inr (f,c,3))) (rl ())) (rl ())))))))))
def Gn (f:Raw)(c:ah):=(U6 f c).val
theorem ajW (f:Raw)(c:ah)(h:ig c):Is (U6 f c):=
 bK (fun _=>bM (h) (dm fun v2 g=>aZ)) (fun _=>bM (h) (dm fun e a=>gQ iR (fun _=>aS iR (fun _=>bM ((vC h a au)) (dm fun l d=>bn iR (fun _=>lK (bK (fun _=>mO fun k j _=>bn iR (fun _=>gQ (fun _=>bn iR iR) iR)) (fun _=>gQ (fun _=>bn iR iR) iR)) (fun n i=>mO fun m b _=>bM ((agd h (v2:=e) (a.trans (uj h)) au (d.trans (by rw[vW (vC h a au)])) rfl b au)) (aZ))))))))
def arf:bT Z:=E1 [Ci,Eb,aaG,ayo] [jS 100013 (dh (fun b=>[]) l0)] (ax (aQ qM) (a1 (aQ aP))) (shr [.slot 0 true (nn 4), .slot 1 true (nn 6), s0 2] (aC qM (aC aP (l1 cI)))) [] func461 3 (u2 U6) (fun a=>ig a.2) fun a h=>ajW a.1 a.2 h
theorem amq {c:ah}(h:ig c)(f:Raw):(Gn f c).2.2=(eQ c f).2.1/\((eQ c f).2.1=0->(Gn f c).1=(eQ c f).2.2/\(Gn f c).2.1=(eQ c f).1):=by
 have n:∀K:Bool->ah×Int×Raw,(thenS (bif f.eF==0 then(Sum.inl (f.eF==0):Bool⊕(ah×Int×Raw))else Sum.inl (f.eF==1)) K)=K (bif f.eF==0 then true else f.eF==1):=fun K=>by cases e:f.eF==0<;>rfl
 have m:=(jv h).2;unfold Gn U6 eQ yH anq aeR;simp only[bG,bF,aN,ay,gz];rw[XM h,uj h,n];cases l:f.eF==2 with
 | true=>rw[eq_of_beq l];exact⟨rfl,fun _=>⟨rfl,rfl⟩⟩
 | false=>
  cases w0:f.eF==0 with
  | true=>cases(bi c).2.2 !=0<;>exact⟨rfl,fun _=>⟨rfl,rfl⟩⟩
  | false=>cases q:f.eF==1 with
   | true=>cases(bi c).2.2 !=0<;>exact⟨rfl,fun _=>⟨rfl,rfl⟩⟩
   | false=>
    unfold Bz aaJ;simp only[bG,bF,aN,ay,gz,jm];cases e:(bi c).2.2 !=0 with
    | true=>exact⟨rfl,fun k=>absurd k (by simpa[bne]using e)⟩
    | false=>
     have o:∀K:Int->Str×ah×Int,thenS (bif f.eF==3 then(Sum.inl c.Text:Int⊕(Str×ah×Int))else Sum.inl 65536) K=K (bif f.eF==3 then c.Text else 65536):=fun K=>by cases f.eF==3<;>rfl
     have b:=m (bW.1 e);have j:(bi c).2.1.Text=c.Text:=b.1.2.2.2.2.1;rw[vW b.1.1,o];simp only[jm];cases d:decide (bJ .u64 (oK (bi c).2.1) < (bi c).1)with
     | true=>exact⟨rfl,fun k=>absurd (show(4:Int)=0 from k) jy⟩
     | false=>
      rw[j];cases g:f.eF==3 with
      | true=>
       have a:(f.eF !=3)=false:=by simp[bne,g]
       rw[a];simp only[cond_true,jm];cases decide (c.Text < bJ .i64 (bi c).1)with
       | true=>exact⟨rfl,fun k=>absurd (show(3:Int)=0 from k) jy⟩
       | false=>exact⟨rfl,fun _=>⟨rfl,rfl⟩⟩
      | false=>
       have a:(f.eF !=3)=true:=by simp[bne,g]
       have i:=(jv h).1;have kl:=nJ b.1.1;have p:=b.1.1.1;have d:=Qbm d;rw[kl,bY (k:= .u64) p_]at d;have w:bJ .i64 (bi c).1=(bi c).1:=bY (k:= .i64) (by simp only[FX];obtain⟨r,u2⟩:=i;omega);rw[a,w];simp only[cond_true,jm];cases decide (65536 < (bi c).1)with
       | true=>exact⟨rfl,fun k=>absurd (show(3:Int)=0 from k) jy⟩
       | false=>exact⟨rfl,fun _=>⟨rfl,rfl⟩⟩
def U9 (c:ah):Pg (Raw×ah×Int):=.ob (ig c) (.lt (Ot c) fun a=> .br (a.2.2.2 !=0) (.ret (Raw.mk 0 0 0 [],c,a.2.2.2)) (.lt (wZ a.2.2.1 1) fun b=> .br (b.2 !=0) (.ret (Raw.mk 0 0 0 [],c,b.2)) (.ob (ig b.1) (.lt (Gn (Raw.mk a.1 a.2.1 0 []) b.1) fun d=> .br (d.2.2 !=0) (.ret (Raw.mk 0 0 0 [],c,d.2.2)) (.ret (d.1,d.2.1,0))))))
def Ze (c:ah):=(U9 c).val
theorem ajD (c:ah)(h:ig c):Is (U9 c):=
 bM (h) (dm fun f a=>gQ iR (fun _=>dm fun g b=>gQ iR (fun _=>bM (by have k:=(qF h (by rw[<-CP h,<-a];omega)).1.1;rw[<-CP h,<-a]at k;have d:=(lJ k (n:=1) (by rw[<-jc,<-b];omega)).1.1;rw[<-jc,<-b]at d;exact d) (dm fun i e=>gQ iR iR))))
def asy:bT Z:=E1 [yJ,Zt,arf] [] (a1 (aQ aP)) (shr [.slot 0 true (nn 4), .slot 1 true (nn 6), s0 2] (aC qM (aC aP (l1 cI)))) [] func372 3 U9 (fun a=>ig a) fun a h=>ajD a h
theorem ale {c:ah}(h:ig c):Ze c=lg c:=by
 have k:=qF h;unfold Ze U9 lg VA;simp only[bG,bF,aN,ay];rw[CP h];cases e:(dZ c).2.2.2 !=0 with
 | true=>rfl
 | false=>
  obtain⟨a,_⟩:=k (bW.1 e);have s:=lJ a.1 (n:=1);rw[jc];cases i:(oZ (dZ c).2.2.1 1).2 !=0 with
  | true=>rfl
  | false=>
   obtain⟨g,_⟩:=s (bW.1 i);obtain⟨b,d⟩:=amq g.1 (Raw.mk (dZ c).1 (dZ c).2.1 0 []);simp only[jm];rw[b];cases j:(eQ (oZ (dZ c).2.2.1 1).1 (Raw.mk (dZ c).1 (dZ c).2.1 0 [])).2.1 !=0 with
   | true=>rfl
   | false=>
    obtain⟨l,f⟩:=d (bW.1 j);rw[l,f]
def avg (g:bC)(a:Str):Pg Bool:=.ret (g.Name==a)
def afy (g:bC)(a:Str):=(avg g a).val
def ah5:bT Z:=UH [] [] (ax (aQ jV) (a1 (lm 0))) (b1 (cZ cStr)) (R1 aW) [0] func118 1 (u11 avg)
def awV:bT Z:=EIB [ah5] Xr 118 [0] (b1 (cZ cStr)) func117 aU fun x b=>afy x b
def ait (p:aJ)(a:Str):Pg (Int×Bool):=.lt (dP (fun(x:bC)=>afy x a) p.aO) fun b=> .ret (max b 0,decide (0<=b))
def nU (p:aJ)(a:Str):=(ait p a).val
def aok:bT Z:=E0 [awV,ah5] [] (ax (aQ dU) (a1 (df cStr))) (shr [s0 0, s0 1] (aC cI (l1 aW))) [] func66 2 (u2 ait)
def aIa (o:Op)(a:Int):Pg Bool:=.ret (o.Num==a)
def ahb (o:Op)(a:Int):=(aIa o a).val
def ajn:bT Z:=UH [] [] (ax (aQ jD) (a1 (lm 0))) (b1 (cZ cI)) (R1 aW) [0] func273 1 (u11 aIa)
def aDY:bT Z:=EIB [ajn] aml 273 [0] (b1 (cZ cI)) func360 vk fun x b=>ahb x b
def amY (g:bC)(b:Int):Pg (Op×Bool):=.lt (dP (fun(x:Op)=>ahb x b) g.Ops) fun a=> .br (decide (a < 0)) (.ret (Op.mk 0 [] [] 0 0 0 0 0,false)) (.ix a g.Ops.length (.ret (g.Ops.getD a.toNat vk,true)))
def aul (g:bC)(a:Int):=(amY g a).val
theorem at7 (g:bC)(a:Int):Is (amY g a):=
 dm fun c b=>bn iR (fun _=>dJ au (by rw[b];exact(kU (fun(x:Op)=>ahb x a) g.Ops).1) aZ)
def aBW:bT Z:=UH [ajn,aDY] [] (ax (aEJ 273 [0]) (a1 (aQ jV))) (b1 (cZ cI)) (shr [.slot 0 true (nn 8), s0 1] (aC jD (l1 aW))) [0] func274 2 (fun a=>amY a.1.2 a.2) fun a=>at7 a.1.2 a.2
def pOp (g:bC)(a:Int):Pg (Op×Bool):=.ret (aul g a)
def qK (g:bC)(a:Int):=(pOp g a).val
def aCD:bT Z:=E0 [ajn,aBW] [] (ax (aQ jV) (a1 (df cI))) (shr [.slot 0 true (nn 8), s0 1] (aC jD (l1 aW))) [] func196 2 (u2 pOp)
def aCB (b:Item)(a:Int):Pg Bool:=.ret (bJ .u64 b.Num==a)
def PL (b:Item)(a:Int):=(aCB b a).val
def acv:bT Z:=UH [] [] (ax (aQ Fh) (a1 (lm 0))) (b1 (cZ (gW .u64))) (R1 aW) [0] func500 1 (u11 aCB)
def az7:bT Z:=EIB [acv] oD 500 [0] (b1 (cZ (gW .u64))) func341 iT fun x b=>PL x b
def az3:bT Z:=EAB [az7,acv] oD 500 [0] (b1 (cZ (gW .u64))) func251 fun x b=>PL x b
def azy (p:aJ)(a:Int)(b:Int):Pg Bool:=.br (decide (a < 0)) (.ret false) (.br (decide ((↑p.Enums.length:Int)<=a)) (aL p.Enums (.ret false)) (aL p.Enums (.br (decide (2147483647 < b)) (.ret false) (.ix a p.Enums.length (.br (p.Enums.getD a.toNat fF).Open (.ret true) (.ret ((p.Enums.getD a.toNat fF).Items.any fun(x:Item)=>PL x b)))))))
def BM (p:aJ)(a:Int)(b:Int):=(azy p a b).val
def aEQ:bT Z:=E0 [az3,acv] [] (ax (aQ dU) (ax (df cI) (a1 (df (gW .u64))))) (R1 aW) [] func435 1 (u3 azy)
def afg (o:Op):Pg Bool:=.br (o.Card==4) (.br (decide (1<=o.Kind)) (.br (decide (o.Kind<=6)) (.ret true) (.ret (o.Kind==9))) (.ret (o.Kind==9))) (.ret false)
def Gz (o:Op):=(afg o).val
def aav:bT Z:=E0 [] [] (a1 (aQ jD)) (R1 aW) [] func264 1 afg
def aC6 (o:Op):Pg Int:=.br (o.Card==5) (.ret 6) (.br (Gz o) (.ret 5) (.cut (fun(b:Bool)=> .br b (.ret 0) (.cut (fun(a:Bool)=> .br a (.ret 1) (.br (o.Kind==6) (.ret 2) (.br (o.Kind==7) (.br (o.Kind==7) (.ret 3) (.br (o.Kind==10) (.ret 4) (.ret (-1)))) (.br (o.Kind==8) (.ret 3) (.br (o.Kind==10) (.ret 4) (.ret (-1))))))) (.br (o.Kind==2) (rl (o.Kind==2)) (rl (o.Kind==3))))) (.br (o.Kind==1) (rl (o.Kind==1)) (.br (o.Kind==4) (rl (o.Kind==4)) (.br (o.Kind==5) (rl (o.Kind==5)) (rl (o.Kind==9)))))))
def aFB (o:Op):=(aC6 o).val
def azB:bT Z:=E0 [aav] [jS 100010 (dh (fun b=>[s0 12]) (l1 aW)),jS 100013 (dh (fun b=>[s0 17]) (l1 aW))] (a1 (aQ jD)) (R1 cI) [] func352 1 aC6
def aCw (o:Op):Pg Int:=.ret (aFB (Op.mk o.Num o.Name o.Alias 2 o.Key o.Kind o.Target o.Union))
def rG (o:Op):=(aCw o).val
def NL:bT Z:=E0 [azB] [] (a1 (aQ jD)) (R1 cI) [] func266 1 aCw
def avT (v:af)(c:Int):Pg (af×Bool):=aL v.Slots (.each false Ec v.Slots iV (fun a b (d:Unit)=> .ix a v.Slots.length (.br (b.Num==c) (.ret (.inr (b.Val.re,true))) (rl ()))) (fun a (d:Unit)=> .ret (af.mk 0 0 [] [] [] [] [],false)) ())
def dG (v:af)(a:Int):=(avT v a).val
def Md:bT Z:=E0 [] [jS 2 (dh (fun b=>[s0 11]) (l1 cI))] (ax (aQ aH) (a1 (df cI))) (shr [.slot 0 true (nn 7), s0 1] (aC aH (l1 aW))) [] func119 2 (u2 avT)
def VE (x:af):Pg (List af):=.br (x.Kind==11) (.ret x.List) (.br (x.Kind==12) (aL x.Pairs (.each false rP x.Pairs fH (fun b c (a:List af)=> .ix b x.Pairs.length (.ob (dE (a.length+1) 128) (rl (a++[c.Val.re])))) (fun b (a:List af)=> .ret a) [])) (.ret [x.re]))
def wQ (x:af):=(VE x).val
theorem Zf (x:af)(h:x.Pairs.length<=1048576):kw (VE x) (fun r=>∀y∈r,y∈x.List\/(∃p∈x.Pairs,y=p.Val)\/y=x):=
 dR (fun _=>ai qap) (fun _=>dR (fun _=>fD <| dA (fun(b:Nat) a=>a.length<=b/\∀z∈a,∃p∈x.Pairs,z=p.Val) (by exact⟨rC 0,fun _ hz=>absurd hz kM⟩) au (fun b a uC c=>have hI:a.length<=b/\∀z∈a,∃p∈x.Pairs,z=p.Val:=c;aX au au (aj ((by first | omega | exact dw qby qby)) (ai qap))) (fun a hI=>have hI:a.length<=x.Pairs.length/\∀z∈a,∃p∈x.Pairs,z=p.Val:=hI;ai qap)) (fun _=>ai qap))
def au_:bT Z:=E1 [] [jS 7 (dh (fun b=>[s0 17, .slot 3 false [some 65]]) (aC cI (l1 Dy)))] (a1 (aQ aH)) (R1 Dy) [] func120 1 VE (fun a=>a.Pairs.length<=1048576) fun a h=>(Zf a h).1

def pcB (c:UInt8):Bool:=(decide (97<=c.toNat) && decide (c.toNat<=122)) || (decide (65<=c.toNat) && decide (c.toNat<=90))
def pnB (c:UInt8):Bool:=pcB c || (decide (48<=c.toNat) && decide (c.toNat<=57)) || decide (c.toNat=95)
def OO (s:Str):Bool:=decide (s.length<=40) && match s with
 | []=>false
 | c::r=>pcB c && r.all pnB
theorem anQ (c:UInt8):pcB c=true ↔ (97<=c.toNat/\c.toNat<=122)\/(65<=c.toNat/\c.toNat<=90):=by
 unfold pcB;simp only[Qbi,jA,Lh]
theorem aoM (c:UInt8):pnB c=true ↔ ((97<=c.toNat/\c.toNat<=122)\/(65<=c.toNat/\c.toNat<=90))\/(48<=c.toNat/\c.toNat<=57)\/c.toNat=95:=by
 unfold pnB;simp only[Qbi,jA,Lh,anQ,or_assoc]
theorem am8 {s:Str}{p:Nat}(h:byteAt s p < 128):sZ s p=(byteAt s p:Int)/\Df s p=1:=by
 unfold sZ Df;rw[UX];unfold dcN;rw[nI h];exact⟨rfl,rfl⟩
theorem atQ {s:Str}{p:Nat}(h:128<=byteAt s p):128<=sZ s p:=by
 unfold sZ;rw[UX];unfold dcN;rw[kT au];have c:∀(a b:Prop) [Decidable a] [Decidable b] (x y z:Nat×Nat),128<=x.1->128<=y.1->128<=z.1->True:=fun _ _ _ _ _ _ _ _ _ _=>trivial
 (repeat' split)<;>simp_all<;>omega
def cls (c:Int):Pg Int:=.br (decide (97<=c)) (.br (decide (c<=122)) (.ret 1) (.br (decide (65<=c)) (.br (decide (c<=90)) (.ret 2) (.br (decide (48<=c)) (.br (decide (c<=57)) (.ret 3) (.br (c==95) (.ret 4) (.ret 0))) (.br (c==95) (.ret 4) (.ret 0)))) (.br (decide (48<=c)) (.br (decide (c<=57)) (.ret 3) (.br (c==95) (.ret 4) (.ret 0))) (.br (c==95) (.ret 4) (.ret 0))))) (.br (decide (65<=c)) (.br (decide (c<=90)) (.ret 2) (.br (decide (48<=c)) (.br (decide (c<=57)) (.ret 3) (.br (c==95) (.ret 4) (.ret 0))) (.br (c==95) (.ret 4) (.ret 0)))) (.br (decide (48<=c)) (.br (decide (c<=57)) (.ret 3) (.br (c==95) (.ret 4) (.ret 0))) (.br (c==95) (.ret 4) (.ret 0))))
def Dh (c:Int):=(cls c).val
def aHw:bT Z:=E0 [] [] (a1 (df (gW .i32))) (R1 cI) [] func60 1 cls
theorem aBg (c:Int):Dh c=if 97<=c/\c<=122 then 1 else if 65<=c/\c<=90 then 2 else if 48<=c/\c<=57 then 3 else if c=95 then 4 else 0:=by
 unfold Dh cls;simp only[aN,ay,Qa7,Lh,Vt];(repeat' split)<;>first | rfl | omega
theorem O8 (s:Str)(p:Nat):(Dh (sZ s p)=0 ↔ pnB (s.getD p 0)=false)/\((Dh (sZ s p)=1\/Dh (sZ s p)=2) ↔ pcB (s.getD p 0)=true):=by
 have d:=anQ (s.getD p 0);have e:=aoM (s.getD p 0);rw[aBg,Bool.eq_false_iff,ne_eq,d,e];have a:byteAt s p=(s.getD p 0).toNat:=rfl;by_cases h:byteAt s p < 128
 ·rw[(am8 h).1,a];generalize (s.getD p 0).toNat=b;(repeat' split)<;>omega
 ·have:=atQ (s:=s) (p:=p) au;rw[a]at h;generalize (s.getD p 0).toNat=b at*;generalize sZ s p=c at*;(repeat' split)<;>omega
theorem WX {s:Str}{p:Nat}(h:pnB (s.getD p 0)=true):Df s p=1:=by
 have:=(aoM _).1 h;exact(am8 (s:=s) (p:=p) (by show(s.getD p 0).toNat < 128;omega)).2
theorem aHt {c:UInt8}(h:pcB c=true):pnB c=true:=by unfold pnB;rw[h];rfl
theorem ax7 {s:Str}{p:Nat}(h:p < s.length):s.drop p=s.getD p 0::s.drop (p+1):=by
 rw[Qbc h];simp[List.getD,h]
def an9 (s:Str):Pg Bool:=.wh (s.length+1) default (fun(a:List UInt8×Int)=> .br (decide (a.2.toNat < a.1.length)) (.lt (Dh (sZ a.1 a.2.toNat)) fun b=> .br (b==0) (.ret (.inr false)) (.br ((↑a.2.toNat:Int)==0) (.br (b !=1) (.br (b !=2) (.ret (.inr false)) (rl (a.1,(↑(a.2.toNat+Df a.1 a.2.toNat):Int)))) (rl (a.1,(↑(a.2.toNat+Df a.1 a.2.toNat):Int)))) (rl (a.1,(↑(a.2.toNat+Df a.1 a.2.toNat):Int))))) (.br (decide (1<=(↑(List.length s):Int))) (.ret (.inr (decide ((↑(List.length s):Int)<=40)))) (.ret (.inr false)))) (s,0)
def PV (s:Str):=(an9 s).val
theorem atd (s:Str):Is (an9 s):=
 by
 refine L_ (fun x=>x.1=s/\0<=x.2) (fun x=>s.length - x.2.toNat) ⟨rfl,by omega⟩ kM (fun x f=>⟨bn (fun _=>dm fun l k=>bK iR (fun _=>bK (fun _=>gQ (fun _=>gQ iR iR) iR) iR)) (fun _=>bn iR iR),fun d a=> ?_⟩);obtain⟨t,x⟩:=x;obtain⟨rfl,g⟩:=f;dsimp only at g a⊢;revert a;simp only[aN,bF,ay];by_cases c:x.toNat < t.length
 ·rw[jK c,cond_true];by_cases b:Dh (sZ t x.toNat)=0
  ·rw[b];intro e;cases e
  ·have h:pnB (t.getD x.toNat 0)=true:=by
    rw[<-Bool.not_eq_false];exact fun e=>b ((O8 t x.toNat).1.2 e)
   have j:=WX h;have:(Dh (sZ t x.toNat)==0)=false:=by simpa using b
   rw[this,jm,j];intro e;have i:d=(t,((x.toNat+1:Nat):Int)):=by
    revert e;cases((x.toNat:Int)==0)<;>cases(Dh (sZ t x.toNat) !=1)<;>cases(Dh (sZ t x.toNat) !=2)<;>simp only[cond_true,jm]<;>intro e<;>first | (cases e;rfl) | (cases e;done)
   subst i;exact⟨⟨rfl,by omega⟩,by show t.length - (((x.toNat+1:Nat):Int)).toNat < _;omega⟩
 ·rw[jF c,jm];intro e;revert e;cases decide ((1:Int)<=(t.length:Int))<;>intro e<;>cases e
def adI:bT Z:=E0 [aHw] [jS 2 (dh (fun b=>[.iter (pid (b 7))]) (l1 (dM cStr cI)))] (a1 (df cStr)) (R1 aW) [] func29 1 an9 fun a=>atd a
theorem Ym (s:Str):PV s=OO s:=by
 have k:∀(m p:Nat),1<=p->p<=s.length->s.length - p < m->JE (fun(a:List UInt8×Int)=>bif decide (a.2.toNat < a.1.length)then(bif Dh (sZ a.1 a.2.toNat)==0 then(Sum.inr false:(List UInt8×Int)⊕Bool)else(bif ((a.2.toNat:Nat):Int)==0 then(bif Dh (sZ a.1 a.2.toNat) !=1 then(bif Dh (sZ a.1 a.2.toNat) !=2 then .inr false else .inl (a.1,((a.2.toNat+Df a.1 a.2.toNat:Nat):Int)))else .inl (a.1,((a.2.toNat+Df a.1 a.2.toNat:Nat):Int)))else .inl (a.1,((a.2.toNat+Df a.1 a.2.toNat:Nat):Int))))else(bif decide (1<=((s.length:Nat):Int))then .inr (decide (((s.length:Nat):Int)<=40))else .inr false)) default m (s,(p:Int))=((s.drop p).all pnB && decide (s.length<=40)):=by
  intro m;induction m with
  | zero=>intro p _ _ h;omega
  | succ m n=>
   intro p j g t;unfold JE;simp only[uZ];by_cases h:p < s.length
   ·rw[jK h,cond_true,ax7 h,Qcj];cases b:pnB (s.getD p 0)with
    | false=>
     rw[(O8 s p).1.2 b];rfl
    | true=>
     have:(Dh (sZ s p)==0)=false:=by
      rw[Qbo];exact fun e=>by rw[(O8 s p).1.1 e]at b;cases b
     have f:((p:Int)==0)=false:=by rw[Qbo];omega
     rw[this,f,WX b];simp only[jm];rw[n (p+1) au au au,Qb9]
   ·have:p=s.length:=by omega
    subst this;rw[jF h,jK (show(1:Int)<=(s.length:Int) by omega),Qc1];simp only[jm,cond_true,List.all_nil,Qb9];congr 1;rw[eq_iff_iff];omega
 unfold PV an9;rw[sS];simp only[aN,bF,ay];unfold OO;cases s with
 | nil=>rfl
 | cons c r=>
  unfold JE;simp only[Int.toNat_zero];rw[jK (show 0 < (c::r).length by simp),cond_true];have d:=O8 (c::r) 0;have q:(c::r).getD 0 0=c:=rfl;rw[q]at d;cases b:pcB c with
  | false=>
   rw[b]at d;have j:(Dh (sZ (c::r) 0) !=1)=true:=by
    rw[Qdd];exact fun e=>by have:=d.2.1 (.inl e);cases this
   have g:(Dh (sZ (c::r) 0) !=2)=true:=by
    rw[Qdd];exact fun e=>by have:=d.2.1 (.inr e);cases this
   rw[j,g];cases Dh (sZ (c::r) 0)==0<;>simp
  | true=>
   rw[b]at d;have i:=d.2.2 rfl;have l:(Dh (sZ (c::r) 0)==0)=false:=by rw[Qbo];omega
   have o:Df (c::r) 0=1:=WX (s:=c::r) (p:=0) (aHt b);have:=k ((c::r).length) 1 au kM kM;have f:(((0:Nat):Int)==0)=true:=rfl;rw[l,o,f];have e:(bif Dh (sZ (c::r) 0) !=1 then(bif Dh (sZ (c::r) 0) !=2 then(Sum.inr false:(List UInt8×Int)⊕Bool)else .inl (c::r,((0+1:Nat):Int)))else .inl (c::r,((0+1:Nat):Int)))= .inl (c::r,((1:Nat):Int)):=by
    rcases i with h | h
    ·rw[h];rfl
    ·rw[h];rfl
   simp only[jm,cond_true];rw[e];refine this.trans ?_;rw[Qb9,Bool.and_comm];rfl
def UA (b:Int):Pg Bool:=.br (decide (97<=b)) (.ret (decide (b<=122))) (.ret false)
def wY (b:Int):=(UA b).val
theorem ajm (b:Int):Is (UA b):=
 bn iR iR
def arp:bT Z:=E0 [] [] (a1 (df (gW .u8))) (R1 aW) [] func76 1 UA fun a=>ajm a
def aou (b:Int):Pg Bool:=.br (decide (65<=b)) (.ret (decide (b<=90))) (.ret false)
def Gs (b:Int):=(aou b).val
theorem ax2 (b:Int):Is (aou b):=
 bn iR iR
def aAH:bT Z:=E0 [] [] (a1 (df (gW .u8))) (R1 aW) [] func77 1 aou fun a=>ax2 a
def acP (s:Str):Pg Bool:=.br ((↑(List.length s):Int)==0) (.ret false) (.br (decide (40 < (↑(List.length s):Int))) (.ret false) (.ix 0 (List.length s) (.br (!wY (↑(List.getD s 0 0).toNat:Int)) (.ix 0 (List.length s) (.br (!Gs (↑(List.getD s 0 0).toNat:Int)) (.ret false) (.TN [] (some (List.length s<=9223372036854775807)) Ec 1 (↑(List.length s):Int) (fun a (c:Unit)=> .ix a (List.length s) (.br (!wY (↑(List.getD s a.toNat 0).toNat:Int)) (.ix a (List.length s) (.br (!Gs (↑(List.getD s a.toNat 0).toNat:Int)) (.ix a (List.length s) (.br ((↑(List.getD s a.toNat 0).toNat:Int) !=95) (.ix a (List.length s) (.br (decide ((↑(List.getD s a.toNat 0).toNat:Int) < 48)) (.ret (.inr false)) (.ix a (List.length s) (.br (decide (57 < (↑(List.getD s a.toNat 0).toNat:Int))) (.ret (.inr false)) (rl ()))))) (rl ()))) (rl ()))) (rl ()))) (fun a (c:Unit)=> .ret true) ()))) (.TN [] (some (List.length s<=9223372036854775807)) Ec 1 (↑(List.length s):Int) (fun b (d:Unit)=> .ix b (List.length s) (.br (!wY (↑(List.getD s b.toNat 0).toNat:Int)) (.ix b (List.length s) (.br (!Gs (↑(List.getD s b.toNat 0).toNat:Int)) (.ix b (List.length s) (.br ((↑(List.getD s b.toNat 0).toNat:Int) !=95) (.ix b (List.length s) (.br (decide ((↑(List.getD s b.toNat 0).toNat:Int) < 48)) (.ret (.inr false)) (.ix b (List.length s) (.br (decide (57 < (↑(List.getD s b.toNat 0).toNat:Int))) (.ret (.inr false)) (rl ()))))) (rl ()))) (rl ()))) (rl ()))) (fun b (d:Unit)=> .ret true) ()))))
def wO (s:Str):=(acP s).val
theorem ap_ (s:Str):Is (acP s):=
 bK iR (fun _=>bn iR (fun _=>dJ au au (aS (fun _=>dJ au au (aS iR (fun _=>Vb trivial au (fun h=>by simp only[tN]at h;omega) (fun a c _ _ _=>dJ au au (aS (fun _=>dJ au au (aS (fun _=>dJ au au (gQ (fun _=>dJ au au (bn iR (fun _=>dJ au au (bn iR iR)))) iR)) iR)) iR)) (fun a c _ _=>aZ)))) (fun _=>Vb trivial au (fun h=>by simp only[tN]at h;omega) (fun b d _ _ _=>dJ au au (aS (fun _=>dJ au au (aS (fun _=>dJ au au (gQ (fun _=>dJ au au (bn iR (fun _=>dJ au au (bn iR iR)))) iR)) iR)) iR)) (fun b d _ _=>aZ)))))
def VJ:bT Z:=E0 [arp,aAH] [jS 4 (dh (fun b=>[s0 3]) (l1 cI))] (a1 (df cStr)) (R1 aW) [] func38 1 acP fun a=>ap_ a
theorem aCY (c:UInt8):(wY (c.toNat:Int) || Gs (c.toNat:Int))=pcB c:=by
 unfold wY UA Gs aou pcB;simp only[aN,ay];rw[Qba];simp only[Qa7,Qbi,jA,Lh];(repeat' split)<;>simp<;>omega
theorem Ik (s:Str):wO s=OO s:=by
 have h:∀(r:Str) (a:List UInt8),oq (fun(b:Int) (w:Unit)=>bif !wY (((a++r).getD b.toNat 0).toNat:Int)then(bif !Gs (((a++r).getD b.toNat 0).toNat:Int)then(bif (((a++r).getD b.toNat 0).toNat:Int) !=95 then(bif decide ((((a++r).getD b.toNat 0).toNat:Int) < 48)then(Sum.inr false:Unit⊕Bool)else(bif decide (57 < (((a++r).getD b.toNat 0).toNat:Int))then .inr false else .inl ()))else .inl ())else .inl ())else .inl ()) (fun(_:Int) (_:Unit)=>true) r.length (a.length:Int) ()=r.all pnB:=by
  intro r;induction r with
  | nil=>intro a;rfl
  | cons c r u=>
   intro a;rw[zx,Iw,Qcj];have e:(a++c::r).getD ((a.length:Int)).toNat 0=c:=by simp[List.getD]
   rw[e];have g:=u (a++[c]);rw[Qa2,tK]at g;have p:(((a.length+[c].length:Nat)):Int)=(a.length:Int)+1:=rfl;rw[p]at g;have j:pnB c=(pcB c || (decide (48<=c.toNat) && decide (c.toNat<=57)) || decide (c.toNat=95)):=rfl;have d:=aCY c;rw[<-d]at j;have q:((c.toNat:Int) !=95)= !decide (c.toNat=95):=by rw[Qba];simp;omega
   have m:decide ((c.toNat:Int) < 48)= !decide (48<=c.toNat):=by rw[Qba];simp;omega
   have v:decide (57 < (c.toNat:Int))= !decide (c.toNat<=57):=by rw[Qba];simp;omega
   rw[j,q,m,v];have l:oq _ _ r.length ((a.length:Int)+1) ()=r.all pnB:=g;cases wY (c.toNat:Int)<;>cases Gs (c.toNat:Int)<;>cases decide (c.toNat=95)<;>cases decide (48<=c.toNat)<;>cases decide (c.toNat<=57)<;>first | rfl | (refine Qcf l ?_;simp)
 unfold wO acP OO;simp only[aN,dN,aum,ay];cases s with
 | nil=>rfl
 | cons c r=>
  have o:(((c::r).length:Int)==0)=false:=by rw[Qbo];simp only[zx];omega
  have n:(c::r).getD 0 0=c:=rfl;have f:(((c::r).length:Int) - 1).toNat=r.length:=by simp only[zx];omega
  have d:=h r [c];have t:=aCY c;have i:decide (40 < ((c::r).length:Int))= !decide ((c::r).length<=40):=by rw[Qba];simp;omega
  rw[o,n,f,i];have k:oq _ _ r.length 1 ()=r.all pnB:=d;dsimp only;cases decide ((c::r).length<=40)with
  | false=>rfl
  | true=>
   simp only[Qbj,jm,Qb9];rw[<-t];cases wY (c.toNat:Int)<;>cases Gs (c.toNat:Int)<;>first | rfl | (refine Qcf k ?_;simp)
def adA (s:Str):Pg Bool:=.br (decide (120 < (↑(List.length s):Int))) (.ret false) (.each true rP s 0 (fun a d (b:List UInt8)=> .ix a (List.length s) (.br ((↑d.toNat:Int) !=46) (.lt (bJ .i64 (a+1)) fun c=> .ob (0<=a/\a<=c/\c<=(↑(List.length s):Int)) (.ob (b.length+(List.drop a.toNat (List.take c.toNat s)).length<=9223372036854775807) (rl (b++List.drop a.toNat (List.take c.toNat s))))) (.br (!wO b) (.ret (.inr false)) (.ret (.inl []))))) (fun a (b:List UInt8)=> .ret (wO b)) [])
def H9 (s:Str):=(adA s).val
theorem arw (s:Str):Is (adA s):=
 by
 refine bn iR fun j=>Dc (fun k y=>y.length<=k) (rC _) (.inl rfl) (fun a b m l d=> ?_) (fun b _ _=>aZ);have d:b.length<=a:=d;have w:bJ .i64 ((a:Int)+1)=((a+1:Nat):Int):=lX au;rw[w];have f:(List.drop a (List.take (a+1) s)).length=1:=by rw[Qbe,C9];omega
 refine⟨dJ au au (gQ (fun _=>dm fun i g=>bM au (bM (by subst g;rw[uZ,uZ,f];omega) aZ)) (fun _=>aS iR iR)),fun h c=> ?_⟩;revert c;simp only[dN,aN,bF,bG,ay,uZ];show _->h.length<=a+1
 cases((s.getD a 0).toNat:Int) !=46<;>cases !wO b<;>simp only[cond_true,jm]<;>intro e<;>first | (cases e;simp only[tK,BP,f];omega) | (cases e;done)
def agN:bT Z:=E0 [VJ] [jS 5 (dh (fun b=>[s0 4, s0 3]) (aC cI (l1 cStr)))] (a1 (df cStr)) (R1 aW) [] func37 1 adA fun a=>arw a
theorem ab9 (s:Str):H9 s=(decide (s.length<=120) && (iw 46 s).all OO):=by
 have j:∀(r a:Str) (y:List UInt8),(a++r).length<=9223372036854775000->jZ (fun(k:Nat) (n:UInt8) (f:List UInt8)=>bif (n.toNat:Int) !=46 then(Sum.inl (f++List.drop k (List.take (bJ .i64 ((k:Int)+1)).toNat (a++r))):List UInt8⊕Bool)else(bif !wO f then .inr false else .inl [])) (fun _ f=>wO f) r a.length y=(headB y (iw 46 r)).all OO:=by
  intro r;induction r with
  | nil=>
   intro a y _;show wO y=_
   rw[Ik];simp[iw,headB]
  | cons c r u=>
   intro a y l;unfold jZ;have i:a.length < 9223372036854775807:=by rw[tK,zx]at l;omega
   have p:(bJ .i64 ((a.length:Int)+1)).toNat=a.length+1:=by rw[lX i];rfl
   have t:List.drop a.length (List.take (bJ .i64 ((a.length:Int)+1)).toNat (a++c::r))=[c]:=by
    rw[p,List.take_append];simp
   have g:=fun y=>u (a++[c]) y (by simpa using l)
   simp only[Qa2,Qb1,Qbs]at g;have o:(a++[c]).length=a.length+1:=by simp
   rw[o]at g;rw[t];cases d:c==46 with
   | false=>
    have b:((c.toNat:Int) !=46)=true:=by
     rw[Qdd];intro e;have:c=46:=Qcn.1 (by have:(46:UInt8).toNat=46:=rfl;omega);subst this;simp at d
    rw[b,cond_true,ajL 46 c r y d];exact g (y++[c])
   | true=>
    have q:=eq_of_beq d;subst q;have b:(((46:UInt8).toNat:Int) !=46)=false:=rfl;rw[b,jm,zC d,Ik];cases m:OO y with
    | false=>simp[headB,m]
    | true=>
     have:=g [];rw[aaP (QK 46 r)]at this;simp only[Qbj,jm];rw[this];simp[headB,m]
 unfold H9 adA;simp only[aN,fM,dN,bF,bG,ay,uZ];by_cases h:s.length<=120
 ·rw[jK h,jF (show ¬(120:Int) < (s.length:Int) by omega),jm,Qb9];have:=j s [] [] (by rw[Qbs];omega);rw[aaP (QK 46 s)]at this;exact this
 ·rw[jF h,jK (show(120:Int) < (s.length:Int) by omega)];rfl
end
end Go.Proofs.YtenjjcfebflefaaGreatDoor
