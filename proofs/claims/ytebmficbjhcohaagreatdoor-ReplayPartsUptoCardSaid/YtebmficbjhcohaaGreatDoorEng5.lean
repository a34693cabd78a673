/- Own engine: Vdd. -/
import Derived.Lib.ConvBytes
import Derived.Test.YtebmficbjhcohaaGreatDoorEng4
import Derived.MapFrom
import Derived.Lib.AppendStr
import Derived.Lib.AppendZeros
import Derived.Lib.UnsafeStr
import Derived.Laws.BytesString
set_option linter.unusedVariables false
set_option linter.unusedSimpArgs false
namespace Go.Vc
open Go.RowKit
section
variable {D:Type}
def ayp (T:TypeId->Option Ty)(t:TypeId):Option (TypeId×Nat×Nat):=
 match T t with
 | none=>none
 | some a=>if a.lit then L9 T t else none
def Vk (T:TypeId->Option Ty)(t:TypeId)(x i:Sl D):Option (Out D):=
 match ayp T t with
 | none=>none
 | some (e,n,a)=>(match x,i with
  | .one (.lf (.ptr l o)), .one (.lf (.int _ m))=>lD (some (dp (0<=m/\m < n))) (.ptr l (o+m.toNat*a))
  | _,_=>none)
def Ko (T:TypeId->Option Ty)(t:TypeId)(x i:Sl D):Option (Out D):=
 match ayp T t with
 | none=>none
 | some (e,n,a)=>(match T e with
  | none=>none
  | some b=>(match x,i with
   | .one (.agg cs), .one (.lf (.int _ m))=>
    if Nat.beq cs.length (n*a)then(if b.agg then some ⟨some (dp (0<=m/\m < n)), .one (.agg ((cs.drop (m.toNat*a)).take a)),[]⟩
    else(match cs[m.toNat*a]? with
     | some y=>lD (some (dp (0<=m/\m < n))) y
     | none=>none))else none
   | _,_=>none))
def UA (S:Sh D)(t:TypeId)(a:Nat):Option (Out D):=
 match S.aoi t with
 | some d=>some ⟨none, .one (.lf (.own a)),[(a,some (.map d))]⟩
 | none=>none
def awg:Sl D->Option Pv
 | .one (.lf x)=>x.pv
 | _=>none
def mapOf (S:Sh D)(a:Nat->Option (Bk D))(t:TypeId):Sl D->Option (Mp D)
 | .one (.lf (.own l))=>(match a l with
  | some (.map d)=>S.mp d
  | some (.uZ d)=>S.mp d
  | _=>none)
 | .one (.lf (.dat d))=>S.mp d
 | .one (.lf (.val (.map none)))=>(match S.aoi t with
  | some d=>S.mp d
  | none=>none)
 | _=>none
def aDu:Pv->Value->Bool
 | .bool a, .bool b=>a==b
 | .int k a, .int c b=>kEq k c && a==b
 | .str s, .string u=>s.isEmpty && Nat.beq u.data.size 0
 | _,_=>false
def Zv:List Pv->List Value->Bool
 | [],[]=>true
 | p::b,v::a=>aDu p v && Zv b a
 | _,_=>false
def PL:List Pv->List Pv->Bool
 | [],[]=>true
 | p::a,q::b=>Nat.beq p.kind q.kind && PL a b
 | _,_=>false
def QU (T:TypeId->Option Ty)(S:Sh D)(b:Nat->Option (Bk D))(t:TypeId)(x i:Sl D)(a:Bool):Option (Out D):=
 match T t with
 | none=>none
 | some e=>(match e.mp with
  | none=>none
  | some (h,g)=>(match T h,T g with
   | some f,some d=>(match mapOf S b t x,awg i with
    | some m,some k=>
     if Nat.beq e.kind 0 && Nat.beq k.kind f.kind && (Nat.beq m.kind f.kind && (m.agg==d.zag && Zv m.zero d.zero))then
      (match m.agg,m.get k with
      | true,c=>if a then some ⟨none, .sO [.agg c, .lf (.bool (m.has k))],[]⟩else some ⟨none, .one (.agg c),[]⟩
      | false,[y]=>if a then some ⟨none, .sO [.lf y, .lf (.bool (m.has k))],[]⟩else lD none y
      | _,_=>none)else none
    | _,_=>none)
   | _,_=>none))
def aoU (a:Bool):Sl D->Option (List Pv)
 | .one (.lf x)=>if a then none else(match x.pv with
  | some p=>some [p]
  | none=>none)
 | .one (.agg b)=>if a then pvs b else none
 | _=>none
def FO (T:TypeId->Option Ty)(S:Sh D)(a:Nat->Option (Bk D))(t:TypeId)(x i v:Sl D):Option (Out D):=
 match T t with
 | none=>none
 | some c=>(match c.mp with
  | none=>none
  | some (e,f)=>(match T e with
   | some b=>(match x,awg i with
    | .one (.lf (.own l)),some k=>(match a l with
     | some (.map d)=>(match S.mp d with
      | some m=>(match aoU m.agg v with
       | some u=>if Nat.beq c.kind 0 && Nat.beq k.kind b.kind && (Nat.beq m.kind b.kind && PL u m.zero)then some ⟨none, .one (.lf .any),[(l,some (.map (m.put k u)))]⟩else none
       | none=>none)
      | none=>none)
     | _=>none)
    | _,_=>none)
   | _=>none))
def aHb:Lf D->Bool
 | .int .u8 _=>true
 | _=>false
def apr:Lf D->Bool
 | .int .u8 k=>decide (0<=k) && decide (k < 256)
 | _=>false
def Hl (f:Nat->Bool):Nat->Bool
 | 0=>true
 | n+1=>f n && Hl f n
def aB0:Lf D->UInt8
 | .int .u8 n=>UInt8.ofNat n.toNat
 | _=>0
def Ie (S:Sh D)(d:D):Nat->Bool:=Hl fun i=>aHb (S.cell d i 0)
def Zj (S:Sh D)(d:D):Nat->Bool:=Hl fun i=>apr (S.cell d i 0)
def bytesOf (S:Sh D)(d:D):List UInt8:=(List.range (S.len d)).map fun i=>aB0 (S.cell d i 0)
def O1 (T:TypeId->Option Ty)(S:Sh D)(b:Nat->Option (Bk D))(src c:TypeId)(x:Sl D):Option (Out D):=
 match T src,T c with
 | some g,some f=>(match g.elem with
  | none=>none
  | some e=>(match T e with
   | none=>none
   | some a=>if Nat.beq f.kind 3 && (Nat.beq a.kind 24 && Nat.beq a.size 1)then(match x with
    | .one (.lf (.val (.slice none 0 0)))=>lD none (.str [])
    | x=>(match Ji b x with
     | some d=>if Nat.beq (S.size d) 1 then lD (some (dp (Ie S d (S.len d)=true))) (.str (bytesOf S d))else none
     | none=>none))else none))
 | _,_=>none
def Vp (T:TypeId->Option Ty)(S:Sh D)(src b:TypeId)(x:Sl D):Option (Out D):=
 match T src,T b with
 | some d,some c=>(match c.elem with
  | none=>none
  | some e=>(match T e with
   | none=>none
   | some a=>if Nat.beq d.kind 3 && (Nat.beq a.kind 24 && Nat.beq a.size 1)then(match x with
    | .one (.lf (.str s))=>(match S.text e s with
     | none=>none
     | some d2=>if Nat.beq (S.size d2) 1 then lD none (.dat d2)else none)
    | _=>none)else none))
 | _,_=>none
def Lf.dl:Lf D->Option (Dl D)
 | .bool b=>some (.bool b)
 | .val (.bool b)=>some (.bool b)
 | .int k n=>some (.int k n)
 | .str s=>some (.str s)
 | .dat d=>some (.dat d)
 | .val (.slice none 0 0)=>some .avL
 | _=>none
def dls:List (Lf D)->Option (List (Dl D))
 | []=>some []
 | x::b=>(match x.dl,dls b with
  | some p,some a=>some (p::a)
  | _,_=>none)
def Dl.lf:Dl D->Lf D
 | .bool b=> .bool b
 | .int k n=> .int k n
 | .str s=> .str s
 | .dat d=> .dat d
 | .avL=> .val (.slice none 0 0)
def anR (b:Bool)(a:List (Dl D)):Option (Sl D):=
 match b,a with
 | false,[x]=>some (.one (.lf x.lf))
 | true,a=>some (.one (.agg (a.map Dl.lf)))
 | _,_=>none
def ajW:Sl D->Option (Bool×List (Dl D))
 | .one (.lf x)=>(match x.dl with
  | some p=>some (false,[p])
  | none=>none)
 | .one (.agg b)=>(match dls b with
  | some a=>some (true,a)
  | none=>none)
 | _=>none
def aDQ (T:TypeId->Option Ty)(t:TypeId)(x:Sl D):Option (Out D):=
 match T t with
 | none=>none
 | some c=>if Nat.beq c.kind 0 then none else(match ajW x with
  | some (b,a)=>lD none (.xt (.ifd t b a))
  | none=>none)
def ZY (a:Ty):Option (Sv D):=
 if a.agg then(if a.zag then some (.agg (a.zero.map xx))else none)else(match a.zero with
  | [z]=>if a.zag then none else some (.lf (xx z))
  | _=>none)
def aGI:Value->Bool
 | .slice _ _ _=>true
 | _=>false
def RZ (T:TypeId->Option Ty)(t:TypeId)(x:Sl D)(c:Bool):Option (Out D):=
 match T t with
 | none=>none
 | some a=>if Nat.beq a.kind 0 then none else(match x with
  | .one (.lf (.xt (.ifd b e d)))=>(match anR e d with
   | some (.one u)=>(match c with
    | true=>if Nat.beq b t then some ⟨none, .sO [u, .lf (.val (.bool true))],[]⟩else(match ZY a with
     | some z=>some ⟨none, .sO [z, .lf (.val (.bool false))],[]⟩
     | none=>none)
    | false=>if Nat.beq b t then some ⟨none, .one u,[]⟩else none)
   | _=>none)
  | .one (.lf (.O_ v))=>if a.zero.any aGI then(match v with
   | none=>(match c with
    | true=>(match ZY a with
     | some z=>some ⟨none, .sO [z, .lf (.val (.bool false))],[]⟩
     | none=>none)
    | false=>none)
   | some _=>none)else none
  | _=>none)
def aCp (f:FuncId)(x:Sl D):Option (Out D):=
 match ajW x with
 | some (a,b)=>lD none (.xt (.clo f a b))
 | none=>none
def MK (d:FuncId->Option (Ct D))(a:Nat->Option (Bk D))(c:Nat)(f:Sl D)(args:List (Sl D)):Option (Out D):=
 match f with
 | .one (.lf (.xt (.clo f e b)))=>(match anR e b with
  | some x=>Eh d f a (x::args) c
  | none=>none)
 | _=>none
def QD (T:TypeId->Option Ty)(S:Sh D)(f:Nat->Option (Bk D))(t:TypeId)(x:Sl D)(i c:Option (Sl D)):Option (Out D):=
 match T t with
 | none=>none
 | some g=>if g.lit then(match bnd 0 i,g.elem with
  | some l,some e=>(match T e with
   | none=>none
   | some a=>(match x with
    | .one (.lf (.own q))=>(match f q with
     | some (.row _ d)=>if Nat.beq a.size (S.size d) && (Nat.blt 0 a.size && !a.agg)then(match bnd (S.len d) c with
      | some h=>(match S.sub d l.toNat h.toNat with
       | some b=>some ⟨some (dp (0<=l/\l<=h/\h<=S.len d)), .one (.lf (.dat b)),[(q,some (.uZ d))]⟩
       | none=>none)
      | none=>none)else none
     | some (.uZ d)=>if Nat.beq a.size (S.size d) && (Nat.blt 0 a.size && !a.agg)then(match bnd (S.len d) c with
      | some h=>(match S.sub d l.toNat h.toNat with
       | some b=>some ⟨some (dp (0<=l/\l<=h/\h<=S.len d)), .one (.lf (.dat b)),[]⟩
       | none=>none)
      | none=>none)else none
     | _=>none)
    | _=>none))
  | _,_=>none)else none
def zJ (T:TypeId->Option Ty)(S:Sh D)(a:Nat->Option (Bk D))(c:Array TypeId)(x y:Sl D):Option (Out D):=
 match c.toList,y with
 | [t,b], .one (.lf (.val (.slice none 0 0)))=>if Nat.beq t b then(match T t with
  | none=>none
  | some f=>(match f.elem with
   | none=>none
   | some e=>(match T e with
    | none=>none
    | some g=>(match x with
     | .one (.lf (.val (.slice none 0 0)))=>lD none (.val (.slice none 0 0))
     | .one (.lf (.dat d))=>if Nat.blt 0 (S.size d)then lD none (.dat d)else none
     | .one (.lf (.own l))=>(match a l with
      | some (.row _ _)=>lD none (.own l)
      | _=>none)
     | _=>none))))else none
 | _,_=>none
def VA (T:TypeId->Option Ty)(S:Sh D)(b:Nat)(g:Array TypeId)(x y:Sl D):Option (Out D):=
 match g.toList,x,y with
 | [t,c], .one (.lf (.val (.slice none 0 0))), .one (.lf (.int _ n))=>(match T t,T c with
  | some h,some f=>(match al0 f.kind,h.elem with
   | some _,some e=>(match T e with
    | some a=>if Nat.blt 0 a.size && Nat.beq a.zero.length a.size then(match S.zero e n.toNat (a.zero.map fun v=>(xx v).norm)with
     | some d=>some ⟨some (dp (0 < n/\n*a.bytes<=281474976710656/\n<=1099511627776)), .one (.lf (.own b)),[(b,some (.row e d))]⟩
     | none=>none)else none
    | none=>none)
   | _,_=>none)
  | _,_=>none)
 | _,_,_=>none
def aET (T:TypeId->Option Ty)(a:Array TypeId)(x:Sl D):Option (Out D):=
 match a.toList,x with
 | [t], .one (.lf (.val (.slice none 0 0)))=>(match T t with
  | some b=>(match b.elem with
   | some _=>lD none (.int .i64 0)
   | none=>none)
  | none=>none)
 | _,_=>none
def QA (T:TypeId->Option Ty)(S:Sh D)(c:Nat->Option (Bk D))(t:TypeId)(x:Sl D)(f g:Option (Sl D))(i:Sl D):Option (Out D):=
 match f,g,i with
 | none,some (.one (.lf (.int _ h))), .one (.lf (.int _ m))=>(match T t with
  | none=>none
  | some j=>(match j.elem with
   | none=>none
   | some e=>(match T e with
    | none=>none
    | some a=>(match x with
     | .one (.lf (.dat d))=>if Nat.beq a.size (S.size d) && Nat.blt 0 a.size then(match S.sub d 0 h.toNat with
      | some b=>lD (some (dp (0<=h/\h=m/\h<=S.len d))) (.xt (.clip b))
      | none=>none)else none
     | .one (.lf (.own q))=>(match c q with
      | some (.row _ d)=>if Nat.beq a.size (S.size d) && Nat.blt 0 a.size then(match S.sub d 0 h.toNat with
       | some b=>some ⟨some (dp (0<=h/\h=m/\h<=S.len d)), .one (.lf (.dat b)),[(q,some (.uZ d))]⟩
       | none=>none)else none
      | _=>none)
     | _=>none))))
 | _,_,_=>none
def zQ (T:TypeId->Option Ty)(S:Sh D)(b:Nat->Option (Bk D))(c:Nat)(g:Array TypeId)(x y:Sl D):Option (Out D):=
 match x with
 | .one (.lf (.xt e))=>(match e with
  | .clip d1=>(match g.toList with
   | [t,f]=>if Nat.beq t f then(match T t with
    | none=>none
    | some h=>(match h.elem with
     | none=>none
     | some e=>(match T e with
      | none=>none
      | some a=>(match Ji b y with
       | none=>none
       | some d2=>if Nat.beq a.size (S.size d2) && (Nat.blt 0 a.size && Nat.beq a.zero.length a.size)then(match S.cat d1 d2 with
        | some d=>some ⟨some (dp (0 < S.len d2/\dE (S.len d1+S.len d2) a.bytes)), .one (.lf (.own c)),[(c,some (.row e d))]⟩
        | none=>none)else none))))else none
   | _=>none)
  | _=>none)
 | _=>none
def adc (T:TypeId->Option Ty)(S:Sh D)(b:BinOp)(t:TypeId)(x y:Sl D):Option (Out D):=
 match T t with
 | none=>none
 | some a=>if S.run && a.lit then(match a.elem,x,y with
  | some _, .one (.lf (.dat d)), .one (.lf (.val (.slice none 0 0)))=>if Nat.blt 0 (S.len d) && Nat.blt 0 (S.size d)then(match b with
   | .eql=>lD none (.val (.bool false))
   | .neq=>lD none (.val (.bool true))
   | _=>none)else none
  | _,_,_=>none)else none
def aAA (a:Ty):Bool:=
 match a.zero with
 | [.pointer none, .slice none 0 0]=>a.lit && a.agg && Nat.beq a.kind 5
 | _=>false
def aaU (T:TypeId->Option Ty)(a:Nat)(t:TypeId):Option (Out D):=
 match T t with
 | none=>none
 | some b=>if aAA b then some ⟨none, .one (.lf (.ptr a 0)),[(a,some (.tc t [.val (.slice none 0 0)]))]⟩else none
def LU (T:TypeId->Option Ty)(a:Nat->Option (Bk D))(t:TypeId)(x:Sl D):Option (Out D):=
 match T t with
 | none=>none
 | some b=>(match x with
  | .one (.lf (.ptr l o))=>(match a l with
   | some (.tc _ cs)=>if b.agg then none else(match o with
    | 0=>none
    | o+1=>(match cs[o]? with
     | some y=>lD none y
     | none=>none))
   | _=>none)
  | _=>none)
def Ew (T:TypeId->Option Ty)(a:Nat->Option (Bk D))(t:TypeId)(x y:Sl D):Option (Out D):=
 match T t,x,y with
 | some b, .one (.lf (.ptr l o)), .one (.lf u)=>(match a l with
  | some (.tc c cs)=>(match o with
   | 0=>none
   | o+1=>if Nat.beq b.size 1 && (!b.agg && (Nat.blt o cs.length && u.storable))then some ⟨none, .one (.lf .any),[(l,some (.tc c (putAt cs o [u])))]⟩else none)
  | _=>none)
 | _,_,_=>none
def asc (a:Ty):Bool:=
 match a.zero with
 | [.int .u8 0]=> !a.zag
 | _=>false
def Ah (T:TypeId->Option Ty)(S:Sh D)(f:Nat->Option (Bk D))(a:Nat)(h:Array TypeId)(x y:Sl D):Option (Out D):=
 match h.toList,y with
 | [t,g], .one (.lf (.str s))=>(match T t,T g with
  | some j,some c=>(match j.elem with
   | none=>none
   | some e=>(match T e with
    | none=>none
    | some b=>if asc b && (Nat.beq b.size 1 && (Nat.beq b.bytes 1 && Nat.beq c.kind 3))then(match S.text e s with
     | none=>none
     | some d2=>if Nat.beq (S.size d2) 1 then(match x with
      | .one (.lf (.val (.slice none 0 0)))=>some ⟨some (dp (dE s.length 1)), .one (.lf (.own a)),[(a,some (.row e d2))]⟩
      | .one (.lf (.own l))=>(match f l with
       | some (.row i d1)=>if Nat.beq e i && Nat.beq (S.size d1) 1 then(match S.cat d1 d2 with
        | some d=>some ⟨some (dp (dE (S.len d1+s.length) 1)), .one (.lf (.own a)),[(l,none),(a,some (.row e d))]⟩
        | none=>none)else none
       | _=>none)
      | _=>none)else none)else none))
  | _,_=>none)
 | _,_=>none
def BA (S:Sh D)(a:Nat->Option (Bk D))(x:Sl D):Option (Out D):=
 match x with
 | .one (.lf (.own l))=>(match a l with
  | some (.row _ d)=>if Nat.beq (S.size d) 1 then lD (some (dp (0 < S.len d))) (.opt l 0 0 1)else none
  | _=>none)
 | .one (.lf (.val (.slice none 0 0)))=>lD none (.val (.pointer none))
 | _=>none
def ptrTo (T:TypeId->Option Ty)(b:Array TypeId)(e:TypeId):Bool:=
 match b.toList with
 | [d,_]=>(match T d,T e with
  | some a,some c=>Nat.beq a.kind 6 && (Nat.beq c.size 1 && (match a.mp with
   | some (f,_)=>Nat.beq e f
   | none=>false))
  | _,_=>false)
 | _=>false
def Bl (T:TypeId->Option Ty)(S:Sh D)(b:Nat->Option (Bk D))(a:Array TypeId)(x y:Sl D):Option (Out D):=
 match x,y with
 | .one (.lf (.opt l 0 0 1)), .one (.lf (.int .i64 n))=>(match b l with
  | some (.row e d)=>if ptrTo T a e && Nat.beq (S.size d) 1 then some ⟨some (dp (n=S.len d/\0 < n/\Zj S d (S.len d)=true)), .one (.lf (.str (bytesOf S d))),[(l,none)]⟩else none
  | _=>none)
 | .one (.lf (.val (.pointer none))), .one (.lf (.int .i64 n))=>(match a.toList with
  | [_,_]=>lD (some (dp (n=0))) (.str [])
  | _=>none)
 | _,_=>none
def nN (T:TypeId->Option Ty)(S:Sh D)(s:FuncId->Option (Ct D))(d:Nat->Sl D)(g:Nat->Option (Bk D))(j:Nat)(o:Op):Option (Out D):=
 match o with
 | .alloc t=>aaU T j t
 | .load t x=>LU T g t (aB d x)
 | .store t x y=>Ew T g t (aB d x) (aB d y)
 | .indexAddr t x i=>Vk T t (aB d x) (aB d i)
 | .index t x i=>Ko T t (aB d x) (aB d i)
 | .makeMap t none=>UA S t j
 | .slice t x l k none=>QD T S g t (aB d x) (l.map (aB d)) (k.map (aB d))
 | .slice t x l k (some p)=>QA T S g t (aB d x) (l.map (aB d)) (k.map (aB d)) (aB d p)
 | .lookup t x i n=>QU T S g t (aB d x) (aB d i) n
 | .mapUpdate t x i v=>FO T S g t (aB d x) (aB d i) (aB d v)
 | .insert t x i v=>FO T S g t (aB d x) (aB d i) (aB d v)
 | .convert a b x=>(match O1 T S g a b (aB d x)with
  | some h=>some h
  | none=>Vp T S a b (aB d x))
 | .makeInterface t x=>aDQ T t (aB d x)
 | .typeAssert x _ t n=>RZ T t (aB d x) n
 | .binOp o t x y _=>adc T S o t (aB d x) (aB d y)
 | .makeFunc (.func f) first m=>(match first.toList,m.toList with
  | [x],[]=>aCp f (aB d x)
  | _,_=>none)
 | .nilCheck x=>(match aB d x with
  | .one (.lf (.xt e))=>(match e with
   | .clo f q r=>lD none (.xt (.clo f q r))
   | _=>none)
  | _=>none)
 | .call c=>(match c.callee with
  | .value f=>MK s g j (aB d f) (c.args.toList.map (aB d))
  | .builtin .append=>(match c.args.toList with
   | [x,y]=>(match VA T S j c.argTypes (aB d x) (aB d y)with
    | some h=>some h
    | none=>(match zJ T S g c.argTypes (aB d x) (aB d y)with
     | some h=>some h
     | none=>(match zQ T S g j c.argTypes (aB d x) (aB d y)with
      | some h=>some h
      | none=>Ah T S g j c.argTypes (aB d x) (aB d y))))
   | _=>none)
  | .builtin .cap=>(match c.args.toList with
   | [x]=>aET T c.argTypes (aB d x)
   | _=>none)
  | .builtin .unsafeSliceData=>(match c.args.toList with
   | [x]=>BA S g (aB d x)
   | _=>none)
  | .builtin .unsafeString=>(match c.args.toList with
   | [x,y]=>Bl T S g c.argTypes (aB d x) (aB d y)
   | _=>none)
  | _=>none)
 | _=>none
def ig:Op->Bool
 | .makeInterface _ _=>true
 | .makeFunc _ _ _=>true
 | _=>false
def kR (T:TypeId->Option Ty)(S:Sh D)(g:FuncId->Option (Ct D))(c:Nat->Sl D)(a:Nat->Option (Bk D))(f:Nat)(d:Op):Option (Out D):=
 let e:=iG c d
 if ig d && e.all (fun l=>isRow (a l))then
  (match nN T S g (CG (qh d.operands.toList) c a) (kw a (e.filterMap (ja a))) f d with
  | some b=>some ⟨b.pre,b.val,e.filterMap (ja a)++b.blks⟩
  | none=>none)
 else none
def rY (T:TypeId->Option Ty)(S:Sh D)(e:FuncId->Option (Ct D))(a:Nat->Sl D)(c:Nat->Option (Bk D))(d:Nat)(f:Op):Option (Out D):=
 match nN T S e a c d f with
 | some b=>some b
 | none=>(match kR T S e a c d f with
  | some b=>some b
  | none=>wJ T S e a c d f)
def Does (T:TypeId->Option Ty)(S:Sh D)(i:FuncId->Option (Ct D))(a:Nat->Sl D)(d:Nat->Option (Bk D))(h:Nat)(g:Op)(c:Out D):Prop:=
 rY T S i a d h g=some c\/∃b e f,Cm a d g=some (b,e,f)/\c=bif b then e else f
end
section
variable {D:Type}{P:Program}{S:Sh D}{T:TypeId->Option Ty}{Γ:FuncId->Option (Ct D)}{M M' N:Nat->Prop}{w w':World}{w0:Bs}{g g':Nat->Option Value}{blk blk':Nat->Option (Bk D)}{al:Nat->Prop}
 {a:Act} {o:Oper} {K:Act->World->Prop} {Q:Exit->Act->World->Prop} {slot b_:Nat->Sl D} {out:Out D} {fr:Nat}
theorem XA (d:∀t a,T t=some a->fB P t a){t e:TypeId}{n b:Nat}(h:ayp T t=some (e,n,b)):∃a c,T t=some a/\T e=some c/\c.size=b/\0 < b/\a.size=n*b/\a.agg=true/\P.underlying t=some (.array n e)/\fB P t a/\fB P e c:=by
 unfold ayp at h;split at h
 ·cases h
 ·split at h
  ·exact x_ d h
  ·cases h
theorem acE {t:TypeId}{x d:Operand}(C:o.op= .indexAddr t x d)(r:∀t i,T t=some i->fB P t i)(h:Hp S w0 N blk g al w)(u:(aB slot x).Rel S (aV N blk g) w g (a.eval x))
  (f:(aB slot d).Rel S (aV N blk g) w g (a.eval d)) (c:Vk T t (aB slot x) (aB slot d)=some out) (H:lY out.pre) (I:Post S w0 N blk g al w fr out o.dst a K):o.wp P a w K Q:=by
 unfold Vk at c;split at c
 ·cases c
 ·rename_i e n E j;obtain⟨i,U,O,M,q,V,W,R,B,L,z⟩:=XA r j;have D:=kU z w;split at c
  ·rename_i l p k m s y;rw[s]at u;rw[y]at f;simp only[Sl.Rel,Sv.Rel,Lf.Rel]at f;obtain⟨b,J,F⟩:=u;injection c with c
   subst c;obtain⟨G,A⟩:=H;refine bf (v:= .pointer (some ⟨b,p+m.toNat*E,none⟩)) ?_ h I rfl ⟨b,J,rfl⟩;simp[execOp,C,Instr.indexAt,Instr.sureAddr,f,asIntOf,run_underlying B,F,G,A,D,q,lM]
  ·cases c
theorem aZ.at {g:Nat->Option Value}{b:List (Lf D)}{a:List Value}(h:aZ S M w g b a){i:Nat}{x:Lf D}(c:b[i]? =some x):∃u,a[i]? =some u/\x.Rel S M w g u:=aZ.get i h c
theorem aZ.drop' {g:Nat->Option Value}:∀(n:Nat) {b:List (Lf D)} {a:List Value},aZ S M w g b a->aZ S M w g (b.drop n) (a.drop n)
 | 0,_,_,h=>h
 | n+1,[],[],_=>trivial
 | n+1,x::b,v::a,h=>aZ.drop' n h.2
theorem aZ.take' {g:Nat->Option Value}:∀(n:Nat) {b:List (Lf D)} {a:List Value},aZ S M w g b a->aZ S M w g (b.take n) (a.take n)
 | 0,_,_,h=>trivial
 | n+1,[],[],_=>trivial
 | n+1,x::b,v::a,h=>⟨h.1,aZ.take' n h.2⟩
theorem aaZ {t:TypeId}{x f:Operand}(D:o.op= .index t x f)(G:∀t s,T t=some s->fB P t s)(h:Hp S w0 N blk g al w)(M:(aB slot x).Rel S (aV N blk g) w g (a.eval x))
  (i:(aB slot f).Rel S (aV N blk g) w g (a.eval f)) (b:Ko T t (aB slot x) (aB slot f)=some out) (J:lY out.pre) (O:Post S w0 N blk g al w fr out o.dst a K):o.wp P a w K Q:=by
 unfold Ko at b;split at b
 ·cases b
 ·rename_i e n c A;obtain⟨s,te,Y,L,l,h0,Wn,Z,C,X,B⟩:=XA G A;rw[L]at b;dsimp only at b;have j:=kU B w;have p:=wz B w;split at b
  ·rename_i cs k m I R;rw[I]at M;rw[R]at i;simp only[Sl.Rel,Sv.Rel,Lf.Rel]at i;obtain⟨r,F,E⟩:=M;split at b
   rotate_left
   ·cases b
   split at b
   ·rename_i d;injection b with b
    subst b;obtain⟨z,q⟩:=J;refine bf (v:= .agg ((r.drop (m.toNat*c)).take c).toArray) ?_ h O rfl ⟨_,rfl,(E.drop' _).take' _⟩;have U:r.toArray.extract (m.toNat*c) (m.toNat*c+c)=((r.drop (m.toNat*c)).take c).toArray:=by
     apply H5.1;simp[Qdb]
    simp[execOp,D,Instr.index,i,asIntOf,run_underlying C,F,z,q,part,p,d,j,l,U]
   ·rename_i d;split at b
    ·rename_i y W;injection b with b
     subst b;obtain⟨z,q⟩:=J;obtain⟨u,V,H⟩:=E.at W;refine bf (v:=u) ?_ h O rfl H;simp[execOp,D,Instr.index,i,asIntOf,run_underlying C,F,z,q,part,p,d,j,l,V]
    ·cases b
  ·cases b
theorem W9 {t:TypeId}(j:iL S)(k:o.op= .makeMap t none)(h:Hp S w0 N blk g al w)(f:∀n,fr<=n->n < fr+64->¬al n)(c:UA S t fr=some out)(y:Post S w0 N blk g al w fr out o.dst a K):o.wp P a w K Q:=by
 unfold UA at c;split at c
 ·rename_i d A;injection c with c
  subst c;obtain⟨m,z,i⟩:=j.avK _ _ A;have e:(execOp a.eval o).run P w= .ok (.value (.map (some w.heap.size))) (w.alloc (.map #[] 0)):=by
   simp[execOp,k,Instr.makeMap,newObj,Sem.run]
  obtain⟨u,r,x⟩:=h.add (l:=fr) (bk:= .map d) (v:= .map (some w.heap.size)) ((Below.refl w.heap.size w).alloc (oC _) (.map #[] 0)) (f fr (oC _) au) (fun b q=>by simp[eP]at q;omega)
   (fun M' B _=>⟨m,w.heap.size,#[],0,z,by rw[i];exact fun p s=>by simp at s,rfl, .inl h.below.size,heap_alloc_new w _,by rw[i];rfl⟩)
  exact kJ e (y _ _ _ x r (u.weaken UL) (upd_same _ _ _))
 ·cases c
theorem Pv.beq_eq {p q:Pv}(h:Pv.beq p q=true):p=q:=by
 cases p<;>cases q<;>simp_all [Pv.beq,kEq]
theorem aaO {t:TypeId}{ty:Ty}{p:Pv}{d:TypeDesc}(e:kindOf d=ty.kind)(a:Nat.beq p.kind ty.kind=true):MapKept.IsKey d p.val:=by
 have a:=Qa a;rw[<-e]at a;cases p with
 | bool b=>cases d<;>simp[Pv.kind,kindOf]at a<;>first | trivial | (rename_i k;cases k<;>simp[rD]at a)
 | str s=>cases d<;>simp[Pv.kind,kindOf]at a<;>first | trivial | (rename_i k;cases k<;>simp[rD]at a)
 | int k n=>cases d<;>simp[Pv.kind,kindOf]at a<;>first | (rename_i c;cases k<;>cases c<;>first | rfl | simp[rD]at a) | (cases k<;>simp[rD]at a)
theorem axS {d:TypeDesc}{p q:Pv}(b:MapKept.IsKey d p.val)(a:MapKept.IsKey d q.val):Instr.sameNow d p.val q.val=some (Pv.beq p q):=by
 cases p<;>cases q<;>cases d<;>simp_all [MapKept.IsKey,Instr.sameNow,Pv.val,Pv.beq,kEq]
 ·rename_i s u;rw[Qcn,MapKept.bytes_beq,Qch];exact⟨fun e=>by injection e with e;exact Qcw Array.toList e,fun e=>by rw[e]⟩
def BG {V:Type}(k:Pv):List (Pv×V)->Option (Nat×V)
 | []=>none
 | p::r=>if Pv.beq k p.1 then some (0,p.2)else(BG k r).map fun q=>(q.1+1,q.2)
theorem KY {V:Type}(k:Pv):∀a:List (Pv×V),x9 k a=(BG k a).map (·.2)
 | []=>rfl
 | p::r=>by
  unfold x9 BG;split
  ·rfl
  ·rw[KY k r];cases BG k r<;>rfl
theorem ado {V:Type}{k:Pv}:∀{c:List (Pv×V)} {q:Nat×V},BG k c=some q->∃p∈c,p.2=q.2
 | [],q,a=>by cases a
 | p::r,q,a=>by
  unfold BG at a;split at a
  ·injection a with a;subst a;exact⟨p,by simp,rfl⟩
  ·cases b:BG k r with
   | none=>rw[b]at a;cases a
   | some g=>
    rw[b]at a;injection a with a
    subst a;obtain⟨d,f,e⟩:=ado b;exact⟨d,by simp[f],e⟩
theorem RI {V:Type}{f:V->Value}{d:TypeDesc}{k:Pv}(g:MapKept.IsKey d k.val):∀(b:List MapEntry) (a:List (Pv×V)) (i:Nat),b.map (fun e=>(e.key,e.val))=a.map (fun p=>(p.1.val,f p.2))->(∀p∈a,MapKept.IsKey d p.1.val)->
  Instr.findNow d k.val b i=some ((BG k a).map fun q=>(i+q.1,f q.2))
 | [],[],_,_,_=>rfl
 | e::b,p::a,i,h,c=>by
  simp only[H7,Qdn,WB]at h;unfold Instr.findNow BG;rw[h.1.1,axS g (c p oI)];cases l:Pv.beq k p.1 with
  | true=>simp[h.1.2]
  | false=>
   simp only[RI g b a (i+1) h.2 fun q j=>c q (by simp[j])];cases BG k a with
   | none=>simp
   | some q=>simp;omega
 | [],_::_,_,h,_=>by simp at h
 | _::_,[],_,h,_=>by simp at h
theorem MB {V:Type}{k:Pv}{v:V}:∀{a:List (Pv×V)},BG k a=none->Ju k v a=a++[(k,v)]
 | [],_=>rfl
 | p::r,h=>by
  unfold BG at h;unfold Ju;split at h
  ·cases h
  ·rename_i b;rw[lW b,MB qbv];rfl
theorem XM {V:Type}{k:Pv}{v:V}:∀{a:List (Pv×V)} {j:Nat} {u:V},BG k a=some (j,u)->∃p,a[j]? =some p/\p.1=k/\Ju k v a=a.set j (k,v)
 | [],_,_,h=>by cases h
 | p::r,j,u,h=>by
  unfold BG at h;unfold Ju;split at h
  ·rename_i b;injection h with h
   injection h with d e
   subst d;have:=Pv.beq_eq b;exact⟨p,rfl,this.symm,by rw[mV b,<-this];rfl⟩
  ·rename_i b;cases c:BG k r with
   | none=>rw[c]at h;cases h
   | some q=>
    rw[c]at h;simp only[H6,Nj,WB]at h;obtain⟨rfl,rfl⟩:=h;obtain⟨f,d,e,g⟩:=XM (v:=v) (j:=q.1) (u:=q.2) c;exact⟨f,by simpa using d,e,by rw[lW b,g];rfl⟩
theorem ac2 {x:Sl D}{p:Pv}{v:Value}{M:Nat->Prop}{g:Nat->Option Value}(h:awg x=some p)(a:x.Rel S M w g v):v=p.val/\p.fits:=by
 unfold awg at h;split at h
 ·exact Um h a
 ·cases h
theorem anX {b:Bool}{x:Sl D}{c:List Pv}{v:Value}{M:Nat->Prop}{g:Nat->Option Value}(h:aoU b x=some c)(f:x.Rel S M w g v):v=ru b c/\∀p∈c,p.fits:=by
 unfold aoU at h;split at h
 ·split at h
  ·cases h
  ·rename_i a;have a:b=false:=by simpa using a
   subst a;split at h
   ·rename_i p i;injection h with h
    subst h;obtain⟨e,d⟩:=Um i f;exact⟨e,fun x k=>by have:=BH.1 k;subst this;exact d⟩
   ·cases h
 ·split at h
  ·rename_i a;subst a;obtain⟨l,rfl,j⟩:=f;obtain⟨e,d⟩:=PH h j;exact⟨by rw[e];rfl,d⟩
  ·cases h
 ·cases h
theorem Yh {t:TypeId}{b:Ty}{k v:TypeId}(h:fB P t b)(a:b.mp=some (k,v))(c:b.kind=0):P.underlying t=some (.map k v):=by
 obtain⟨i,d,z,f,_,e,_,rfl⟩:=mD h;dsimp only at a c;cases d<;>simp[ai3,kindOf]at a c
 obtain⟨rfl,rfl⟩:=a;exact e
theorem anZ {t:TypeId}{b:Ty}{k v:TypeId}(h:fB P t b)(a:b.mp=some (k,v))(c:b.kind=6):P.underlying t=some (.pointer k):=by
 obtain⟨i,d,z,f,_,e,_,rfl⟩:=mD h;dsimp only at a c;cases d<;>simp[ai3,kindOf]at a c
 obtain⟨rfl,rfl⟩:=a;exact e
theorem Pv.Wq {p:Pv}{M:Nat->Prop}{g:Nat->Option Value}(a:p.fits):(Pv.lf (D:=D) p).Rel S M w g p.val:=by
 cases p with
 | bool b=>rfl
 | int k n=>rfl
 | str s=>exact⟨rfl,a⟩
theorem Pv.alJ {M:Nat->Prop}{g:Nat->Option Value}:∀{a:List Pv},(∀p∈a,p.fits)->aZ S M w g (a.map (Pv.lf (D:=D))) (a.map Pv.val)
 | [],_=>trivial
 | p::a,h=>⟨Pv.Wq (h p oI),Pv.alJ fun q b=>h q (by simp[b])⟩
theorem axV {p:Pv}{v:Value}(h:aDu p v=true):v=p.val/\p.fits:=by
 unfold aDu at h;split at h
 ·simp at h;subst h;exact⟨rfl,trivial⟩
 ·simp only[kEq,iT,Qch]at h;obtain⟨rfl,rfl⟩:=h;exact⟨rfl,trivial⟩
 ·rename_i s u;simp only[iT,List.isEmpty_iff]at h;obtain⟨rfl,a⟩:=h;have a:=Qa a;have:u.data= #[]:=Array.eq_empty_of_size_eq_zero a;refine⟨?_,by simp[Pv.fits]⟩;show Value.string u=Value.string ⟨#[]⟩
  rw[<-this]
 ·cases h
theorem Xz:∀{a:List Pv} {b:List Value},Zv a b=true->b=a.map Pv.val/\∀p∈a,p.fits
 | [],[],_=>⟨rfl,fun p g=>by simp at g⟩
 | p::a,v::b,h=>by
  simp only[Zv,iT]at h;obtain⟨f,d⟩:=axV h.1;obtain⟨i,e⟩:=Xz h.2;exact⟨by rw[f,i];rfl,fun q c=>by rcases CW.1 c with rfl | c;exact d;exact e q c⟩
 | [],_::_,h=>by cases h
 | _::_,[],h=>by cases h
theorem TM:∀{a b:List Pv},PL a b=true->a.map Pv.kind=b.map Pv.kind
 | [],[],_=>rfl
 | p::a,q::b,h=>by
  simp only[PL,iT]at h;simp[Qa h.1,TM h.2]
 | [],_::_,h=>by cases h
 | _::_,[],h=>by cases h
theorem aB1 (f:iL S)(h:Hp S w0 N blk g al w){t:TypeId}{x:Sl D}{v:Value}{m:Mp D}(a:mapOf S blk t x=some m)(e:x.Rel S (aV N blk g) w g v):azC S m/\atB w m.agg m.kvs v:=by
 unfold mapOf at a;split at a
 ·rename_i l;have e:g l=some v:=e;split at a
  ·rename_i d i;obtain⟨q,b,k,r,u,n,c,A,rfl,_,o,s⟩:=h.dn l _ i;rw[a]at c;injection c with c
   subst c;rw[e]at b;injection b with b
   exact⟨(f.xn _ _ a).2.2,A, .inr ⟨r,u,n,b,o,s⟩⟩
  ·rename_i d i;obtain⟨q,b,j⟩:=h.dn l _ i;rw[e]at b;injection b with b
   subst b;exact⟨(f.xn _ _ a).2.2,dD.map j a⟩
  ·cases a
 ·exact⟨(f.xn _ _ a).2.2,dD.map e a⟩
 ·split at a
  ·rename_i d j;obtain⟨k,c,y⟩:=f.avK _ _ j;rw[a]at c;injection c with c
   subst c;refine⟨(f.xn _ _ a).2.2,?_⟩;rw[y];exact⟨fun p z=>by simp at z, .inl ⟨e,rfl⟩⟩
  ·cases a
 ·cases a
theorem aaT {t:TypeId}{x O:Operand}{F:Bool}(hS:iL S)(ho:o.op= .lookup t x O F)(L:∀t ty,T t=some ty->fB P t ty)(h:Hp S w0 N blk g al w)(hx:(aB slot x).Rel S (aV N blk g) w g (a.eval x))
  (hi:(aB slot O).Rel S (aV N blk g) w g (a.eval O)) (c:QU T S blk t (aB slot x) (aB slot O) F=some out) (hK:Post S w0 N blk g al w fr out o.dst a K):o.wp P a w K Q:=by
 unfold QU at c;split at c
 ·cases c
 rename_i ty hty;split at c
 ·cases c
 rename_i J vt hmp;split at c
 ·rename_i tk tv htk htv;split at c
  ·rename_i m k hmo hk;split at c
   ·rename_i hc;simp only[iT,Qch]at hc;obtain⟨⟨c0,c1⟩,c2,Y,c4⟩:=hc;have xG:=Yh (L _ _ hty) hmp (Qa c0);obtain⟨d,hd,an⟩:=ni (L _ _ htk);have M:=aaO (t:=J) (ty:=tk) an c1;obtain⟨am,hkf⟩:=ac2 hk hi;obtain⟨R,X,hmap⟩:=aB1 hS h hmo hx;have c2':=Qa c2;have hall:∀p∈m.kvs,MapKept.IsKey d p.1.val:=fun p l=>aaO (t:=J) (ty:=tk) an (by rw[R.keys p l];exact c2)
    have ad:k.kind=m.kind:=by rw[c2'];exact Qa c1
    have i:=R.has k ad;have j:=R.get k ad;obtain⟨z,hz,hzc,G⟩:=agG (L _ _ htv) w;obtain⟨I,z2⟩:=Xz c4;have ab:∀p,m.get k=m.zero.map Pv.lf->(m.agg=true\/m.zero=[p])->z=ru m.agg m.zero:=by
     intro p _ l;rw[<-hzc]at I;cases s:m.agg with
     | true=>
      rw[s]at Y;rw[<-Y]at G;cases z<;>first | (simp[yV]at G;done) | skip
      rename_i cs;simp only[Value.cells]at I;show Value.agg cs=Value.agg (m.zero.map Pv.val).toArray
      rw[<-I]
     | false=>
      rw[s]at Y l;rw[<-Y]at G;have l:=l.resolve_left oI;rw[l]at I⊢;cases z<;>first | (simp[yV]at G;done) | (simp[Value.cells]at I;exact I)
    have run:∀(f:List Pv),(x9 k m.kvs).getD m.zero=f->(m.agg=true\/∃p,f=[p])->(Instr.lookup t (a.eval x) (a.eval O) F).run P w= .ok (if F then .tuple #[ru m.agg f, .bool (m.has k)]else ru m.agg f) w/\∀p∈f,p.fits:=by
     intro f b l;have W:∀(C:Array MapEntry),C.toList.map (fun e=>(e.key,e.val))=m.kvs.map (fun p=>(p.1.val,ru m.agg p.2))->((do
       Instr.checkKey C.isEmpty 10000 J k.val
       let (v,ok')<-match<-Instr.findKey J k.val C.toList with
        | some (_,v)=>pure (v,true)
        | none=>pure (<-zeroValue vt,false)
       pure (if F then .tuple #[v, .bool ok']else v)):Sem Value).run P w= .ok (if F then .tuple #[ru m.agg f, .bool (m.has k)]else ru m.agg f) w:=by
      intro C he;have Z:(Instr.findKey J k.val C.toList).run P w= .ok ((BG k m.kvs).map fun q=>(0+q.1,ru m.agg q.2)) w:=MapKept.run_findKey hd (RI M C.toList m.kvs 0 he hall);have ag:=MapKept.run_checkKey (P:=P) (w:=w) hd M C.isEmpty 9999;rw[KY]at i b j;cases H:BG k m.kvs with
      | some q=>
       rw[H]at Z i b;simp only[H6,Qcv,Option.isSome_some]at b i;rw[i,<-b];simp only[Sem.run_bind,ag,Z,Result.andThen_ok,H6,Sem.run_pure]
      | none=>
       rw[H]at Z i b j;simp only[Qb7,Option.getD_none,Option.isSome_none]at b i j;have hzz:z=ru m.agg m.zero:=by
        rcases l with l | ⟨p,l⟩
        ·exact ab (.bool false) j (.inl l)
        ·exact ab p j (.inr (b.trans l))
       rw[i,<-b,<-hzz];simp only[Sem.run_bind,ag,Z,Result.andThen_ok,Qb7,Sem.run_pure,hz]
     refine⟨?_,?_⟩
     ·rcases hmap with⟨hv,hnil⟩ | ⟨r,C,n,hv,hh,he⟩
      ·have V:=W #[] (by rw[hnil];rfl);rw[<-V,hv,am];simp[Instr.lookup,run_underlying xG];rfl
      ·have V:=W C he;rw[<-V,hv,am];simp[Instr.lookup,run_underlying xG,MapKept.run_getObj_map hh];rfl
     ·rw[KY]at b;cases H:BG k m.kvs with
      | some q=>
       rw[H]at b;obtain⟨p,h1,V⟩:=ado H;have b:q.2=f:=b;rw[<-b,<-V];exact(X p h1).2
      | none=>
       rw[H]at b;have b:m.zero=f:=b;rw[<-b];exact z2
    have aa:∀(y:Sv D) (f:List Pv),(x9 k m.kvs).getD m.zero=f->(m.agg=true\/∃p,f=[p])->((∀p∈f,p.fits)->y.Rel S (aV N blk g) w g (ru m.agg f))->
      (if F then some (⟨none, .sO [y, .lf (.bool (m.has k))],[]⟩:Out D)else some ⟨none, .one y,[]⟩)=some out->o.wp P a w K Q:=by
     intro y f b l hy A;obtain⟨B,E⟩:=run f b l;have ac:=hy E;split at A
     ·rename_i U;injection A with A
      subst A;rw[mV U]at B;refine bf (v:= .tuple #[ru m.agg f, .bool (m.has k)]) ?_ h hK rfl ⟨[_,_],rfl,ac,rfl,trivial⟩;simp[execOp,ho,B]
     ·rename_i U;injection A with A
      subst A;rw[lW U]at B;refine bf (v:=ru m.agg f) ?_ h hK rfl ac;simp[execOp,ho,B]
    split at c
    ·rename_i s;refine aa (.agg (m.get k)) _ rfl (.inl s) (fun E=> ?_) c;rw[s,j];exact⟨_,rfl,Pv.alJ E⟩
    ·rename_i y s u;rw[j]at u;have b:∃p,(x9 k m.kvs).getD m.zero=[p]:=by
      cases hl:(x9 k m.kvs).getD m.zero with
      | nil=>rw[hl]at u;cases u
      | cons p r=>
       rw[hl]at u;cases r with
       | nil=>exact⟨p,rfl⟩
       | cons q r=>simp at u
     obtain⟨p,b⟩:=b;rw[b]at u;have hye:y=Pv.lf p:=by simpa using u.symm
     subst hye;refine aa (.lf (Pv.lf p)) [p] b (.inr ⟨p,rfl⟩) (fun E=> ?_) c;rw[s];exact Pv.Wq (E p oI)
    ·cases c
   ·cases c
  ·cases c
 ·cases c
theorem Jd {t:TypeId}{x J y:Operand}(hS:iL S)(V:o.op= .mapUpdate t x J y\/o.op= .insert t x J y)(X:∀t ty,T t=some ty->fB P t ty)(h:Hp S w0 N blk g al w)(U:(aB slot x).Rel S (aV N blk g) w g (a.eval x))
  (hi:(aB slot J).Rel S (aV N blk g) w g (a.eval J)) (hy:(aB slot y).Rel S (aV N blk g) w g (a.eval y)) (b:FO T S blk t (aB slot x) (aB slot J) (aB slot y)=some out) (hK:Post S w0 N blk g al w fr out o.dst a K):o.wp P a w K Q:=by
 unfold FO at b;split at b
 ·cases b
 rename_i ty hty;split at b
 ·cases b
 rename_i kt vt hmp;split at b
 rotate_left
 ·cases b
 rename_i tk htk;split at b
 rotate_left
 ·cases b
 rename_i l k hex hk;rw[hex]at U;have U:g l=some (a.eval x):=U;split at b
 rotate_left
 ·cases b
 rename_i d0 hb;split at b
 rotate_left
 ·cases b
 rename_i m ac;split at b
 rotate_left
 ·cases b
 rename_i u hu;split at b
 rotate_left
 ·cases b
 rename_i hc;injection b with b
 subst b;simp only[iT]at hc;obtain⟨⟨c0,c1⟩,c2,c3⟩:=hc;have xG:=Yh (X _ _ hty) hmp (Qa c0);obtain⟨d,hd,am⟩:=ni (X _ _ htk);have C:=aaO (t:=kt) (ty:=tk) am c1;have Z:=(hS.xn _ _ ac).2.2;have ao:∀p∈m.kvs,MapKept.IsKey d p.1.val:=fun p E=>aaO (t:=kt) (ty:=tk) am (by rw[Z.keys p E];exact c2)
 have M:k.kind=m.kind:=by rw[Qa c2];exact Qa c1
 obtain⟨m',hm',ad,aI8⟩:=Z.put k u M (TM c3);obtain⟨azR,ag⟩:=ac2 hk hi;obtain⟨huv,Y⟩:=anX hu hy;obtain⟨v',z,m2,r,c,n,F,hf,rfl,CS,R,L⟩:=h.dn l _ hb;rw[ac]at F;injection F with F
 subst F;rw[U]at z;injection z with z
 have f:=MapKept.run_findKey (P:=P) (w:=w) hd (RI C c.toList m.kvs 0 L ao);have ab:=MapKept.run_checkKey (P:=P) (w:=w) hd C false 9999;have W:∀(s:Array MapEntry) (I:Nat),(Instr.mapUpdate t (.map (some r)) k.val (ru m.agg u)).run P w= .ok () {w with heap:=w.heap.setIfInBounds r (.map s I)}->s.toList.map (fun e=>(e.key,e.val))=(Ju k u m.kvs).map (fun p=>(p.1.val,ru m.agg p.2))->(∀p∈Ju k u m.kvs,p.1.fits/\∀x∈p.2,x.fits)->o.wp P a w K Q:=by
  intro s I ap he' hf';obtain⟨q1,q2⟩:=MapKept.heap_set (o':=Obj.map s I) R;obtain⟨B,hk'⟩:=h.write (w':={w with heap:=w.heap.setIfInBounds r (.map s I)}) (bk':= .map (m.put k u)) hb rfl rfl U (by rw[z];rfl) rfl rfl rfl oI (fun m hm=>q2 m hm)
   (fun _=>⟨m',r,s,I,hm',by rw[ad];exact hf',z,CS,q1,by rw[ad,aI8];exact he'⟩)
  refine JG ?_ (hK _ _ _ (More.refl _) hk' (B.weaken fun _ h=> .inl h) trivial);rcases V with V | V<;>simp[execOp,V,z,azR,huv,ap]
 cases A:BG k m.kvs with
 | none=>
  rw[A]at f;refine W (c.push {key:=k.val,val:=ru m.agg u,born:=n}) (n+1) ?_ ?_ ?_
  ·simp only[Qb7]at f;simp[Instr.mapUpdate,run_underlying xG,MapKept.run_getObj_map R,ab,f,MapKept.run_setObj_map _ R]
  ·rw[MB A];simp[L]
  ·rw[MB A];intro p E;rcases u_.1 E with E | E
   ·exact hf p E
   ·have:=BH.1 E;subst this;exact⟨ag,Y⟩
 | some q=>
  rw[A]at f;obtain⟨p,H,hp2,aa⟩:=XM (v:=u) (j:=q.1) (u:=q.2) A;have an:c.toList.length=m.kvs.length:=by have:=Qcw List.length L;simpa using this
  have hql:q.1 < c.size:=by
   have:=(Qa1.1 H).1;simp at an;omega
  have O:c[q.1]? =some c[q.1]:=Qd hql;have M:c[q.1].key=k.val:=by
   have D:(c.toList.map (fun e=>(e.key,e.val)))[q.1]? =(m.kvs.map fun p=>(p.1.val,ru m.agg p.2))[q.1]? :=by rw[L]
   simp only[Qbf,H,H6]at D;rw[Qb3,O]at D;simp at D;rw[D.1,hp2]
  refine W (c.modify q.1 fun e=>{e with key:=k.val,val:=ru m.agg u}) n ?_ ?_ ?_
  ·simp only[H6,FQ]at f;simp[Instr.mapUpdate,run_underlying xG,MapKept.run_getObj_map R,ab,f,O,M,MapKept.run_keyThatStays C,MapKept.run_setObj_map _ R]
  ·rw[aa];refine List.ext_getElem? fun i=> ?_;have D:(c.toList.map (fun e=>(e.key,e.val)))[i]? =(m.kvs.map fun p=>(p.1.val,ru m.agg p.2))[i]? :=by rw[L]
   simp only[Qbf,Qb3]at D;rw[Qbf,Qb3,Qcc,Qbf,List.getElem?_set];by_cases G:q.1=i
   ·subst G;have hlt:q.1 < m.kvs.length:=(Qa1.1 H).1;rw[O];simp[hlt]
   ·rw[lW G,lW G];exact D
  ·rw[aa];intro p' B;rcases List.mem_or_eq_of_mem_set B with B | rfl
   ·exact hf p' B
   ·exact⟨ag,Y⟩
theorem agu (a:List Int):∀(b:ByteArray),a.foldl (fun r n=>r.push (UInt8.ofNat n.toNat)) b=⟨(b.data.toList++a.map fun n=>UInt8.ofNat n.toNat).toArray⟩:=by
 induction a with
 | nil=>intro b;simp
 | cons n a c=>
  intro b;rw[List.foldl_cons,c];congr 2;simp[ByteArray.push]
theorem ZI {f:Nat->Bool}:∀{n:Nat},Hl f n=true->∀i,i < n->f i=true
 | 0,_,i,a=>by omega
 | n+1,h,i,a=>by
  simp only[Hl,iT]at h;by_cases e:i=n
  ·subst e;exact h.1
  ·exact ZI h.2 i au
theorem acA {d:D}{n:Nat}(h:Ie S d n=true)(i:Nat)(a:i < n):∃k,S.cell d i 0= .int .u8 k:=by
 have:=ZI h i a;unfold aHb at this;split at this
 ·rename_i k b;exact⟨k,b⟩
 ·cases this
theorem amZ {d:D}{n:Nat}(h:Zj S d n=true)(i:Nat)(a:i < n):∃k,S.cell d i 0= .int .u8 k/\0<=k/\k < 256:=by
 have:=ZI h i a;unfold apr at this;split at this
 ·rename_i k b;simp only[iT,WL]at this;exact⟨k,b,this.1,this.2⟩
 ·cases this
theorem XH {f g:Nat->Bool}(h:∀i,f i=true->g i=true):∀{n:Nat},Hl f n=true->Hl g n=true
 | 0,_=>rfl
 | n+1,a=>by
  simp only[Hl,iT]at a⊢;exact⟨h n a.1,XH h a.2⟩
theorem ahT {d:D}{n:Nat}(h:Zj S d n=true):Ie S d n=true:=
 XH (fun i a=>by
  unfold apr at a;split at a
  ·rename_i k b;rw[b];rfl
  ·cases a) h
theorem SN {d:D}{a:List Value}{M:Nat->Prop}{g:Nat->Option Value}(l:S.size d=1)(q:Ie S d (S.len d)=true)(o:a.length=S.len d*S.size d)
  (r:∀i j,i < S.len d->j < S.size d->∃u,a[i*S.size d+j]? =some u/\(S.cell d i j).Rel S M w g u):∃m:List Int,a=m.map (Value.int .u8)/\m.map (fun n=>UInt8.ofNat n.toNat)=bytesOf S d:=by
 rw[l,Qcy]at o;have f:∀i,i < S.len d->∃k,S.cell d i 0= .int .u8 k/\a[i]? =some (.int .u8 k):=fun i b=>by
  obtain⟨k,c⟩:=acA q i b;obtain⟨u,h,e⟩:=r i 0 b au;rw[c]at e;rw[l,Qcy,Pj]at h;have e:u= .int .u8 k:=e;exact⟨k,c,by rw[h,e]⟩
 refine⟨(List.range (S.len d)).map fun i=>match S.cell d i 0 with
  | .int .u8 n=>n
  | _=>0,?_,?_⟩
 ·refine List.ext_getElem? fun i=> ?_;by_cases b:i < S.len d
  ·obtain⟨k,c,p⟩:=f i b;simp[p,Qbf,Qd4 b,c]
  ·rw[Qbw au,Qbw qbt]
 ·unfold bytesOf;rw[Qcp];refine Qbk fun i b=> ?_;obtain⟨k,c,_⟩:=f i (Qcl.1 b);simp[c,aB0]
theorem ahx {t i:TypeId}{x:Operand}(hS:iL S)(O:o.op= .convert t i x)(r:∀t W,T t=some W->fB P t W)(h:Hp S w0 N blk g al w)(f:(aB slot x).Rel S (aV N blk g) w g (a.eval x))
  (b:O1 T S blk t i (aB slot x)=some out) (L:lY out.pre) (hK:Post S w0 N blk g al w fr out o.dst a K):o.wp P a w K Q:=by
 unfold O1 at b;split at b
 ·rename_i ts td hts V;split at b
  ·cases b
  rename_i e Z;split at b
  ·cases b
  rename_i te hte;have D:=kG (r _ _ hts) Z;split at b
  ·rename_i C;simp only[iT]at C;obtain⟨G,F,c3⟩:=C;have G:=Qa G;have F:=Qa F;obtain⟨dd,n,y⟩:=ni (r _ _ V);obtain⟨de,m,p⟩:=ni (r _ _ hte);have n:P.underlying i=some .string:=by
    rw[G]at y;cases dd<;>simp[kindOf]at y<;>first | exact n | (rename_i k;cases k<;>simp[rD]at y)
   have m:P.underlying e=some (.int .u8):=by
    rw[F]at p;cases de<;>simp[kindOf]at p<;>(rename_i k;cases k<;>simp[rD]at p;exact m)
   split at b
   ·rename_i j;rw[j]at f;have f:a.eval x= .slice none 0 0:=f;injection b with b
    subst b;refine bf (v:= .string ⟨#[]⟩) ?_ h hK rfl ⟨rfl,by simp⟩;simp only[execOp,O,f,Sem.run_bind,run_convert_bytes_string w t i e none 0 0 D m n];rfl
   ·split at b
    ·rename_i d c;split at b
     ·rename_i C;have Y:=Qa C;injection b with b
      subst b;obtain⟨E,s,I,hv,M,H,A,hone,z⟩:=Hq hS h f c au;obtain⟨ns,U,hn2⟩:=SN Y L M z;have hlen:(bytesOf S d).length=S.len d:=by simp[bytesOf]
      have hle:S.len d<=9223372036854775807:=by
       unfold Ji at c;split at c
       ·rename_i R j;injection c with c
        subst c;rw[j]at f;exact dD.aiy f
       ·rename_i l j;rw[j]at f;have f:g l=some (a.eval x):=f;split at c
        ·rename_i e' R q;injection c with c
         subst c;obtain⟨_,_,J,_⟩:=h.dn l _ q;exact J.2.1
        ·rename_i R q;injection c with c
         subst c;obtain⟨_,_,J⟩:=h.dn l _ q;exact dD.aiy J
        ·cases c
       ·cases c
      refine bf (v:= .string ⟨(bytesOf S d).toArray⟩) ?_ h hK rfl ⟨rfl,by omega⟩;have hcv:=run_convert_bytes_string w t i e E (S.len d) s D m n;have q:(Conv.bytesToString (.slice E (S.len d) s)).run P w= .ok (.string ⟨(bytesOf S d).toArray⟩) w:=by
       cases E with
       | none=>
        have h0:=A rfl;have:bytesOf S d=[]:=Qcx au;rw[this];rfl
       | some B=>
        have X:(loadCells B (S.len d)).run P w= .ok (ns.map (Value.int .u8)).toArray w:=by
         have:=run_loadCells (P:=P) (w:=w) B I 0 #[] (fun k u hk=>by have:=H B rfl k u hk;simpa using this);rw[M,Y,Qcy]at this;simpa[loadCells,U]using this
        rw[run_bytesToString w B (S.len d) s ns X,agu,hn2];simp
      simp only[execOp,O,hv,Sem.run_bind,hcv,q,Result.andThen_ok,Sem.run_pure]
     ·cases b
    ·cases b
  ·cases b
 ·cases b
theorem aos {x:Lf D}{p:Dl D}{v:Value}{M:Nat->Prop}{g:Nat->Option Value}(h:x.dl=some p)(a:x.Rel S M w g v):p.Rel S M w v:=by
 unfold Lf.dl at h;split at h<;>first | (injection h with h;subst h;exact a) | cases h
theorem ajI {M:Nat->Prop}{g:Nat->Option Value}:∀{c:List (Lf D)} {a:List (Dl D)} {b:List Value},dls c=some a->aZ S M w g c b->ui S M w a b
 | [],a,[],h,_=>by simp[dls]at h;subst h;trivial
 | x::c,a,v::b,h,d=>by
  unfold dls at h;split at h
  ·rename_i p i f e;injection h with h
   subst h;exact⟨aos f d.1,ajI e d.2⟩
  ·cases h
theorem YM {M:Nat->Prop}{g:Nat->Option Value}{x:Sl D}{f:Bool}{e:List (Dl D)}{v:Value}(h:ajW x=some (f,e))(a:x.Rel S M w g v):Nr S M w f e v:=by
 unfold ajW at h;split at h
 ·split at h
  ·rename_i p c;injection h with h
   injection h with d b
   subst d b;exact aos c a
  ·cases h
 ·split at h
  ·rename_i k c;injection h with h
   injection h with d b
   subst d b;obtain⟨j,i,a⟩:=a;exact⟨j,i,ajI c a⟩
  ·cases h
 ·cases h
theorem Dl.Wq {M:Nat->Prop}{g:Nat->Option Value}{p:Dl D}{v:Value}(h:p.Rel S M w v):p.lf.Rel S M w g v:=by
 cases p<;>exact h
theorem atz {M:Nat->Prop}{g:Nat->Option Value}:∀{a:List (Dl D)} {b:List Value},ui S M w a b->aZ S M w g (a.map Dl.lf) b
 | [],[],_=>trivial
 | p::a,v::b,h=>⟨Dl.Wq h.1,atz h.2⟩
theorem adu {M:Nat->Prop}{g:Nat->Option Value}{c:Bool}{b:List (Dl D)}{x:Sl D}{v:Value}(h:anR c b=some x)(a:Nr S M w c b v):x.Rel S M w g v:=by
 unfold anR at h;split at h
 ·injection h with h
  subst h;exact Dl.Wq a
 ·injection h with h
  subst h;obtain⟨e,d,a⟩:=a;exact⟨e,d,atz a⟩
 ·cases h
theorem aob {t:TypeId}{x:Operand}(k:o.op= .makeInterface t x)(i:∀t c,T t=some c->fB P t c)(h:Hp S w0 N blk g al w)(l:(aB slot x).Rel S (aV N blk g) w g (a.eval x))
  (b:aDQ T t (aB slot x)=some out) (m:Post S w0 N blk g al w fr out o.dst a K):o.wp P a w K Q:=by
 unfold aDQ at b;split at b
 ·cases b
 ·rename_i c j;split at b
  ·cases b
  ·rename_i f;have f:c.kind≠0:=fun e=>f qcz
   have d:=run_makeInterface (P:=P) w t (a.eval x) (yN (i _ _ j) f);split at b
   ·rename_i q p n;injection b with b
    subst b;refine bf (v:= .iface t (a.eval x)) ?_ h m rfl ⟨_,rfl,YM n l⟩;simp[execOp,k,d]
   ·cases b
theorem Tv {P:Program}{t:TypeId}{e:Ty}{z:Sv D}{M:Nat->Prop}{g:Nat->Option Value}(h:fB P t e)(a:ZY e=some z)(w:World):∃u,(zeroValue t).run P w= .ok u w/\z.Rel S M w g u:=by
 obtain⟨u,i,f,d⟩:=agG h w;refine⟨u,i,?_⟩;unfold ZY at a;split at a
 ·split at a
  ·rename_i b;injection a with a
   subst a;rw[b]at d;cases u<;>simp[yV]at d
   rename_i cs;refine⟨cs.toList,by simp,?_⟩;have:cs.toList=e.zero:=by rw[<-f];simp[Value.cells]
   rw[this];exact qY _
  ·cases a
 ·split at a
  ·rename_i j c;split at a
   ·cases a
   ·rename_i b;injection a with a
    subst a;have b:e.zag=false:=by simpa using b
    rw[b]at d;rw[<-f]at c;have:u=j:=by cases u<;>first | (simp[Value.cells]at c;exact c) | (simp[yV]at d)
    subst this;exact zV _
  ·cases a
theorem WG {t L:TypeId}{x:Operand}{I:Bool}(s:o.op= .typeAssert x L t I)(m:∀t A,T t=some A->fB P t A)(h:Hp S w0 N blk g al w)(B:(aB slot x).Rel S (aV N blk g) w g (a.eval x))
  (b:RZ T t (aB slot x) I=some out) (C:Post S w0 N blk g al w fr out o.dst a K):o.wp P a w K Q:=by
 unfold RZ at b;split at b
 ·cases b
 rename_i A q;split at b
 ·cases b
 rename_i E;have E:A.kind≠0:=fun e=>E qcz
 have c:=yN (m _ _ q) E;unfold Program.concrete at c;split at b
 ·rename_i G O R n;rw[n]at B;obtain⟨u,l,H⟩:∃u,a.eval x= .iface G u/\Nr S (aV N blk g) w O R u:=B;split at b
  ·rename_i y J;have D:y.Rel S (aV N blk g) w g u:=adu (x:= .one y) J H;cases f:P.underlying t with
   | none=>rw[f]at c;cases c
   | some d=>
    rw[f]at c;split at b
    ·split at b
     ·rename_i i;have i:=Qa i;subst i;injection b with b
      subst b;refine bf (v:= .tuple #[u, .bool true]) ?_ h C rfl ⟨[u, .bool true],rfl,D,rfl,trivial⟩;cases d<;>first | (cases c;done) | simp[execOp,s,Instr.typeAssert,run_underlying f,l]
     ·rename_i r;have r:¬G=t:=fun e=>r (by rw[e];simp)
      split at b
      ·rename_i z F;injection b with b
       subst b;obtain⟨j,p,k⟩:=Tv (S:=S) (M:=aV N blk g) (g:=g) (m _ _ q) F w;refine bf (v:= .tuple #[j, .bool false]) ?_ h C rfl ⟨[j, .bool false],rfl,k,rfl,trivial⟩;cases d<;>first | (cases c;done) | simp[execOp,s,Instr.typeAssert,run_underlying f,l,r,p]
      ·cases b
    ·split at b
     ·rename_i i;have i:=Qa i;subst i;injection b with b
      subst b;refine bf (v:=u) ?_ h C rfl D;cases d<;>first | (cases c;done) | simp[execOp,s,Instr.typeAssert,run_underlying f,l]
     ·cases b
  ·cases b
 ·rename_i v n;split at b
  ·split at b
   ·rw[n]at B;have l:a.eval x= .nilIface:=B.1;split at b
    ·split at b
     ·rename_i z F;injection b with b
      subst b;obtain⟨j,p,k⟩:=Tv (S:=S) (M:=aV N blk g) (g:=g) (m _ _ q) F w;cases f:P.underlying t with
      | none=>rw[f]at c;cases c
      | some d=>
       rw[f]at c;refine bf (v:= .tuple #[j, .bool false]) ?_ h C rfl ⟨[j, .bool false],rfl,k,rfl,trivial⟩;cases d<;>first | (cases c;done) | simp[execOp,s,Instr.typeAssert,run_underlying f,l,p]
     ·cases b
    ·cases b
   ·cases b
  ·cases b
 ·cases b
theorem al6 {f:FuncId}{first caps:Array Operand}{x:Operand}(c:o.op= .makeFunc (.func f) first caps)(l:first.toList=[x])(d:caps.toList=[])(h:Hp S w0 N blk g al w)(e:(aB slot x).Rel S (aV N blk g) w g (a.eval x))
  (b:aCp f (aB slot x)=some out) (i:Post S w0 N blk g al w fr out o.dst a K):o.wp P a w K Q:=by
 unfold aCp at b;split at b
 ·rename_i p n k;injection b with b
  subst b;have m:first= #[x]:=by rw[<-H5];exact l
  have j:caps= #[]:=by rw[<-H5];exact d
  refine bf (v:= .func (.func f) #[a.eval x] #[]) ?_ h i rfl ⟨_,rfl,YM k e⟩;simp[execOp,c,Instr.makeFunc,m,j]
 ·cases b
theorem afD {op:BinOp}{t D:TypeId}{x y:Operand}(q:o.op= .binOp op t x y D)(r:∀t m,T t=some m->fB P t m)(h:Hp S w0 N blk g al w)(c:(aB slot x).Rel S (aV N blk g) w g (a.eval x))
  (f:(aB slot y).Rel S (aV N blk g) w g (a.eval y)) (b:adc T S op t (aB slot x) (aB slot y)=some out) (A:Post S w0 N blk g al w fr out o.dst a K):o.wp P a w K Q:=by
 unfold adc at b;split at b
 ·cases b
 rename_i m z;split at b
 ·split at b
  ·rename_i e d B s C;split at b
   ·rename_i p;simp only[iT,CE]at p;have j:=kG (r _ _ z) B;rw[s]at c;rw[C]at f;have c:dD S (aV N blk g) w d (a.eval x):=c;have f:a.eval y= .slice none 0 0:=f;obtain⟨F,i,n,E⟩:=dD.slice c au;rw[n]at c;obtain⟨l,rfl⟩:=dD.Aw c p.1 p.2;have k:=fun w=>lm (P:=P) (w:=w) (op:=op) (t:=t) (x:=x) (y:=y) (u:= .slice (some l) (S.len d) i) (v:= .slice none 0 0) rfl oI
    split at b
    ·injection b with b;subst b
     refine bf (v:= .bool false) ?_ h A rfl rfl;simp[execOp,q,n,f,k,Lib.run_eql_slice_nil w t e (some l) (S.len d) i 0 0 j]
    ·injection b with b;subst b
     refine bf (v:= .bool true) ?_ h A rfl rfl;simp[execOp,q,n,f,k,run_neq_slice_nil_any w t e (some l) (S.len d) i 0 0 j]
    ·cases b
   ·cases b
  ·cases b
 ·cases b
theorem amo {c:Call}{x:Operand}(s:o.op= .call c)(u:c.callee= .builtin .cap)(m:c.args.toList=[x])(l:∀t i,T t=some i->fB P t i)(h:Hp S w0 N blk g al w)(f:(aB slot x).Rel S (aV N blk g) w g (a.eval x))
  (b:aET T c.argTypes (aB slot x)=some out) (y:Post S w0 N blk g al w fr out o.dst a K):o.wp P a w K Q:=by
 have d:c.args= #[x]:=by rw[<-H5];exact m
 unfold aET at b;split at b
 ·rename_i t j n;have k:c.argTypes= #[t]:=by rw[<-H5];exact j
  rw[n]at f;have f:a.eval x= .slice none 0 0:=f;split at b
  ·rename_i i r;split at b
   ·rename_i e p;have q:=kG (l _ _ r) p;injection b with b
    subst b;refine bf (v:= .int .i64 0) ?_ h y rfl rfl;simp[execOp,s,resolve,u,invoke,builtin,d,k,f,Builtin.cap_,run_underlying q,goInt]
   ·cases b
  ·cases b
 ·cases b
theorem WP {c:Call}{x y:Operand}(O:iL S)(ho:o.op= .call c)(hc:c.callee= .builtin .append)(hx':c.args.toList=[x,y])(A:∀t X,T t=some X->fB P t X)(h:Hp S w0 N blk g al w)(hfr:∀n,fr<=n->n < fr+64->¬al n)
  (I:(aB slot x).Rel S (aV N blk g) w g (a.eval x)) (G:(aB slot y).Rel S (aV N blk g) w g (a.eval y)) (f:VA T S fr c.argTypes (aB slot x) (aB slot y)=some out) (hp:lY out.pre) (hK:Post S w0 N blk g al w fr out o.dst a K):o.wp P a w K Q:=by
 have H:c.args= #[x,y]:=by rw[<-H5];exact hx'
 unfold VA at f;split at f
 ·rename_i t V k n htt hex CY;have hat:c.argTypes= #[t,V]:=by rw[<-H5];exact htt
  rw[hex]at I;rw[CY]at G;have I:a.eval x= .slice none 0 0:=I;have G:a.eval y= .int k n:=G;split at f
  ·rename_i X ti hty hti;split at f
   ·rename_i Z e C hel;split at f
    ·rename_i s hte;have hsl:=kG (A _ _ hty) hel;obtain⟨i,z,hi,hz,q1,q2,q3⟩:=ul (A _ _ hte);obtain⟨dd,U,hkd⟩:=ni (A _ _ hti);have U:P.underlying V=some (.int Z):=by
      rw[<-hkd]at C;cases dd<;>simp[kindOf,al0]at C
      rw[U,Yj C]
     split at f
     ·rename_i D;simp only[iT]at D;have e2:0 < s.size:=by simpa[CE]using D.1
      have e3:=Qa D.2;have p:z.cells.size=s.size:=by rw[<-e3,<-q3];simp
      split at f
      ·rename_i d J;injection f with f
       subst f;obtain⟨p1,p2,p3⟩:0 < n/\n*s.bytes<=281474976710656/\n<=1099511627776:=hp;obtain⟨r,z2,z3⟩:=O.zero _ _ _ _ J;have q:S.size d=s.size:=by rw[<-z2,Qbn,e3]
       obtain⟨m,rfl⟩:∃m:Nat,n=(m:Int):=⟨n.toNat,by omega⟩;have u:m*i.bytes<=281474976710656:=by
        rw[q2];have:((m*s.bytes:Nat):Int)<=281474976710656:=by rw[Int.natCast_mul];exact p2
        omega
       have W:=Lib.run_append_nil_zeros (P:=P) w t V o.type e i z k Z hsl U hi hz m au au au u;have F:(execOp a.eval o).run P w= .ok (.value (.slice (some ⟨w.heap.size,0,none⟩) m (grownCap w m 0 e))) (w.drew.alloc (.cells (Builtin.zeroCells z.cells m++Builtin.zeroCells z.cells (grownCap w m 0 e - m)) e)):=by
        simp only[execOp,ho,resolve,hc,invoke,builtin,H,hat,Sem.run_bind,Sem.run_pure,Result.andThen_ok,Qb9,H7,Qcq,I,G,W]
       have hge:=grownCap_ge w m 0 e;have hcm:grownCap w m 0 e<=maxLen:=grownCap_le_maxLen w m 0 e (by simp only[maxLen];omega);have hB:Below w.heap.size w (w.drew.alloc (.cells (Builtin.zeroCells z.cells m++Builtin.zeroCells z.cells (grownCap w m 0 e - m)) e)):=⟨rfl,rfl,rfl,by simp,fun k hk=>Go.heap_alloc_old w.drew _ hk⟩;simp only[DI]at r z2 z3;obtain⟨g1,g2,g3⟩:=h.add (l:=fr) (bk:= .row e d) (v:= .slice (some ⟨w.heap.size,0,none⟩) m (grownCap w m 0 e)) hB (hfr fr (oC _) au) (fun b u=>by simp[eP]at u;omega)
        (fun M' hk _=>by
         refine⟨⟨fun b u=> .inl ?_,by rw[r];omega,O.Wx _ _ _ _ J⟩,(Builtin.zeroCells z.cells m).toList,⟨?_, .inr ⟨w.heap.size,grownCap w m 0 e,_,by rw[r],vP _,heap_alloc_new w.drew _,by rw[r];exact hge,hcm,?_,?_⟩⟩,fun i' j B E=> ?_⟩
         ·simp only[eP,Nj]at u;have:=h.below.size;omega
         ·rw[WJ,size_zeroCells,p,r,q]
         ·simp only[Array.size_append,size_zeroCells,p,q,<-Qcj];congr 1;omega
         ·rw[Qcb,List.take_left' (by rw[WJ,size_zeroCells,p,r,q])]
         ·rw[r]at B;obtain⟨x0,L,Y⟩:=z3 i' j B E;have hlt:=oQ B E;have M:j < z.cells.size:=by omega
          have hzj:s.zero[j]? =some z.cells[j]:=by rw[<-q3];simp[M]
          refine⟨z.cells[j],?_,O.data _ _ _ au E,Y.rel ?_⟩
          ·have R:(i'*S.size d+j) % z.cells.size=j:=by rw[p,<-q,Qcr,Qd2,Qbv E]
           rw[LK (by rw[p,<-q];exact hlt),R];simp[M]
          ·simp only[Qbf,hzj,H6,Nj]at L;rw[<-L];exact(zV _).norm)
       exact kJ F (hK _ _ _ g3 g2 (g1.weaken UL) (upd_same _ _ _))
      ·cases f
     ·cases f
    ·cases f
   ·cases f
  ·cases f
 ·cases f
theorem WX {c:Call}{x y:Operand}(ho:o.op= .call c)(hc:c.callee= .builtin .append)(O:c.args.toList=[x,y])(A:∀t C,T t=some C->fB P t C)(h:Hp S w0 N blk g al w)
  (j:(aB slot x).Rel S (aV N blk g) w g (a.eval x)) (r:(aB slot y).Rel S (aV N blk g) w g (a.eval y)) (f:zJ T S blk c.argTypes (aB slot x) (aB slot y)=some out) (u:Post S w0 N blk g al w fr out o.dst a K):o.wp P a w K Q:=by
 have s:c.args= #[x,y]:=by rw[<-H5];exact O
 unfold zJ at f;split at f
 ·rename_i t t' J CY;split at f
  ·rename_i B;have B:=Qa B;subst B;have M:c.argTypes= #[t,t]:=by rw[<-H5];exact J
   rw[CY]at r;have r:a.eval y= .slice none 0 0:=r;split at f
   ·cases f
   rename_i C X;split at f
   ·cases f
   rename_i e R;split at f
   ·cases f
   rename_i te W;have U:=kG (A _ _ X) R;obtain⟨i,z,hi,hz,q1,q2,q3⟩:=ul (A _ _ W);have p:∀(b:Option Addr) (n q:Nat),a.eval x= .slice b n q->n<=q->(execOp a.eval o).run P w= .ok (.value (a.eval x)) w:=by
    intro b n q D L;have:(Builtin.append_ #[t,t] o.type #[.slice b n q, .slice none 0 0]).run P w= .ok (.slice b n q) w:=by
     cases b<;>simp[Builtin.append_,run_underlying U,sizeOf,typeInfo,hi,Builtin.lenOf,Builtin.firstCells,L,storeCells]
    simp only[execOp,ho,resolve,hc,invoke,builtin,s,M,Sem.run_bind,Sem.run_pure,Result.andThen_ok,Qb9,H7,Qcq,D,r,this]
   split at f
   ·rename_i m;rw[m]at j;injection f with f
    subst f;exact bf (v:=a.eval x) (p none 0 0 j (oC _)) h u rfl j
   ·rename_i d m;rw[m]at j;split at f
    ·rename_i V;injection f with f
     subst f;obtain⟨Z,Y,D,F⟩:=dD.slice j (by simpa[CE]using V);exact bf (v:=a.eval x) (p Z _ Y D F) h u rfl j
    ·cases f
   ·rename_i l m;rw[m]at j;split at f
    ·rename_i e' d hb;injection f with f
     subst f;have j:g l=some (a.eval x):=j;obtain⟨v,k,_,xs,⟨_,E⟩,_⟩:=h.dn l _ hb;rw[j]at k;injection k with k
     rcases E with⟨h0,hn0⟩ | ⟨b,G,cur,I,_,_,H,_⟩
     ·exact bf (v:=a.eval x) (p none 0 0 (by rw[k,h0]) (oC _)) h u rfl j
     ·exact bf (v:=a.eval x) (p _ _ G (by rw[k,I]) H) h u rfl j
    ·cases f
   ·cases f
  ·cases f
 ·cases f
theorem aa2 {t:TypeId}{x:Operand}{U O:Option Operand}(m:iL S)(M:o.op= .slice t x U O none)(z:∀t D,T t=some D->fB P t D)(h:Hp S w0 N blk g al w)
  (E:∀x:Operand,(aB slot x).Rel S (aV N blk g) w g (a.eval x)) (b:QD T S blk t (aB slot x) (U.map (aB slot)) (O.map (aB slot))=some out) (W:lY out.pre) (hK:Post S w0 N blk g al w fr out o.dst a K):o.wp P a w K Q:=by
 have u:=E x;unfold QD at b;split at b
 ·cases b
 rename_i D Z;split at b
 ·split at b
  ·rename_i l e J X;split at b
   ·cases b
   rename_i te Y;have A:=kG (z _ _ Z) X;have y:=kU (z _ _ Y) w;split at b
   ·rename_i q V;rw[V]at u;have u:g q=some (a.eval x):=u;split at b
    ·rename_i e' d F;split at b
     ·rename_i s;simp only[iT]at s;have I:=Qa s.1;split at b
      ·rename_i hh r;split at b
       ·rename_i d' i;injection b with b
        subst b;obtain⟨G,B,C⟩:=W;obtain⟨H,L,_,_⟩:=Hp.FP m [q] blk oI h;have R:[q].filterMap (ja blk)=[(q,some (.uZ d))]:=by simp[ja,F,rwD]
        rw[R]at H L;obtain⟨v,f,c⟩:=H.dn q (.uZ d) (by simp[kw,upd_same]);rw[u]at f;injection f with f
        subst f;have c:dD S _ w d (a.eval x):=c;obtain⟨av,aa,p,j⟩:=dD.slice' c (m.Et _ _ _ _ i).1;rw[p]at c;have k:=EG m c i au au;exact kJ (JB M A y p j E J r I G B C) (hK _ w g (More.refl _) L (H.weaken fun n hn=> .inl hn) k)
       ·cases b
      ·cases b
     ·cases b
    ·rename_i d F;split at b
     ·rename_i s;simp only[iT]at s;have I:=Qa s.1;split at b
      ·rename_i hh r;split at b
       ·rename_i d' i;injection b with b
        subst b;obtain⟨G,B,C⟩:=W;obtain⟨v,f,c⟩:=h.dn q (.uZ d) F;rw[u]at f;injection f with f
        subst f;have c:dD S _ w d (a.eval x):=c;obtain⟨av,aa,p,j⟩:=dD.slice' c (m.Et _ _ _ _ i).1;rw[p]at c;have k:=EG m c i au au;exact bf (v:=_) (JB M A y p j E J r I G B C) h hK rfl k
       ·cases b
      ·cases b
     ·cases b
    ·cases b
   ·cases b
  ·cases b
 ·cases b
theorem aey {t e:TypeId}{x l j:Operand}{p s n c:Nat}{g:Option Addr}{h i:IntKind}{b:Int}(r:o.op= .slice t x none (some l) (some j))(f:P.underlying t=some (.slice e))(q:(sizeOf e).run P w= .ok p w)(y:a.eval x= .slice g n c)(B:n<=c)
  (C:a.eval l= .int h b) (A:a.eval j= .int i b) (u:p=s) (z:0<=b) (D:b<=n):(execOp a.eval o).run P w= .ok (.value (sliced g 0 b.toNat b.toNat s)) w:=by
 have d:P.elem t=e:=by simp[Program.elem,f]
 have m:P.underlying t=some (.slice (P.elem t)):=by rw[d];exact f
 have k:(execOp a.eval o).run P w=((Instr.slice t (.slice g n c) none (some (.int h b)) (some (.int i b))).run P w).andThen fun v w=> .ok (.value v) w:=by
  simp[execOp,r,y,C,A,run_sliceAt_slice w t _ _ _ _ m]
 rw[k,run_slice_hm w t _ _ _ m h i b b z (H8 _) au,d,q,<-u];rfl
theorem aap {t:TypeId}{x C:Operand}{F D:Option Operand}(i:iL S)(Z:o.op= .slice t x F D (some C))(I:∀t U,T t=some U->fB P t U)(h:Hp S w0 N blk g al w)
  (R:∀x:Operand,(aB slot x).Rel S (aV N blk g) w g (a.eval x)) (b:QA T S blk t (aB slot x) (F.map (aB slot)) (D.map (aB slot)) (aB slot C)=some out) (hp:lY out.pre) (hK:Post S w0 N blk g al w fr out o.dst a K):o.wp P a w K Q:=by
 have f:=R x;unfold QA at b;split at b
 ·rename_i kh s km m z L ab;have z:F=none:=by cases F with
   | none=>rfl
   | some l=>cases z
  obtain⟨G,rfl,aKi⟩:∃E,D=some E/\aB slot E= .one (.lf (.int kh s)):=by
   cases D with
   | none=>cases L
   | some E=>exact⟨E,rfl,by injection L⟩
  subst z;have e1:a.eval G= .int kh s:=by have:=R G;rw[aKi]at this;exact this
  have e2:a.eval C= .int km m:=by have:=R C;rw[ab]at this;exact this
  split at b
  ·cases b
  rename_i U hty;split at b
  ·cases b
  rename_i e hel;split at b
  ·cases b
  rename_i te hte;have J:=kG (I _ _ hty) hel;have H:=kU (I _ _ hte) w;split at b
  ·rename_i d y;rw[y]at f;split at b
   ·rename_i B;simp only[iT]at B;have X:=Qa B.1;split at b
    ·rename_i d' c;injection b with b
     subst b;obtain⟨V,M,O⟩:=hp;subst M;have f:dD S _ w d (a.eval x):=f;obtain⟨av,cap,u,p⟩:=dD.slice' f (i.Et _ _ _ _ c).1;rw[u]at f;have k:=(i.sub _ _ _ _ c (vP _) (show s.toNat<=S.len d by omega)).2.1;have A:=EG i f c (vP _) (show s.toNat<=S.len d by omega);refine bf (v:=_) (aey Z J H u p e1 e2 X V O) h hK rfl ?_;exact aka i f c au k
    ·cases b
   ·cases b
  ·rename_i q y;rw[y]at f;have f:g q=some (a.eval x):=f;split at b
   ·rename_i e' d hb;split at b
    ·rename_i B;simp only[iT]at B;have X:=Qa B.1;split at b
     ·rename_i d' c;injection b with b
      subst b;obtain⟨V,M,O⟩:=hp;subst M;obtain⟨W,Y,_,_⟩:=Hp.FP i [q] blk oI h;have aa:[q].filterMap (ja blk)=[(q,some (.uZ d))]:=by simp[ja,hb,rwD]
      rw[aa]at W Y;obtain⟨v,r,j⟩:=W.dn q (.uZ d) (by simp[kw,upd_same]);rw[f]at r;injection r with r
      subst r;have j:dD S _ w d (a.eval x):=j;obtain⟨av,cap,u,p⟩:=dD.slice' j (i.Et _ _ _ _ c).1;rw[u]at j;have k:=(i.sub _ _ _ _ c (vP _) (show s.toNat<=S.len d by omega)).2.1;obtain⟨a',e',A⟩:=aka i j c (show s.toNat<=S.len d by omega) k;refine kJ (aey Z J H u p e1 e2 X V O) (hK _ w g (More.refl _) Y (W.weaken fun n hn=> .inl hn) ?_);exact A
     ·cases b
    ·cases b
   ·cases b
  ·cases b
 ·cases b
theorem Pq (t D e:TypeId)(i:TypeInfo)(z:Value)(a bytes:Nat)(E:P.underlying t=some (.slice e))(F:P.info? e=some i)(K:i.zero=some z)
  (o:i.size=a) (C:i.bytes=bytes) (B:z.cells.size=a) (G:0 < a)
  (y:Option Addr) (n:Nat) (f:List Value) (p:f.length=n*a) (A:∀h,y=some h->∀j u,f[j]? =some u->w.cell? (h.add j)=some u) (J:y=none->n=0)
  (h:Addr) (m c:Nat) (d:List Value) (x:d.length=m*a) (l:∀j u,d[j]? =some u->w.cell? (h.add j)=some u) (U:∀u∈d,u.oneCell'=true) (X:0 < m)
  (v:n+m<=maxLen) (g:(n+m)*bytes<=140737488355328):
  ∃r s,(Builtin.append_ #[t,t] D #[.slice y n n, .slice (some h) m c]).run P w= .ok r s/\s.ownsRow 0 e a r (n+m) (f++d)/\w.grownBy s none/\r.ownBlock=some w.heap.size:=by
 cases y with
 | none=>
  obtain rfl:=J rfl;obtain rfl:f=[]:=Qcx (by simpa using p);obtain⟨r,s,R,L,T,N,q⟩:=run_append_own_at (P:=P) w 0 t D e i z a bytes E F K o C B G (.slice none 0 0) 0 [] (World.ownsRow_nil w 0 e a) h m c d x l U v g (vP _);refine⟨r,s,R,L,T,?_⟩;rcases q with q | q
  ·have Q:r= .slice none 0 0:=by
    rcases L.2 with⟨e,_⟩ | ⟨b,W,V,e,_⟩
    ·exact e
    ·rw[e]at q;cases q
   have:=(N.1 Q).2;omega
  ·exact q
 | some b=>
  subst o C
  have M:(f++d).length=(n+m)*i.size:=by rw[qO,p,x,Qcj]
  have O:=run_append_grow (P:=P) w t D e i z E F K b n n f p (A b rfl) h m c d x l au (by simp only[maxLen]at v;omega) (growslice_fits au g);have I:=grownCap_ge w (n+m) n e;have H:grownCap w (n+m) n e<=maxLen:=grownCap_le_maxLen w (n+m) n e v;refine⟨_,_,O,⟨M, .inr ⟨w.heap.size,_,_,rfl,vP _,heap_alloc_new w.drew _,I,H,?_,?_⟩⟩,⟨rfl,rfl,rfl,by simp,fun k S _=>Go.heap_alloc_old w.drew _ S⟩,rfl⟩
  ·simp only[Array.size_append,Qc2,size_zeroCells,B,p,x,<-Qcj];congr 1;omega
  ·simp only[Qcb,Qb2];rw[<-Qb2,<-M];exact Qc6
theorem WR {c:Call}{x y:Operand}(r:iL S)(ho:o.op= .call c)(hc:c.callee= .builtin .append)(hx':c.args.toList=[x,y])(O:∀t ty,T t=some ty->fB P t ty)(h:Hp S w0 N blk g al w)(hfr:∀n,fr<=n->n < fr+64->¬al n)
  (hx:(aB slot x).Rel S (aV N blk g) w g (a.eval x)) (hy:(aB slot y).Rel S (aV N blk g) w g (a.eval y)) (f:zQ T S blk fr c.argTypes (aB slot x) (aB slot y)=some out) (hp:lY out.pre)
  (hK:Post S w0 N blk g al w fr out o.dst a K):o.wp P a w K Q:=by
 have L:c.args= #[x,y]:=by rw[<-H5];exact hx'
 have U:∀m,More g (upd g fr (some m)):=fun m l v hl=>by
  rw[bM _ _ _ _ qbk];exact hl
 unfold zQ at f;split at f
 ·rename_i ex hex;rw[hex]at hx;split at f
  ·rename_i d1;split at f
   ·rename_i t t' htt;split at f
    ·rename_i Z;have Z:=Qa Z;subst Z;have hat:c.argTypes= #[t,t]:=by rw[<-H5];exact htt
     split at f
     ·cases f
     rename_i ty hty;split at f
     ·cases f
     rename_i e hel;split at f
     ·cases f
     rename_i H hte;split at f
     ·cases f
     rename_i d2 hd2;have hsl:=kG (O _ _ hty) hel;obtain⟨i,z,hi,hz,q1,q2,q3⟩:=ul (O _ _ hte);split at f
     ·rename_i q;simp only[iT]at q;have e1:=Qa q.1;have e2:0 < H.size:=by simpa[CE]using q.2.1
      have e3:=Qa q.2.2;split at f
      ·rename_i d FU;injection f with f
       subst f;obtain⟨p1,Y⟩:=hp;obtain⟨c1,c2,c3,c4,c5⟩:=r.cat _ _ _ FU;have hzs:z.cells.size=H.size:=by rw[<-e3,<-q3];simp
       obtain⟨av,cap,B,hv2,hl2,hc2,hn2,h12,I⟩:=Hq r h hy hd2 au;obtain⟨bv,W,hd1⟩:=hx;obtain⟨bv',cap',p,R,V,hco,hbn,_,G⟩:=Jk r hd1 (show 0 < S.size d1 by omega);rw[W]at R;injection R with f1 f2 f3
       subst f1;obtain⟨s,rfl⟩:∃s,av=some s:=by
        cases av with
        | none=>have:=hn2 rfl;omega
        | some s=>exact⟨s,rfl⟩
       obtain⟨m,w',r1,r2,E,M⟩:=Pq (P:=P) (w:=w) t o.type e i z H.size H.bytes hsl hi hz q1 q2 hzs e2 bv (S.len d1) p (by rw[V];congr 1;omega) hco hbn s (S.len d2) cap B (by rw[hl2];congr 1;omega) (hc2 s rfl) h12 p1 (by have:=Y.1;simp only[maxLen];omega) Y.2;have hrun:(execOp a.eval o).run P w= .ok (.value m) w':=by
        simp only[execOp,ho,resolve,hc,invoke,builtin,L,hat,Sem.run_bind,Sem.run_pure,Result.andThen_ok,Qb9,H7,Qcq,W,hv2,r1]
       have hB:Below w.heap.size w w':=⟨E.os,E.tape,E.output,E.size,fun k J=>E.block k J oI⟩;have CZ:∃a n c,m= .slice a n c:=by rcases r2.2 with⟨rfl,_⟩ | ⟨b,cp,cur,rfl,_⟩<;>exact⟨_,_,_,rfl⟩
       have D:∀b,eP m=some b->w.heap.size<=b:=by
        intro b X;rw[vK m CZ]at M;rw[X]at M;injection M with M
        omega
       obtain⟨g1,g2,g3⟩:=h.add (l:=fr) (bk:= .row e d) (v:=m) hB (hfr fr (oC _) au) D (fun M' J _=>by
        refine⟨⟨fun b X=> .inl (EZ h.below.size (D b X)),⟨by have:=Y.1;omega,r.Wu _ _ _ ‹_›⟩⟩,p++B,?_,fun C j hi' hj=> ?_⟩
        ·have:=r2;rw[show H.size=S.size d by omega,<-c3]at this;exact this
        ·rw[c3]at hi';have A:p.length=S.len d1*S.size d:=by rw[V,c1]
         by_cases F:C < S.len d1
         ·obtain⟨u,hu,hr⟩:=G C j F au;rw[c4 C j F];refine⟨u,?_,r.data _ _ _ au au,?_⟩
          ·rw[Qa6 (by rw[A];exact oQ F hj),<-hu,c1]
          ·exact(Lf.Rel.keep hr J (U _))
         ·obtain⟨k,rfl⟩:∃k,C=S.len d1+k:=⟨C - S.len d1,by omega⟩;obtain⟨u,hu,hr⟩:=I k j au au;rw[c5 k j au];refine⟨u,?_,r.data _ _ _ au au,hr.keep J (U _)⟩;rw[Qay (by rw[A,Qcj];omega),<-hu,A,Qcj,c2];congr 1;omega)
       exact kJ hrun (hK _ _ _ g3 g2 (g1.weaken UL) (upd_same _ _ _))
      ·cases f
     ·cases f
    ·cases f
   ·cases f
  ·cases f
 ·cases f
theorem acL {src c:TypeId}{x:Operand}(C:iL S)(ho:o.op= .convert src c x)(f:∀t I,T t=some I->fB P t I)(h:Hp S w0 N blk g al w)
  (q:(aB slot x).Rel S (aV N blk g) w g (a.eval x)) (b:Vp T S src c (aB slot x)=some out) (hK:Post S w0 N blk g al w fr out o.dst a K):o.wp P a w K Q:=by
 unfold Vp at b;split at b
 ·rename_i ts td R H;split at b
  ·cases b
  rename_i e M;split at b
  ·cases b
  rename_i te U;split at b
  ·rename_i l;simp only[iT]at l;split at b
   ·rename_i s L;rw[L]at q;obtain⟨q,Y⟩:=q;split at b
    ·cases b
    rename_i d2 X;split at b
    ·rename_i m;injection b with b
     subst b;have m:=Qa m;obtain⟨dd,V,p⟩:=ni (f _ _ R);obtain⟨de,B,d⟩:=ni (f _ _ U);have u:P.underlying src=some .string:=by
      rw[Qa l.1]at p;cases dd<;>simp[kindOf]at p<;>first | exact V | (rename_i k;cases k<;>simp[rD]at p)
     have A:P.underlying e=some (.int .u8):=by
      rw[Qa l.2.1]at d;cases de<;>simp[kindOf]at d<;>(rename_i k;cases k<;>simp[rD]at d;exact B)
     have O:=kG (f _ _ H) M;have r:(execOp a.eval o).run P w= .ok (.value (.slice (some ⟨w.heap.size,0,none⟩) s.length (grownCap w s.length 0 e))) (Lib.bytesWorld w e ⟨s.toArray⟩):=by
      have v:(⟨s.toArray⟩:ByteArray).size=s.length:=by show s.toArray.size=_;simp
      have:=Lib.run_convert_string_bytes (P:=P) w src c e ⟨s.toArray⟩ u O A;rw[v]at this;simp[execOp,ho,q,this]
     have hB:Below w.heap.size w (Lib.bytesWorld w e ⟨s.toArray⟩):=⟨rfl,rfl,rfl,by rw[Lib.bytesWorld_size];omega,fun k hk=>Lib.bytesWorld_at_old w e _ k hk⟩;obtain⟨g1,g2⟩:=h.grow hB;obtain⟨m1,W,G⟩:=C.text _ _ _ X;refine kJ r (hK _ _ g (More.refl _) g2 (g1.weaken fun n hn=> .inl hn) ?_);show dD S _ _ d2 _
     intro J Z;have v:(⟨s.toArray⟩:ByteArray).size=s.length:=by show s.toArray.size=_;simp
     have D:¬aV N blk g w.heap.size:=fun hm=>Qdm _ (h.mlt hm)
     have y:=Z w.heap.size (by rw[Lib.bytesWorld_size];omega) D;rw[<-W];refine BZ.mk d2 (C.aoj au) (some ⟨w.heap.size,0,none⟩) _ (fun i j=> .int .u8 (s.getD i 0).toNat) (by rw[W];exact grownCap_ge w s.length 0 e) au (fun i j F E=> ?_) (fun i j F E=> ?_) (fun i j d' F E z=> ?_)
     ·obtain rfl:j=0:=by omega
      refine⟨_,rfl,?_⟩;have l:=Lib.bytesWorld_cell w e ⟨s.toArray⟩ i (by rw[v];omega);rw[m,Qcy,Pj,show((⟨w.heap.size,0,none⟩:Addr).add i)=⟨w.heap.size,i,none⟩ by simp[Addr.add];exact Eq.symm];rw[show J.cell? ⟨w.heap.size,i,none⟩=(Lib.bytesWorld w e ⟨s.toArray⟩).cell? ⟨w.heap.size,i,none⟩ by simp only[World.cell?,y]];rw[l]
     ·obtain rfl:j=0:=by omega
      rw[G i au];rfl
     ·obtain rfl:j=0:=by omega
      rw[G i au]at z;cases z
    ·cases b
   ·cases b
  ·cases b
 ·cases b
theorem abm {t:TypeId}(r:o.op= .alloc t)(m:∀t e,T t=some e->fB P t e)(h:Hp S w0 N blk g al w)(j:∀n,fr<=n->n < fr+64->¬al n)
  (c:aaU T fr t=some out) (B:Post S w0 N blk g al w fr out o.dst a K):o.wp P a w K Q:=by
 unfold aaU at c;split at c
 ·cases c
 rename_i e p;split at c
 ·rename_i d;injection c with c
  subst c;obtain⟨z,y,q⟩:=A7 (m _ _ p) w;have f:e.zero=[.pointer none, .slice none 0 0]:=by
   unfold aAA at d;split at d
   ·assumption
   ·cases d
  have i:(execOp a.eval o).run P w= .ok (.value (.pointer (some ⟨w.heap.size,0,none⟩))) (w.alloc (.cells z.cells t)):=by
   simp[execOp,r,Instr.alloc,y,newVar,newRow,newObj,Sem.run]
  obtain⟨x,u,A⟩:=h.add (l:=fr) (bk:= .tc t [.val (.slice none 0 0)]) (v:= .pointer (some ⟨w.heap.size,0,none⟩)) ((Below.refl w.heap.size w).alloc (oC _) (.cells z.cells t)) (j fr (oC _) au) (fun b s=>by simp[eP]at s;omega)
   (fun M' C _=>⟨w.heap.size,[.slice none 0 0],rfl, .inl h.below.size,⟨.pointer none,by
    have k:z.cells= #[.pointer none, .slice none 0 0]:=by rw[<-H5,<-f,<-q]
    rw[k];simpa using heap_alloc_new w (.cells #[.pointer none, .slice none 0 0] t), .inl rfl⟩,rfl,trivial⟩)
  exact kJ i (B _ _ _ A u (x.weaken UL) ⟨w.heap.size,upd_same _ _ _,rfl⟩)
 ·cases c
theorem acD {t:TypeId}{x:Operand}(A:o.op= .load t x)(m:∀t f,T t=some f->fB P t f)(h:Hp S w0 N blk g al w)(r:(aB slot x).Rel S (aV N blk g) w g (a.eval x))
  (c:LU T blk t (aB slot x)=some out) (F:Post S w0 N blk g al w fr out o.dst a K):o.wp P a w K Q:=by
 unfold LU at c;split at c
 ·cases c
 rename_i f p;have i:=wz (m _ _ p) w;split at c
 ·rename_i l e n;rw[n]at r;obtain⟨b,G,D⟩:=r;split at c
  ·rename_i L cs E;obtain⟨J,d,I,s,rfl,_,⟨u0,B,_⟩,C⟩:=h.dn l _ E;rw[G]at d;injection d with d
   injection d with d
   injection d with d
   injection d with d
   subst d;split at c
   ·cases c
   rename_i q;split at c
   ·cases c
   rename_i e;split at c
   ·rename_i y z;injection c with c
    subst c;obtain⟨u,k,j⟩:=C.get e z;refine bf (v:=u) ?_ h F rfl j;have H:(u0::s)[e+1]? =some u:=by simpa using k
    simp[execOp,A,Instr.loadAt,Instr.sureAddr,D,loadVar,i,q,load,Sem.run,cell_of B,k]
   ·cases c
  ·cases c
 ·cases c
theorem abg {t:TypeId}{x y:Operand}(W:o.op= .store t x y)(I:∀t k,T t=some k->fB P t k)(h:Hp S w0 N blk g al w)(R:(aB slot x).Rel S (aV N blk g) w g (a.eval x))
  (A:(aB slot y).Rel S (aV N blk g) w g (a.eval y)) (c:Ew T blk t (aB slot x) (aB slot y)=some out) (hK:Post S w0 N blk g al w fr out o.dst a K):o.wp P a w K Q:=by
 unfold Ew at c;split at c
 ·rename_i k l e u L J U;have E:=kU (I _ _ L) w;rw[J]at R;rw[U]at A;obtain⟨b,B,Z⟩:=R;split at c
  ·rename_i F cs G;split at c
   ·cases c
   rename_i e;split at c
   ·rename_i O;injection c with c
    subst c;simp only[iT,Qbi,CE]at O;obtain⟨v,c2,c3,V⟩:=O;have v:=Qa v;obtain⟨v',d,b',r,rfl,hm,⟨u0,Y,C⟩,H⟩:=h.dn l _ G;rw[B]at d;injection d with d
    injection d with d
    injection d with d
    injection d with d
    subst d;have i:(Sv.lf u:Sv D).cells.all Lf.storable=true:=by simp[Sv.cells,V]
    have p:=qZ (u:= .lf u) h.refs (AO i) A;have f:=p.length;have n:(Sv.lf u:Sv D).cells.length=1:=rfl;obtain⟨w',s,m,X,hs,q1,q2,q3⟩:=lF (P:=P) b F (a.eval y).cells.toList w (u0::r) (e+1) 0 Y (by rw[AB,<-H.length,<-f,n];omega) (kF h.refs i p);have j:(execOp a.eval o).run P w= .ok .skip w':=by
     have q:(a.eval y).cells.size=k.size:=by rw[v,<-n,f];simp
     simp[execOp,W,Instr.storeAt,Instr.sureAddr,Z,storeVar,E,q,s]
    obtain⟨M,z⟩:=h.write (bk':= .tc F (putAt cs e [u])) G rfl rfl B rfl q1 q2 q3 hs X (fun hk=>by
     have h9:=(H.putAt p e).keep hk (More.refl _);refine⟨b,_,rfl,hm,⟨u0,?_,C⟩,by simpa[Sv.cells]using h9⟩;have e2:List.drop (e+1+(a.eval y).cells.size) (u0::r)=List.drop (e+(a.eval y).cells.size) r:=by
      rw[show e+1+(a.eval y).cells.size=(e+(a.eval y).cells.size)+1 by omega];rfl
     simp only[Pj,WJ,Qdi,e2,Qck]at m;simpa using m)
    exact JG j (hK _ _ _ (More.refl _) z (M.weaken fun _ h=> .inl h) trivial)
   ·cases c
  ·cases c
 ·cases c
theorem aya {e:TypeId}{c:Ty}{i:TypeInfo}(h:fB P e c)(b:asc c=true)(f:P.info? e=some i):i.zero=some (.int .u8 0):=by
 obtain⟨n,m,j,k,a,l,d,rfl⟩:=mD h;rw[f]at a;injection a with a
 subst a;rw[d];unfold asc at b;dsimp only at b;split at b
 ·rename_i g;simp only[Qbi]at b;congr 1;cases j<;>first | exact(List.cons.inj g).1 | (simp[yV]at b)
 ·cases b
theorem aqY {e:Nat}{s:List UInt8}{d2:D}(c:iL S)(h:S.text e s=some d2)(j:S.size d2=1):S.len d2=s.length/\∀i,i < s.length->∃u,(Lib.strCells ⟨s.toArray⟩)[i]? =some u/\(S.cell d2 i 0).jE=true/\∀(M:Nat->Prop) (w:World) (g:Nat->Option Value),(S.cell d2 i 0).Rel S M w g u:=by
 obtain⟨_,d,f⟩:=c.text _ _ _ h;refine⟨d,fun i b=> ?_⟩;have a:=f i b;refine⟨.int .u8 (s.getD i 0).toNat,?_,c.data _ _ _ au au,fun M w g=> ?_⟩
 ·simp[Lib.strCells,List.getD,b]
 ·rw[a];rfl
theorem WH {c:Call}{x y:Operand}(hS:iL S)(ho:o.op= .call c)(hc:c.callee= .builtin .append)(hx':c.args.toList=[x,y])(W:∀t ty,T t=some ty->fB P t ty)(h:Hp S w0 N blk g al w)(hfr:∀n,fr<=n->n < fr+64->¬al n)
  (V:(aB slot x).Rel S (aV N blk g) w g (a.eval x)) (hy:(aB slot y).Rel S (aV N blk g) w g (a.eval y)) (f:Ah T S blk fr c.argTypes (aB slot x) (aB slot y)=some out) (hp:lY out.pre)
  (hK:Post S w0 N blk g al w fr out o.dst a K):o.wp P a w K Q:=by
 have hargs:c.args= #[x,y]:=by rw[<-H5];exact hx'
 have hmg:∀v',More g (upd g fr (some v')):=fun v' l v hl=>by
  rw[bM _ _ _ _ qbk];exact hl
 unfold Ah at f;split at f
 ·rename_i t R s htt CY;have hat:c.argTypes= #[t,R]:=by rw[<-H5];exact htt
  rw[CY]at hy;obtain⟨hyv,hyl⟩:a.eval y= .string ⟨s.toArray⟩/\s.length<=9223372036854775807:=hy;split at f
  ·rename_i ty ty' hty hty';split at f
   ·cases f
   rename_i e hel;split at f
   ·cases f
   rename_i te hte;have G:=kG (W _ _ hty) hel;obtain⟨i,z,Z,hz,q1,q2,q3⟩:=ul (W _ _ hte);split at f
   ·rename_i hcc;simp only[iT]at hcc;obtain⟨c1,c2,c3,c4⟩:=hcc;have c2:=Qa c2;have c3:=Qa c3;have c4:=Qa c4;obtain⟨ds,C,hks⟩:=ni (W _ _ hty');have C:P.underlying R=some .string:=by
     rw[c4]at hks;cases ds<;>simp[kindOf]at hks<;>first | exact C | (rename_i k;cases k<;>simp[rD]at hks)
    have X:i.zero=some (.int .u8 0):=aya (W _ _ hte) c1 Z;split at f
    ·cases f
    rename_i d2 hd2;split at f
    ·rename_i H;have H:=Qa H;obtain⟨I,L⟩:=aqY hS hd2 H;have hsz:(ByteArray.mk s.toArray).size=s.length:=by show s.toArray.size=_;simp
     have hnews:(Lib.strCells ⟨s.toArray⟩).length=s.length:=by rw[Lib.strCells_length,hsz]
     have run:∀(r:Value) (n:Nat) (D:List Value),a.eval x=r->w.ownsRow 0 e 1 r n D->dE (n+s.length) 1->
       ∃v' w',(execOp a.eval o).run P w= .ok (.value v') w'/\w'.ownsRow 0 e 1 v' (n+s.length) (D++Lib.strCells ⟨s.toArray⟩)/\w.grownBy w' r.ownBlock/\(v'.ownBlock=r.ownBlock\/v'.ownBlock=some w.heap.size\/v'.ownBlock=none):=by
      intro r n D F p hroom;obtain⟨r1,r2⟩:=hroom;obtain⟨v',w',q,h2,h3,h4⟩:=Lib.run_append_own_string (P:=P) (w:=w) 0 t R o.type e i G C Z X au au r n D p ⟨s.toArray⟩ (by rw[hsz];simp only[maxLen];omega) qcu (vP _);rw[hsz]at h2;refine⟨v',w',?_,h2,h3,?_⟩
      ·simp only[execOp,ho,resolve,hc,invoke,builtin,hargs,hat,Sem.run_bind,Sem.run_pure,Result.andThen_ok,Qb9,H7,Qcq,F,hyv,q]
      ·rcases p.2 with⟨rfl,rfl⟩ | ⟨b,Y,O,rfl,hbg,hg',hnc,hcm,hcs,htake⟩
       ·obtain⟨v2,w2,g1,g2,g3,g4⟩:=Lib.run_append_own_string (P:=P) (w:=w) w.heap.size t R o.type e i G C Z X au au (.slice none 0 0) 0 [] (World.ownsRow_nil w w.heap.size e 1) ⟨s.toArray⟩ (by rw[hsz];simp only[maxLen];omega) qcu (oC _);by_cases hm:s.length=0
        ·have:v'= .slice none 0 0:=h4.2 ⟨rfl,by rw[hsz];exact hm⟩;exact .inl (by rw[this])
        ·have E:=run_append_nil_string (P:=P) w t R o.type e i (.int .u8 0) G C Z X ⟨s.toArray⟩ qcu qcu (by rw[hsz,q2,c3];omega);rw[E]at q;injection q with q _
         exact .inr (.inl (by rw[<-q];rfl))
       ·have hcs':O.size=Y:=by simpa using hcs
        by_cases hroom':n+(ByteArray.mk s.toArray).size<=Y
        ·have E:=Lib.run_append_room_string (P:=P) w t R o.type e i G C Z au b n Y O hg' ⟨s.toArray⟩ hroom' au;rw[E]at q;injection q with q _
         exact .inl (by rw[<-q];rfl)
        ·have hxl:D.length=n:=by simpa using p.1
         have holds:∀j u,D[j]? =some u->w.cell? ((⟨b,0,none⟩:Addr).add j)=some u:=p.cells (g:=b) rfl;have E:=Lib.run_append_grow_string (P:=P) w t R o.type e i (.int .u8 0) G C Z X ⟨b,0,none⟩ n Y D (by rw[q1,c2];simpa using hxl) holds ⟨s.toArray⟩ au qcu (by rw[q2,c3];exact growslice_fits au qcu);rw[E]at q;injection q with q _
         exact .inr (.inl (by rw[<-q];rfl))
     split at f
     ·rename_i hex;injection f with f
      subst f;rw[hex]at V;obtain⟨v',w',r1,r2,A,m⟩:=run (.slice none 0 0) 0 [] V (World.ownsRow_nil w 0 e 1) (by rw[FQ];exact hp);have hB:Below w.heap.size w w':=⟨A.os,A.tape,A.output,A.size,fun k hk=>A.block k hk (by simp[Value.ownBlock])⟩;have CZ:∃a n c,v'= .slice a n c:=by rcases r2.2 with⟨rfl,_⟩ | ⟨b,cp,O,rfl,_⟩<;>exact⟨_,_,_,rfl⟩
      have hpos:∀b,eP v'=some b->w.heap.size<=b:=by
       intro b hb;rw[vK v' CZ]at m;rcases m with m | m | m
       ·rw[hb]at m;simp[Value.ownBlock]at m
       ·rw[hb]at m;injection m with m;omega
       ·rw[hb]at m;cases m
      obtain⟨g1,g2,g3⟩:=h.add (l:=fr) (bk:= .row e d2) (v:=v') hB (hfr fr (oC _) au) hpos (fun M' hk _=>by
       refine⟨⟨fun b hb=> .inl (EZ h.below.size (hpos b hb)),⟨by rw[I];have:dE s.length 1:=hp;have:=this.1;omega,hS.aoj au⟩⟩,Lib.strCells ⟨s.toArray⟩,?_,fun U j hi' hj=> ?_⟩
       ·have:=r2;rw[FQ,Qdo]at this;rw[H,I];exact this
       ·rw[H]at hj⊢;obtain rfl:j=0:=by omega
        obtain⟨u,hu,J,E⟩:=L U au;exact⟨u,by simpa using hu,J,E _ _ _⟩)
      exact kJ r1 (hK _ _ _ g3 g2 (g1.weaken UL) (upd_same _ _ _))
     ·rename_i l hex;rw[hex]at V;have V:g l=some (a.eval x):=V;split at f
      ·rename_i e' d1 hb;split at f
       ·rename_i M;simp only[iT]at M;have hs1:=Qa M.2;have M:=Qa M.1;subst M;split at f
        ·rename_i d FU;injection f with f
         subst f;obtain⟨c1',c2',c3',c4',c5'⟩:=hS.cat _ _ _ FU;obtain⟨r,F,hm,D,p,hcell⟩:=h.dn l _ hb;rw[V]at F;injection F with F
         rw[hs1]at p;obtain⟨v',w',r1,r2,A,m⟩:=run r (S.len d1) D F p hp;have hsl1:∃a n c,r= .slice a n c:=by rcases p.2 with⟨rfl,_⟩ | ⟨b,cp,O,rfl,_⟩<;>exact⟨_,_,_,rfl⟩
         have CZ:∃a n c,v'= .slice a n c:=by rcases r2.2 with⟨rfl,_⟩ | ⟨b,cp,O,rfl,_⟩<;>exact⟨_,_,_,rfl⟩
         rw[vK v' CZ,vK r hsl1]at m;rw[vK r hsl1]at A;have hsd:S.size d=1:=by omega
         obtain⟨g1,g2,g3⟩:=h.move (l:=l) (fr:=fr) (bk':= .row e d) (v:=r) (v':=v') qck (F▸V) (hfr fr (oC _) au) A.os A.tape A.output A.size (fun n hn hne=>A.block n hn fun e=>hne e.symm)
          (fun b B=>by
           rcases m with m | m | m
           ·exact .inl (m▸B)
           ·rw[B]at m;injection m with m;exact .inr au
           ·rw[B]at m;cases m)
          (fun M' hk _=>by
           refine⟨⟨fun b B=> ?_,⟨by rw[c3',I];have:dE (S.len d1+s.length) 1:=hp;have:=this.1;omega,hS.aoj au⟩⟩,D++Lib.strCells ⟨s.toArray⟩,?_,fun U j hi' hj=> ?_⟩
           ·rcases m with m | m | m
            ·exact hm.1 b (m▸B)
            ·rw[B]at m;injection m with m;exact .inl (m▸h.below.size)
            ·rw[B]at m;cases m
           ·have:=r2;rw[hsd,c3',I];exact this
           ·rw[hsd]at hj⊢;obtain rfl:j=0:=by omega
            rw[c3',I]at hi';have hxl:D.length=S.len d1:=by simpa using p.1
            by_cases hlt:U < S.len d1
            ·obtain⟨u,hu,J,E⟩:=hcell U 0 hlt au;rw[c4' U 0 hlt];refine⟨u,?_,J,E.keep hk (hmg _)⟩;rw[Qcy,Pj,Qa6 au,<-hu,hs1,Qcy,Pj]
            ·obtain⟨k,rfl⟩:∃k,U=S.len d1+k:=⟨U - S.len d1,by omega⟩;obtain⟨u,hu,J,E⟩:=L k au;rw[c5' k 0 au];refine⟨u,?_,J,E _ _ _⟩;rw[Qcy,Pj,Qay au,<-hu,hxl];congr 1;omega)
         exact kJ r1 (hK _ _ _ g3 g2 (g1.weaken UL) (upd_same _ _ _))
        ·cases f
       ·cases f
      ·cases f
     ·cases f
    ·cases f
   ·cases f
  ·cases f
 ·cases f
theorem Hp.aKf (h:Hp S w0 N blk g al w){l b:Nat}{v:Value}(m:hot (blk l)=true)(t:g l=some v)(o:eP v=some b)(H:w'.os=w.os)(F:w'.tape=w.tape)(r:w'.output=w.output)(E:w'.heap.size=w.heap.size)
  (f:∀n,n≠b->w'.heap[n]? =w.heap[n]?):Hp S w0 N (upd blk l none) g al w'/\Keeps (aV N blk g) w (aV N (upd blk l none) g) w':=by
 have D:hot (upd blk l none l)=false:=by rw[upd_same];rfl
 have i:∀n,hot (upd blk l none n)=true->hot (blk n)=true:=fun n a=>by
  by_cases y:n=l
  ·subst y;rw[D]at a;cases a
  ·rwa [bM _ _ _ _ y]at a
 have C:aV N blk g b:= .inr ⟨l,v,m,t,o⟩;obtain⟨I,B⟩:=h.mine m t o;have p:Keeps (aV N blk g) w (aV N (upd blk l none) g) w':=by
  refine⟨by omega,fun c _ x=>⟨?_,f c fun e=>x (e▸C)⟩⟩;rintro(a | ⟨n,u,P,O,Q⟩)
  ·exact x (.inl a)
  ·exact x (.inr ⟨n,u,i n P,O,Q⟩)
 refine⟨⟨⟨H.trans h.below.os,F.trans h.below.tape,r.trans h.below.output,by rw[E];exact h.below.size,fun k A G=> ?_⟩,h.hN,fun n R a=> ?_,fun n c J K d a s=>h.sep n c J K d (i n a) (i c s),h.al,h.refs,h.gl.keep p⟩,p⟩
 ·refine(f k fun e=> ?_).trans (h.below.block k A G);subst e;rcases B with q | q
  ·omega
  ·exact G q
 ·by_cases j:n=l
  ·subst j;rw[upd_same]at a;cases a
  ·rw[bM _ _ _ _ j]at a;obtain⟨u,z,M⟩:=h.dn n R a;refine⟨u,z,M.keep p (More.refl _) fun L c s=>f c fun e=> ?_⟩;subst e;exact j (h.sep n l u v c (by rw[a];exact L) m z t s o)
theorem Pn {c:Call}{x:Operand}(s:o.op= .call c)(y:c.callee= .builtin .unsafeSliceData)(t:c.args.toList=[x])(h:Hp S w0 N blk g al w)(i:(aB slot x).Rel S (aV N blk g) w g (a.eval x))
  (f:BA S blk (aB slot x)=some out) (u:lY out.pre) (z:Post S w0 N blk g al w fr out o.dst a K):o.wp P a w K Q:=by
 have k:c.args= #[x]:=by rw[<-H5];exact t
 unfold BA at f;split at f
 ·rename_i l m;rw[m]at i;have i:g l=some (a.eval x):=i;split at f
  ·rename_i e d A;split at f
   ·injection f with f
    subst f;have u:0 < S.len d:=u;obtain⟨v,j,_,E,⟨_,q⟩,_⟩:=h.dn l _ A;rw[i]at j;injection j with j
    rcases q with⟨_,C⟩ | ⟨b,n,D,r,_,_,B,_⟩
    ·omega
    ·have p:a.eval x= .slice (some ⟨b,0,none⟩) (S.len d) n:=by rw[j,r]
     refine bf (v:= .pointer (some ⟨b,0*1+0,none⟩)) ?_ h z rfl ⟨b,S.len d,n,by rw[i,p],rfl⟩;simp only[execOp,s,resolve,y,invoke,builtin,k,Sem.run_bind,Sem.run_pure,Result.andThen_ok,Qb9,H7,Qcq,p,Lib.run_unsafeSliceData_row _ _ _ _ _ _ (show n≠0 by omega)]
   ·cases f
  ·cases f
 ·rename_i m;rw[m]at i;have i:a.eval x= .slice none 0 0:=i;injection f with f
  subst f;refine bf (v:= .pointer none) ?_ h z rfl rfl;simp only[execOp,s,resolve,y,invoke,builtin,k,Sem.run_bind,Sem.run_pure,Result.andThen_ok,Qb9,H7,Qcq,i,Lib.run_unsafeSliceData_nil]
 ·cases f
theorem JX (w:World)(b n m:Nat):(w.freeze ⟨b,0,none⟩ n).os=w.os/\(w.freeze ⟨b,0,none⟩ n).tape=w.tape/\(w.freeze ⟨b,0,none⟩ n).output=w.output/\(w.freeze ⟨b,0,none⟩ n).heap.size=w.heap.size/\(m≠b->(w.freeze ⟨b,0,none⟩ n).heap[m]? =w.heap[m]?):=by
 unfold World.freeze;split
 ·exact⟨rfl,rfl,rfl,rfl,fun _=>rfl⟩
 ·refine⟨rfl,rfl,rfl,by simp,fun a=> ?_⟩;simp[Qcc,Ne.symm a]
theorem Px {c:Call}{x y:Operand}(ho:o.op= .call c)(hc:c.callee= .builtin .unsafeString)(hx':c.args.toList=[x,y])(Z:∀t ty,T t=some ty->fB P t ty)(h:Hp S w0 N blk g al w)(s:(aB slot x).Rel S (aV N blk g) w g (a.eval x))
  (q:(aB slot y).Rel S (aV N blk g) w g (a.eval y)) (f:Bl T S blk c.argTypes (aB slot x) (aB slot y)=some out) (Y:lY out.pre) (hK:Post S w0 N blk g al w fr out o.dst a K):o.wp P a w K Q:=by
 have F:c.args= #[x,y]:=by rw[<-H5];exact hx'
 unfold Bl at f;split at f
 ·rename_i l n M CY;rw[M]at s;rw[CY]at q;have q:a.eval y= .int .i64 n:=q;obtain⟨b,n',cap',hg,hv⟩:=s;have hv:a.eval x= .pointer (some ⟨b,0,none⟩):=by simpa using hv
  split at f
  ·rename_i e d hb;split at f
   ·rename_i aa;injection f with f
    subst f;simp only[iT]at aa;obtain⟨C,G⟩:=aa;have G:=Qa G;obtain⟨p1,p2,c2⟩:n=S.len d/\0 < n/\Zj S d (S.len d)=true:=Y;subst p1;have p2:0 < S.len d:=by omega
    unfold ptrTo at C;split at C
    ·rename_i V U I;have L:c.argTypes= #[V,U]:=by rw[<-H5];exact I
     split at C
     ·rename_i ty te hty hte;simp only[iT]at C;obtain⟨k1,k2,O⟩:=C;have k1:=Qa k1;have k2:=Qa k2;split at O
      ·rename_i e' e'' hmp;have O:=Qa O;subst O;have hpt:=anZ (Z _ _ hty) hmp k1;obtain⟨i,z,hi,hz,q1,q2,q3⟩:=ul (Z _ _ hte);have H:P.cellsOf e=1:=by simp[Program.cellsOf,hi,q1,k2]
       obtain⟨v,r,W,xs,D,E⟩:=h.dn l _ hb;rw[hg]at r;injection r with r
       rcases D.2 with⟨_,hn0⟩ | ⟨b',cap,cur,ab,_,hh,hnc,hcm,hcs,htake⟩
       ·omega
       ·rw[ab]at r;injection r with A hv2 hv3
        injection A with A
        injection A with A
        subst A;have hl:xs.length=S.len d*S.size d:=D.1;obtain⟨ns,hn1,hn2⟩:=SN G (ahT c2) hl (fun i j hi B=>by obtain⟨u,h1,_,h3⟩:=E i j hi B;exact⟨u,h1,h3⟩);have p:(bytesOf S d).length=S.len d:=by simp[bytesOf]
        have hcl:∀j x,(bytesOf S d)[j]? =some x->w.cell? ((⟨b,0,none⟩:Addr).add j)=some (.int .u8 x.toNat):=by
         intro j x B;have R:j < S.len d:=by rw[<-p];exact(Qa1.1 B).1
         obtain⟨k,hk,hk0,hk1⟩:=amZ c2 j R;obtain⟨u,hu,_,X⟩:=E j 0 R au;rw[hk]at X;have X:u= .int .u8 k:=X;rw[G,Qcy,Pj,X]at hu;have s:x=UInt8.ofNat k.toNat:=by
          unfold bytesOf at B;rw[Qbf,Qd4 R]at B;simp[hk,aB0]at B;exact B.symm
         have hkx:(x.toNat:Int)=k:=by
          rw[s];have:k.toNat < 256:=by omega
          simp[UInt8.toNat_ofNat',Qbv this];omega
         rw[hkx];exact D.cells (g:=b) (by rw[ab];rfl) j _ hu
        have J:=Lib.run_unsafeString_row (P:=P) w V U o.type e hpt H b cur.size (by simp[World.shape?,hh]) (bytesOf S d) (fun e=>by rw[e]at p;simp at p;omega) (by rw[p,hcs,G];omega) (by rw[p];exact W.2.1) hcl;obtain⟨f1,f2,f3,f4,_⟩:=JX w b (bytesOf S d).length 0;obtain⟨hp',hk'⟩:=h.aKf (w':=w.freeze ⟨b,0,none⟩ (bytesOf S d).length) qck hg rfl f1 f2 f3 f4 (fun m W=>(JX w b (bytesOf S d).length m).2.2.2.2 W);refine kJ (v:= .string ⟨(bytesOf S d).toArray⟩) ?_ (hK _ _ _ (More.refl _) hk' (hp'.weaken fun n hn=> .inl hn) ⟨rfl,by rw[p];exact W.2.1⟩);simp only[execOp,ho,resolve,hc,invoke,builtin,F,L,Sem.run_bind,Sem.run_pure,Result.andThen_ok,Qb9,H7,Qcq,hv,q];rw[p]at J⊢;rw[J];rfl
      ·cases O
     ·cases C
    ·cases C
   ·cases f
  ·cases f
 ·rename_i n M CY;rw[M]at s;rw[CY]at q;have s:a.eval x= .pointer none:=s;have q:a.eval y= .int .i64 n:=q;split at f
  ·rename_i V U I;have L:c.argTypes= #[V,U]:=by rw[<-H5];exact I
   injection f with f
   subst f;have Y:n=0:=Y;subst Y;refine bf (v:= .string ⟨#[]⟩) ?_ h hK rfl ⟨rfl,by simp⟩;simp only[execOp,ho,resolve,hc,invoke,builtin,F,L,Sem.run_bind,Sem.run_pure,Result.andThen_ok,Qb9,H7,Qcq,s,q,Lib.run_unsafeString_none];rfl
  ·cases f
 ·cases f
theorem adT (C:iL S){f:FuncId}{args:List (Sl D)}{vals:List Value}(M:∀f i,Γ f=some i->dJ P S f i)(h:Hp S w0 N blk g al w)(B:∀n,fr<=n->n < fr+64->¬al n)
  (u:g_ S (aV N blk g) w g args vals) (j:∀i,dJ P S f i->(execOp a.eval o).run P w= .ok (.enter f vals.toArray) w) (c:Eh Γ f blk args fr=some out) (V:lY out.pre) (hK:Post S w0 N blk g al w fr out o.dst a K):o.wp P a w K Q:=by
 unfold Eh at c;split at c
 ·cases c
 ·rename_i i L;have m:=M f i L;have j:=j i m;have A:(Calls P f vals.toArray w fun e w'=>∃v g',e= .returned v/\More g g'/\Keeps (aV N blk g) w (aV N (kw blk out.blks) g') w'/\Hp S w0 N (kw blk out.blks) g' (fun n=>al n\/(fr<=n/\n < fr+64)) w'/\
    out.val.Rel S (aV N (kw blk out.blks) g') w' g' v)->o.wp P a w K Q:=by
   intro y;simp only[Oper.wp,j,Oper.upon_enter];refine y.mono ?_;rintro e w' ⟨v,g',rfl,r,X,h3,Y⟩;exact hK v w' g' r X h3 Y
  dsimp only at c;have t:=u.norm;generalize args.map Sl.norm=E at t c;cases r:BM i blk fr (E.map (Sl.view blk)) (lN [] (E.flatMap Sl.owns))with
  | some W=>
   rw[r]at c;simp only[vJ,Nj]at c;subst c;refine A (vH C m h B (fun ids Z z T=> ?_) (fun l d=> ?_) (fun l d=> ?_) r V)
   ·refine g_.view C (jk:=lN [] (E.flatMap Sl.owns)) h ⟨fun b p=>(uu z b p).1,fun l d v b F s k p=> ?_⟩ (fun l d=>(fA _ _ _).2 (.inr d)) t;rcases(uu z b p).2 with q | ⟨U,R,⟨H,I,J,G⟩ | ⟨H,I,J,G⟩⟩
    ·exact h.afj F s k q
    ·have:=h.sep l U v R b F H s J k G;subst this;exact I d
    ·have:=h.sep l U v R b F I s J k G;subst this;exact T l d H
   ·exact ZF t (((fA _ _ _).1 d).resolve_left oI)
   ·obtain⟨x,hx,O⟩:=vS.1 (((fA _ _ _).1 d).resolve_left oI);rcases akm (blk:=blk) O with q | q | q
    ·exact .inl q
    ·exact .inr (.inl q)
    ·exact .inr (.inr (vS.2 ⟨_,Qb.2 ⟨x,hx,rfl⟩,q⟩))
  | none=>
   rw[r]at c;simp only[vJ]at c;exact A (vH (jk:=[]) C m h B (fun ids Z z T=>t.less fun b p=>(uu z b p).1) (fun l d=>by simp at d) (fun l d=>by simp at d) c V)
theorem acC (v:iL S){c:Call}{d:Operand}(y:o.op= .call c)(C:c.callee= .value d)(j:∀f i,Γ f=some i->dJ P S f i)(h:Hp S w0 N blk g al w)(l:∀n,fr<=n->n < fr+64->¬al n)
  (m:∀t,(slot t).Rel S (aV N blk g) w g (a.tmps.getD t undef)) (b:MK Γ blk fr (aB slot d) (c.args.toList.map (aB slot))=some out) (B:lY out.pre) (E:Post S w0 N blk g al w fr out o.dst a K):o.wp P a w K Q:=by
 have e:=oz m d;unfold MK at b;split at b
 ·rename_i f z A p;rw[p]at e;obtain⟨u,s,q⟩:∃u,a.eval d= .func (.func f) #[u] #[]/\Nr S (aV N blk g) w z A u:=e;split at b
  ·rename_i x D;refine adT v (args:=x::c.args.toList.map (aB slot)) (vals:=u::c.args.toList.map a.eval) j h l ⟨adu D q,Ll m _⟩ (fun i k=> ?_) b B E;have r:=k.enters (u::c.args.toList.map a.eval).toArray w;simp only[execOp,y,resolve,C,Deferred.ofValue,s,Sem.run_bind,Sem.run_pure,Result.andThen_ok,invoke];have:(#[u]++c.args.map a.eval:Array Value)++ #[]=(u::c.args.toList.map a.eval).toArray:=by rw[<-H5];simp
   rw[this,r]
  ·cases b
 ·cases b
theorem UB (l:∀t E,T t=some E->fB P t E)(C:∀f D,Γ f=some D->dJ P S f D)(q:iL S)(h:Hp S w0 N blk g al w)(A:∀n,fr<=n->n < fr+64->¬al n)
  (F:∀t,(slot t).Rel S (aV N blk g) w g (a.tmps.getD t undef)) (b:nN T S Γ slot blk fr o.op=some out) (s:lY out.pre) (p:Post S w0 N blk g al w fr out o.dst a K):o.wp P a w K Q:=by
 have k:=oz F;unfold nN at b;split at b
 ·rename_i t j;exact abm j l h A b p
 ·rename_i t x j;exact acD j l h (k x) b p
 ·rename_i t x y j;exact abg j l h (k x) (k y) b p
 ·rename_i t x i j;exact acE j l h (k x) (k i) b s p
 ·rename_i t x i j;exact aaZ j l h (k x) (k i) b s p
 ·rename_i t j;exact W9 q j h A b p
 ·rename_i t x J I j;exact aa2 q j l h k b s p
 ·rename_i t x J I U j;exact aap q j l h k b s p
 ·rename_i t x i R j;exact aaT q j l h (k x) (k i) b p
 ·rename_i t x i v j;exact Jd q (.inl j) l h (k x) (k i) (k v) b p
 ·rename_i t x i v j;exact Jd q (.inr j) l h (k x) (k i) (k v) b p
 ·rename_i t d x j;split at b
  ·rename_i B z;injection b with b
   subst b;exact ahx q j l h (k x) z s p
  ·exact acL q j l h (k x) b p
 ·rename_i t x j;exact aob j l h (k x) b p
 ·rename_i x V t R j;exact WG j l h (k x) b p
 ·rename_i Z t x y Y j;exact afD j l h (k x) (k y) b p
 ·rename_i f first M j
  split at b
  ·rename_i x O L;exact al6 j O L h (k x) b p
  ·cases b
 ·rename_i x j;split at b
  ·rename_i e G;split at b
   ·rename_i f W X;have z:=k x;rw[G]at z;injection b with b
    subst b;refine bf (v:=a.eval x) ?_ h p rfl z;obtain⟨u,H,_⟩:=z;simp[execOp,j,H]
   ·cases b
  ·cases b
 ·rename_i c j;split at b
  ·rename_i f r;exact acC q j r C h A F b s p
  ·rename_i r;split at b
   ·rename_i x y m;split at b
    ·rename_i B z;injection b with b
     subst b;exact WP q j r m l h A (k x) (k y) z s p
    split at b
    ·rename_i B z;injection b with b
     subst b;exact WX j r m l h (k x) (k y) z p
    split at b
    ·rename_i B z;injection b with b
     subst b;exact WR q j r m l h A (k x) (k y) z s p
    ·exact WH q j r m l h A (k x) (k y) b s p
   ·cases b
  ·rename_i r;split at b
   ·rename_i x m;exact amo j r m l h (k x) b p
   ·cases b
  ·rename_i r;split at b
   ·rename_i x m;exact Pn j r m h (k x) b s p
   ·cases b
  ·rename_i r;split at b
   ·rename_i x y m;exact Px j r m l h (k x) (k y) b s p
   ·cases b
  ·cases b
 ·cases b
theorem acN (I:∀t G,T t=some G->fB P t G)(z:∀f F,Γ f=some F->dJ P S f F)(s:iL S)(h:Hp S w0 N blk g al w)(D:∀n,fr<=n->n < fr+64->¬al n)
  (H:∀t,(slot t).Rel S (aV N blk g) w g (a.tmps.getD t undef)) (c:kR T S Γ slot blk fr o.op=some out) (U:lY out.pre) (X:Post S w0 N blk g al w fr out o.dst a K):o.wp P a w K Q:=by
 unfold kR at c;dsimp only at c;split at c
 ·rename_i L;simp only[iT,Rf]at L;split at c
  ·rename_i d W;injection c with c
   subst c;have E:(iG slot o.op).Nodup:=pO _ _ Qd8;obtain⟨V,B,C,O⟩:=Hp.FP s (iG slot o.op) blk E h;refine UB I z s V D (fun t=> ?_) W U (fun v w' g' m k J R=> ?_)
   ·unfold CG;split
    ·rename_i r;have r:=gz.1 r;refine Sl.Rel.view (jk:=iG slot o.op) s h ⟨?_,fun l j v b A M p=> ?_⟩ (fun l j=>(fA _ _ _).2 (.inr (vS.2 ⟨t,r,j⟩))) (H t)
     ·rintro b (p | ⟨n,u,i,x,y⟩)
      ·exact .inl p
      ·exact .inr ⟨n,u,C n i,x,y⟩
     ·rintro(q | ⟨n,u,i,x,y⟩)
      ·exact h.afj A M p q
      ·have:=h.sep l n v u b A (C n i) M x p y;subst this;rw[O l j (L.2 l j)]at i;cases i
    ·exact(H t).keep B (More.refl _)
   ·have e:kw blk ((iG slot o.op).filterMap (ja blk)++d.blks)=kw (kw blk ((iG slot o.op).filterMap (ja blk))) d.blks:=Su _ _ _;refine X v w' g' m ?_ ?_ ?_
    ·rw[e];exact B.comp k
    ·rw[e];exact J
    ·rw[e];exact R
  ·cases c
 ·cases c
theorem afL (e:∀t s,T t=some s->fB P t s)(i:∀f r,Γ f=some r->dJ P S f r)(m:iL S)(h:Hp S w0 N blk g al w)(d:∀n,fr<=n->n < fr+64->¬al n)
  (j:∀t,(slot t).Rel S (aV N blk g) w g (a.tmps.getD t undef)) (c:Does T S Γ slot blk fr o.op out) (q:lY out.pre) (l:Post S w0 N blk g al w fr out o.dst a K):o.wp P a w K Q:=by
 rcases c with c | ⟨b,v,y,k,rfl⟩
 ·unfold rY at c;split at c
  ·rename_i p k;injection c with c
   subst c;exact UB e i m h d j k q l
  ·split at c
   ·rename_i p k;injection c with c
    subst c;exact acN e i m h d j k q l
   ·unfold wJ at c;split at c
    ·rename_i t x u;exact ad7 u e h d (oz j x) c l
    ·exact amw e i m h d j c q l
 ·exact afH h j k l
end
end Go.Vc
