/- Own engine: Vdd. -/
import Derived.Lib.ConvBytes
import Derived.Test.YtenjjcfebflefaaGreatDoorEng4
import Derived.MapFrom
import Derived.Lib.AppendStr
import Derived.Lib.AppendZeros
import Derived.Lib.UnsafeStr
import Derived.Laws.BytesString
set_option linter.unusedVariables false
set_option linter.unusedSimpArgs false
namespace Go.Vc
open Go.RowKit
section
variable {D:Type}
def azi (T:TypeId->Option Ty)(t:TypeId):Option (TypeId×Nat×Nat):=
 match T t with
 | none=>none
 | some a=>if a.lit then PX T t else none
def adH (T:TypeId->Option Ty)(t:TypeId)(x i:Sl D):Option (Out D):=
 match azi T t with
 | none=>none
 | some (e,n,a)=>(match x,i with
  | .one (.lf (.ptr l o)), .one (.lf (.int _ m))=>mM (some (dp (0<=m/\m < n))) (.ptr l (o+m.toNat*a))
  | _,_=>none)
def Uw (T:TypeId->Option Ty)(t:TypeId)(x i:Sl D):Option (Out D):=
 match azi T t with
 | none=>none
 | some (e,n,a)=>(match T e with
  | none=>none
  | some b=>(match x,i with
   | .one (.agg cs), .one (.lf (.int _ m))=>
    if Nat.beq cs.length (n*a)then(if b.agg then some ⟨some (dp (0<=m/\m < n)), .one (.agg ((cs.drop (m.toNat*a)).take a)),[]⟩
    else(match cs[m.toNat*a]? with
     | some y=>mM (some (dp (0<=m/\m < n))) y
     | none=>none))else none
   | _,_=>none))
def XQ (S:Sh D)(t:TypeId)(a:Nat):Option (Out D):=
 match S.asP t with
 | some d=>some ⟨none, .one (.lf (.own a)),[(a,some (.map d))]⟩
 | none=>none
def aAo:Sl D->Option Pv
 | .one (.lf x)=>x.pv
 | _=>none
def mapOf (S:Sh D)(a:Nat->Option (Bk D))(t:TypeId):Sl D->Option (Mp D)
 | .one (.lf (.own l))=>(match a l with
  | some (.map d)=>S.mp d
  | some (.xZ d)=>S.mp d
  | _=>none)
 | .one (.lf (.dat d))=>S.mp d
 | .one (.lf (.val (.map none)))=>(match S.asP t with
  | some d=>S.mp d
  | none=>none)
 | _=>none
def aFC:Pv->Value->Bool
 | .bool a, .bool b=>a==b
 | .int k a, .int c b=>kEq k c && a==b
 | .str s, .string u=>s.isEmpty && Nat.beq u.data.size 0
 | _,_=>false
def adl:List Pv->List Value->Bool
 | [],[]=>true
 | p::b,v::a=>aFC p v && adl b a
 | _,_=>false
def U7:List Pv->List Pv->Bool
 | [],[]=>true
 | p::a,q::b=>Nat.beq p.kind q.kind && U7 a b
 | _,_=>false
def Ue (T:TypeId->Option Ty)(S:Sh D)(e:Nat->Option (Bk D))(t:TypeId)(x i:Sl D)(b:Bool):Option (Out D):=
 match T t with
 | none=>none
 | some a=>(match a.mp with
  | none=>none
  | some (h,g)=>(match T h,T g with
   | some f,some d=>(match mapOf S e t x,aAo i with
    | some m,some k=>
     if Nat.beq a.kind 0 && Nat.beq k.kind f.kind && (Nat.beq m.kind f.kind && (m.agg==d.zag && adl m.zero d.zero))then
      (match m.agg,m.get k with
      | true,c=>if b then some ⟨none, .wU [.agg c, .lf (.bool (m.has k))],[]⟩else some ⟨none, .one (.agg c),[]⟩
      | false,[y]=>if b then some ⟨none, .wU [.lf y, .lf (.bool (m.has k))],[]⟩else mM none y
      | _,_=>none)else none
    | _,_=>none)
   | _,_=>none))
def atW (a:Bool):Sl D->Option (List Pv)
 | .one (.lf x)=>if a then none else(match x.pv with
  | some p=>some [p]
  | none=>none)
 | .one (.agg b)=>if a then pvs b else none
 | _=>none
def IM (T:TypeId->Option Ty)(S:Sh D)(b:Nat->Option (Bk D))(t:TypeId)(x i v:Sl D):Option (Out D):=
 match T t with
 | none=>none
 | some a=>(match a.mp with
  | none=>none
  | some (e,f)=>(match T e with
   | some c=>(match x,aAo i with
    | .one (.lf (.own l)),some k=>(match b l with
     | some (.map d)=>(match S.mp d with
      | some m=>(match atW m.agg v with
       | some u=>if Nat.beq a.kind 0 && Nat.beq k.kind c.kind && (Nat.beq m.kind c.kind && U7 u m.zero)then some ⟨none, .one (.lf .any),[(l,some (.map (m.put k u)))]⟩else none
       | none=>none)
      | none=>none)
     | _=>none)
    | _,_=>none)
   | _=>none))
def aH_:Lf D->Bool
 | .int .u8 _=>true
 | _=>false
def axW:Lf D->Bool
 | .int .u8 k=>decide (0<=k) && decide (k < 256)
 | _=>false
def TG (f:Nat->Bool):Nat->Bool
 | 0=>true
 | n+1=>f n && TG f n
def aGR:Lf D->UInt8
 | .int .u8 n=>UInt8.ofNat n.toNat
 | _=>0
def MZ (S:Sh D)(d:D):Nat->Bool:=TG fun i=>aH_ (S.cell d i 0)
def afA (S:Sh D)(d:D):Nat->Bool:=TG fun i=>axW (S.cell d i 0)
def bytesOf (S:Sh D)(d:D):List UInt8:=(List.range (S.len d)).map fun i=>aGR (S.cell d i 0)
def YZ (T:TypeId->Option Ty)(S:Sh D)(c:Nat->Option (Bk D))(src a:TypeId)(x:Sl D):Option (Out D):=
 match T src,T a with
 | some g,some f=>(match g.elem with
  | none=>none
  | some e=>(match T e with
   | none=>none
   | some b=>if Nat.beq f.kind 3 && (Nat.beq b.kind 24 && Nat.beq b.size 1)then(match x with
    | .one (.lf (.val (.slice none 0 0)))=>mM none (.str [])
    | x=>(match Nz c x with
     | some d=>if Nat.beq (S.size d) 1 then mM (some (dp (MZ S d (S.len d)=true))) (.str (bytesOf S d))else none
     | none=>none))else none))
 | _,_=>none
def aff (T:TypeId->Option Ty)(S:Sh D)(src a:TypeId)(x:Sl D):Option (Out D):=
 match T src,T a with
 | some d,some c=>(match c.elem with
  | none=>none
  | some e=>(match T e with
   | none=>none
   | some b=>if Nat.beq d.kind 3 && (Nat.beq b.kind 24 && Nat.beq b.size 1)then(match x with
    | .one (.lf (.str s))=>(match S.text e s with
     | none=>none
     | some d2=>if Nat.beq (S.size d2) 1 then mM none (.dat d2)else none)
    | _=>none)else none))
 | _,_=>none
def Lf.dl:Lf D->Option (Dl D)
 | .bool b=>some (.bool b)
 | .val (.bool b)=>some (.bool b)
 | .int k n=>some (.int k n)
 | .str s=>some (.str s)
 | .dat d=>some (.dat d)
 | .val (.slice none 0 0)=>some .ayX
 | _=>none
def dls:List (Lf D)->Option (List (Dl D))
 | []=>some []
 | x::a=>(match x.dl,dls a with
  | some p,some b=>some (p::b)
  | _,_=>none)
def Dl.lf:Dl D->Lf D
 | .bool b=> .bool b
 | .int k n=> .int k n
 | .str s=> .str s
 | .dat d=> .dat d
 | .ayX=> .val (.slice none 0 0)
def aqx (b:Bool)(a:List (Dl D)):Option (Sl D):=
 match b,a with
 | false,[x]=>some (.one (.lf x.lf))
 | true,a=>some (.one (.agg (a.map Dl.lf)))
 | _,_=>none
def ana:Sl D->Option (Bool×List (Dl D))
 | .one (.lf x)=>(match x.dl with
  | some p=>some (false,[p])
  | none=>none)
 | .one (.agg a)=>(match dls a with
  | some b=>some (true,b)
  | none=>none)
 | _=>none
def aF4 (T:TypeId->Option Ty)(t:TypeId)(x:Sl D):Option (Out D):=
 match T t with
 | none=>none
 | some a=>if Nat.beq a.kind 0 then none else(match ana x with
  | some (b,c)=>mM none (.xt (.ifd t b c))
  | none=>none)
def aey (a:Ty):Option (Sv D):=
 if a.agg then(if a.zag then some (.agg (a.zero.map D8))else none)else(match a.zero with
  | [z]=>if a.zag then none else some (.lf (D8 z))
  | _=>none)
def aH7:Value->Bool
 | .slice _ _ _=>true
 | _=>false
def Yg (T:TypeId->Option Ty)(t:TypeId)(x:Sl D)(b:Bool):Option (Out D):=
 match T t with
 | none=>none
 | some a=>if Nat.beq a.kind 0 then none else(match x with
  | .one (.lf (.xt (.ifd c d e)))=>(match aqx d e with
   | some (.one u)=>(match b with
    | true=>if Nat.beq c t then some ⟨none, .wU [u, .lf (.val (.bool true))],[]⟩else(match aey a with
     | some z=>some ⟨none, .wU [z, .lf (.val (.bool false))],[]⟩
     | none=>none)
    | false=>if Nat.beq c t then some ⟨none, .one u,[]⟩else none)
   | _=>none)
  | .one (.lf (.Tz v))=>if a.zero.any aH7 then(match v with
   | none=>(match b with
    | true=>(match aey a with
     | some z=>some ⟨none, .wU [z, .lf (.val (.bool false))],[]⟩
     | none=>none)
    | false=>none)
   | some _=>none)else none
  | _=>none)
def aFT (f:FuncId)(x:Sl D):Option (Out D):=
 match ana x with
 | some (a,b)=>mM none (.xt (.clo f a b))
 | none=>none
def Y9 (d:FuncId->Option (Ct D))(a:Nat->Option (Bk D))(b:Nat)(f:Sl D)(args:List (Sl D)):Option (Out D):=
 match f with
 | .one (.lf (.xt (.clo f c e)))=>(match aqx c e with
  | some x=>JF d f a (x::args) b
  | none=>none)
 | _=>none
def Uz (T:TypeId->Option Ty)(S:Sh D)(g:Nat->Option (Bk D))(t:TypeId)(x:Sl D)(i f:Option (Sl D)):Option (Out D):=
 match T t with
 | none=>none
 | some c=>if c.lit then(match bnd 0 i,c.elem with
  | some l,some e=>(match T e with
   | none=>none
   | some a=>(match x with
    | .one (.lf (.own q))=>(match g q with
     | some (.row _ d)=>if Nat.beq a.size (S.size d) && (Nat.blt 0 a.size && (!a.agg || a.lit))then(match bnd (S.len d) f with
      | some h=>(match S.sub d l.toNat h.toNat with
       | some b=>some ⟨some (dp (0<=l/\l<=h/\h<=S.len d)), .one (.lf (.dat b)),[(q,some (.xZ d))]⟩
       | none=>none)
      | none=>none)else none
     | some (.xZ d)=>if Nat.beq a.size (S.size d) && (Nat.blt 0 a.size && (!a.agg || a.lit))then(match bnd (S.len d) f with
      | some h=>(match S.sub d l.toNat h.toNat with
       | some b=>some ⟨some (dp (0<=l/\l<=h/\h<=S.len d)), .one (.lf (.dat b)),[]⟩
       | none=>none)
      | none=>none)else none
     | _=>none)
    | _=>none))
  | _,_=>none)else none
def CQ (T:TypeId->Option Ty)(S:Sh D)(a:Nat->Option (Bk D))(f:Array TypeId)(x y:Sl D):Option (Out D):=
 match f.toList,y with
 | [t,c], .one (.lf (.val (.slice none 0 0)))=>if Nat.beq t c then(match T t with
  | none=>none
  | some b=>(match b.elem with
   | none=>none
   | some e=>(match T e with
    | none=>none
    | some g=>(match x with
     | .one (.lf (.val (.slice none 0 0)))=>mM none (.val (.slice none 0 0))
     | .one (.lf (.dat d))=>if Nat.blt 0 (S.size d)then mM none (.dat d)else none
     | .one (.lf (.own l))=>(match a l with
      | some (.row _ _)=>mM none (.own l)
      | _=>none)
     | _=>none))))else none
 | _,_=>none
def X3 (T:TypeId->Option Ty)(S:Sh D)(b:Nat)(h:Array TypeId)(x y:Sl D):Option (Out D):=
 match h.toList,x,y with
 | [t,g], .one (.lf (.val (.slice none 0 0))), .one (.lf (.int _ n))=>(match T t,T g with
  | some c,some f=>(match ar5 f.kind,c.elem with
   | some _,some e=>(match T e with
    | some a=>if Nat.blt 0 a.size && Nat.beq a.zero.length a.size then(match S.zero e n.toNat (a.zero.map fun v=>(D8 v).norm)with
     | some d=>some ⟨some (dp (0 < n/\n*a.bytes<=281474976710656/\n<=1099511627776)), .one (.lf (.own b)),[(b,some (.row e d))]⟩
     | none=>none)else none
    | none=>none)
   | _,_=>none)
  | _,_=>none)
 | _,_,_=>none
def aET (T:TypeId->Option Ty)(b:Array TypeId)(x:Sl D):Option (Out D):=
 match b.toList,x with
 | [t], .one (.lf (.val (.slice none 0 0)))=>(match T t with
  | some a=>(match a.elem with
   | some _=>mM none (.int .i64 0)
   | none=>none)
  | none=>none)
 | _,_=>none
def Ux (T:TypeId->Option Ty)(S:Sh D)(c:Nat->Option (Bk D))(t:TypeId)(x:Sl D)(g i:Option (Sl D))(j:Sl D):Option (Out D):=
 match g,i,j with
 | none,some (.one (.lf (.int _ h))), .one (.lf (.int _ m))=>(match T t with
  | none=>none
  | some f=>(match f.elem with
   | none=>none
   | some e=>(match T e with
    | none=>none
    | some a=>(match x with
     | .one (.lf (.dat d))=>if Nat.beq a.size (S.size d) && Nat.blt 0 a.size then(match S.sub d 0 h.toNat with
      | some b=>mM (some (dp (0<=h/\h=m/\h<=S.len d))) (.xt (.clip b))
      | none=>none)else none
     | .one (.lf (.own q))=>(match c q with
      | some (.row _ d)=>if Nat.beq a.size (S.size d) && Nat.blt 0 a.size then(match S.sub d 0 h.toNat with
       | some b=>some ⟨some (dp (0<=h/\h=m/\h<=S.len d)), .one (.lf (.dat b)),[(q,some (.xZ d))]⟩
       | none=>none)else none
      | _=>none)
     | _=>none))))
 | _,_,_=>none
def CZ (T:TypeId->Option Ty)(S:Sh D)(c:Nat->Option (Bk D))(b:Nat)(g:Array TypeId)(x y:Sl D):Option (Out D):=
 match x with
 | .one (.lf (.xt e))=>(match e with
  | .clip d1=>(match g.toList with
   | [t,h]=>if Nat.beq t h then(match T t with
    | none=>none
    | some f=>(match f.elem with
     | none=>none
     | some e=>(match T e with
      | none=>none
      | some a=>(match Nz c y with
       | none=>none
       | some d2=>if Nat.beq a.size (S.size d2) && (Nat.blt 0 a.size && Nat.beq a.zero.length a.size)then(match S.cat d1 d2 with
        | some d=>some ⟨some (dp (0 < S.len d2/\dE (S.len d1+S.len d2) a.bytes)), .one (.lf (.own b)),[(b,some (.row e d))]⟩
        | none=>none)else none))))else none
   | _=>none)
  | _=>none)
 | _=>none
def an4 (T:TypeId->Option Ty)(S:Sh D)(b:BinOp)(t:TypeId)(x y:Sl D):Option (Out D):=
 match T t with
 | none=>none
 | some a=>if S.run && a.lit then(match a.elem,x,y with
  | some _, .one (.lf (.dat d)), .one (.lf (.val (.slice none 0 0)))=>if Nat.blt 0 (S.len d) && Nat.blt 0 (S.size d)then(match b with
   | .eql=>mM none (.val (.bool false))
   | .neq=>mM none (.val (.bool true))
   | _=>none)else none
  | _,_,_=>none)else none
def aCU (a:Ty):Bool:=
 match a.zero with
 | [.pointer none, .slice none 0 0]=>a.lit && a.agg && Nat.beq a.kind 5
 | _=>false
def ac1 (T:TypeId->Option Ty)(a:Nat)(t:TypeId):Option (Out D):=
 match T t with
 | none=>none
 | some b=>if aCU b then some ⟨none, .one (.lf (.ptr a 0)),[(a,some (.tc t [.val (.slice none 0 0)]))]⟩else none
def WI (T:TypeId->Option Ty)(a:Nat->Option (Bk D))(t:TypeId)(x:Sl D):Option (Out D):=
 match T t with
 | none=>none
 | some b=>(match x with
  | .one (.lf (.ptr l o))=>(match a l with
   | some (.tc _ cs)=>if b.agg then none else(match o with
    | 0=>none
    | o+1=>(match cs[o]? with
     | some y=>mM none y
     | none=>none))
   | _=>none)
  | _=>none)
def Ox (T:TypeId->Option Ty)(b:Nat->Option (Bk D))(t:TypeId)(x y:Sl D):Option (Out D):=
 match T t,x,y with
 | some a, .one (.lf (.ptr l o)), .one (.lf u)=>(match b l with
  | some (.tc c cs)=>(match o with
   | 0=>none
   | o+1=>if Nat.beq a.size 1 && (!a.agg && (Nat.blt o cs.length && u.storable))then some ⟨none, .one (.lf .any),[(l,some (.tc c (putAt cs o [u])))]⟩else none)
  | _=>none)
 | _,_,_=>none
def atq (a:Ty):Bool:=
 match a.zero with
 | [.int .u8 0]=> !a.zag
 | _=>false
def Dk (T:TypeId->Option Ty)(S:Sh D)(f:Nat->Option (Bk D))(a:Nat)(i:Array TypeId)(x y:Sl D):Option (Out D):=
 match i.toList,y with
 | [t,h], .one (.lf (.str s))=>(match T t,T h with
  | some g,some c=>(match g.elem with
   | none=>none
   | some e=>(match T e with
    | none=>none
    | some b=>if atq b && (Nat.beq b.size 1 && (Nat.beq b.bytes 1 && Nat.beq c.kind 3))then(match S.text e s with
     | none=>none
     | some d2=>if Nat.beq (S.size d2) 1 then(match x with
      | .one (.lf (.val (.slice none 0 0)))=>some ⟨some (dp (dE s.length 1)), .one (.lf (.own a)),[(a,some (.row e d2))]⟩
      | .one (.lf (.own l))=>(match f l with
       | some (.row j d1)=>if Nat.beq e j && Nat.beq (S.size d1) 1 then(match S.cat d1 d2 with
        | some d=>some ⟨some (dp (dE (S.len d1+s.length) 1)), .one (.lf (.own a)),[(l,none),(a,some (.row e d))]⟩
        | none=>none)else none
       | _=>none)
      | _=>none)else none)else none))
  | _,_=>none)
 | _,_=>none
def Ei (S:Sh D)(a:Nat->Option (Bk D))(x:Sl D):Option (Out D):=
 match x with
 | .one (.lf (.own l))=>(match a l with
  | some (.row _ d)=>if Nat.beq (S.size d) 1 then mM (some (dp (0 < S.len d))) (.opt l 0 0 1)else none
  | _=>none)
 | .one (.lf (.val (.slice none 0 0)))=>mM none (.val (.pointer none))
 | _=>none
def ptrTo (T:TypeId->Option Ty)(c:Array TypeId)(e:TypeId):Bool:=
 match c.toList with
 | [b,_]=>(match T b,T e with
  | some a,some d=>Nat.beq a.kind 6 && (Nat.beq d.size 1 && (match a.mp with
   | some (f,_)=>Nat.beq e f
   | none=>false))
  | _,_=>false)
 | _=>false
def Ep (T:TypeId->Option Ty)(S:Sh D)(b:Nat->Option (Bk D))(a:Array TypeId)(x y:Sl D):Option (Out D):=
 match x,y with
 | .one (.lf (.opt l 0 0 1)), .one (.lf (.int .i64 n))=>(match b l with
  | some (.row e d)=>if ptrTo T a e && Nat.beq (S.size d) 1 then some ⟨some (dp (n=S.len d/\0 < n/\afA S d (S.len d)=true)), .one (.lf (.str (bytesOf S d))),[(l,none)]⟩else none
  | _=>none)
 | .one (.lf (.val (.pointer none))), .one (.lf (.int .i64 n))=>(match a.toList with
  | [_,_]=>mM (some (dp (n=0))) (.str [])
  | _=>none)
 | _,_=>none
def qj (T:TypeId->Option Ty)(S:Sh D)(p:FuncId->Option (Ct D))(d:Nat->Sl D)(g:Nat->Option (Bk D))(j:Nat)(n:Op):Option (Out D):=
 match n with
 | .alloc t=>ac1 T j t
 | .load t x=>WI T g t (aG d x)
 | .store t x y=>Ox T g t (aG d x) (aG d y)
 | .indexAddr t x i=>adH T t (aG d x) (aG d i)
 | .index t x i=>Uw T t (aG d x) (aG d i)
 | .makeMap t none=>XQ S t j
 | .slice t x k o none=>Uz T S g t (aG d x) (k.map (aG d)) (o.map (aG d))
 | .slice t x k o (some s)=>Ux T S g t (aG d x) (k.map (aG d)) (o.map (aG d)) (aG d s)
 | .lookup t x i l=>Ue T S g t (aG d x) (aG d i) l
 | .mapUpdate t x i v=>IM T S g t (aG d x) (aG d i) (aG d v)
 | .insert t x i v=>IM T S g t (aG d x) (aG d i) (aG d v)
 | .convert a b x=>(match YZ T S g a b (aG d x)with
  | some h=>some h
  | none=>aff T S a b (aG d x))
 | .makeInterface t x=>aF4 T t (aG d x)
 | .typeAssert x _ t l=>Yg T t (aG d x) l
 | .binOp n t x y _=>an4 T S n t (aG d x) (aG d y)
 | .makeFunc (.func f) first m=>(match first.toList,m.toList with
  | [x],[]=>aFT f (aG d x)
  | _,_=>none)
 | .nilCheck x=>(match aG d x with
  | .one (.lf (.xt e))=>(match e with
   | .clo f r q=>mM none (.xt (.clo f r q))
   | _=>none)
  | _=>none)
 | .call c=>(match c.callee with
  | .value f=>Y9 p g j (aG d f) (c.args.toList.map (aG d))
  | .builtin .append=>(match c.args.toList with
   | [x,y]=>(match X3 T S j c.argTypes (aG d x) (aG d y)with
    | some h=>some h
    | none=>(match CQ T S g c.argTypes (aG d x) (aG d y)with
     | some h=>some h
     | none=>(match CZ T S g j c.argTypes (aG d x) (aG d y)with
      | some h=>some h
      | none=>Dk T S g j c.argTypes (aG d x) (aG d y))))
   | _=>none)
  | .builtin .cap=>(match c.args.toList with
   | [x]=>aET T c.argTypes (aG d x)
   | _=>none)
  | .builtin .unsafeSliceData=>(match c.args.toList with
   | [x]=>Ei S g (aG d x)
   | _=>none)
  | .builtin .unsafeString=>(match c.args.toList with
   | [x,y]=>Ep T S g c.argTypes (aG d x) (aG d y)
   | _=>none)
  | _=>none)
 | _=>none
def jg:Op->Bool
 | .makeInterface _ _=>true
 | .makeFunc _ _ _=>true
 | _=>false
def nR (T:TypeId->Option Ty)(S:Sh D)(g:FuncId->Option (Ct D))(b:Nat->Sl D)(a:Nat->Option (Bk D))(f:Nat)(d:Op):Option (Out D):=
 let e:=iG b d
 if jg d && e.all (fun l=>isRow (a l))then
  (match qj T S g (FK (rE d.operands.toList) b a) (kY a (e.filterMap (jl a))) f d with
  | some c=>some ⟨c.pre,c.val,e.filterMap (jl a)++c.blks⟩
  | none=>none)
 else none
def xy (T:TypeId->Option Ty)(S:Sh D)(e:FuncId->Option (Ct D))(a:Nat->Sl D)(c:Nat->Option (Bk D))(d:Nat)(f:Op):Option (Out D):=
 match qj T S e a c d f with
 | some b=>some b
 | none=>(match nR T S e a c d f with
  | some b=>some b
  | none=>Di T S e a c d f)
def Does (T:TypeId->Option Ty)(S:Sh D)(i:FuncId->Option (Ct D))(a:Nat->Sl D)(d:Nat->Option (Bk D))(h:Nat)(f:Op)(c:Out D):Prop:=
 xy T S i a d h f=some c\/∃b e g,FB a d f=some (b,e,g)/\c=bif b then e else g
end
section
variable {D:Type}{P:Program}{S:Sh D}{T:TypeId->Option Ty}{Γ:FuncId->Option (Ct D)}{M M' N:Nat->Prop}{w w':World}{w0:Bs}{g g':Nat->Option Value}{blk blk':Nat->Option (Bk D)}{al:Nat->Prop}
 {a:Act} {o:Oper} {K:Act->World->Prop} {Q:Exit->Act->World->Prop} {slot cO:Nat->Sl D} {out:Out D} {fr:Nat}
theorem abZ (d:∀t a,T t=some a->eP P t a){t e:TypeId}{n b:Nat}(h:azi T t=some (e,n,b)):∃a c,T t=some a/\T e=some c/\c.size=b/\0 < b/\a.size=n*b/\a.agg=true/\P.underlying t=some (.array n e)/\eP P t a/\eP P e c:=by
 unfold azi at h;split at h
 ·cases h
 ·split at h
  ·exact AP d h
  ·cases h
theorem agx {t:TypeId}{x d:Operand}(C:o.op= .indexAddr t x d)(y:∀t f,T t=some f->eP P t f)(h:Hp S w0 N blk g al w)(r:(aG slot x).Rel S (aY N blk g) w g (a.eval x))
  (j:(aG slot d).Rel S (aY N blk g) w g (a.eval d)) (c:adH T t (aG slot x) (aG slot d)=some out) (E:nH out.pre) (D:Post S w0 N blk g al w fr out o.dst a K):o.wp P a w K Q:=by
 unfold adH at c;split at c
 ·cases c
 ·rename_i e n z i;obtain⟨f,V,L,R,s,W,M,O,B,U,I⟩:=abZ y i;have H:=mg I w;split at c
  ·rename_i l u k m p q;rw[p]at r;rw[q]at j;simp only[Sl.Rel,Sv.Rel,Lf.Rel]at j;obtain⟨b,G,A⟩:=r;injection c with c
   subst c;obtain⟨J,F⟩:=E;refine bg (v:= .pointer (some ⟨b,u+m.toNat*z,none⟩)) ?_ h D rfl ⟨b,G,rfl⟩;simp[execOp,C,Instr.indexAt,Instr.sureAddr,j,asIntOf,run_underlying B,A,J,F,H,s,m_]
  ·cases c
theorem bf.at {g:Nat->Option Value}{b:List (Lf D)}{a:List Value}(h:bf S M w g b a){i:Nat}{x:Lf D}(c:b[i]? =some x):∃u,a[i]? =some u/\x.Rel S M w g u:=bf.get i h c
theorem bf.drop' {g:Nat->Option Value}:∀(n:Nat) {b:List (Lf D)} {a:List Value},bf S M w g b a->bf S M w g (b.drop n) (a.drop n)
 | 0,_,_,h=>h
 | n+1,[],[],_=>trivial
 | n+1,x::b,v::a,h=>bf.drop' n h.2
theorem bf.take' {g:Nat->Option Value}:∀(n:Nat) {b:List (Lf D)} {a:List Value},bf S M w g b a->bf S M w g (b.take n) (a.take n)
 | 0,_,_,h=>trivial
 | n+1,[],[],_=>trivial
 | n+1,x::b,v::a,h=>⟨h.1,bf.take' n h.2⟩
theorem acZ {t:TypeId}{x f:Operand}(G:o.op= .index t x f)(O:∀t q,T t=some q->eP P t q)(h:Hp S w0 N blk g al w)(H:(aG slot x).Rel S (aY N blk g) w g (a.eval x))
  (i:(aG slot f).Rel S (aY N blk g) w g (a.eval f)) (b:Uw T t (aG slot x) (aG slot f)=some out) (J:nH out.pre) (I:Post S w0 N blk g al w fr out o.dst a K):o.wp P a w K Q:=by
 unfold Uw at b;split at b
 ·cases b
 ·rename_i e n c s;obtain⟨q,te,X,L,p,h0,Y,Z,F,aa,M⟩:=abZ O s;rw[L]at b;dsimp only at b;have l:=mg M w;have j:=zB M w;split at b
  ·rename_i cs k m C D;rw[C]at H;rw[D]at i;simp only[Sl.Rel,Sv.Rel,Lf.Rel]at i;obtain⟨z,B,R⟩:=H;split at b
   rotate_left
   ·cases b
   split at b
   ·rename_i d;injection b with b
    subst b;obtain⟨A,r⟩:=J;refine bg (v:= .agg ((z.drop (m.toNat*c)).take c).toArray) ?_ h I rfl ⟨_,rfl,(R.drop' _).take' _⟩;have V:z.toArray.extract (m.toNat*c) (m.toNat*c+c)=((z.drop (m.toNat*c)).take c).toArray:=by
     grind
    simp[execOp,G,Instr.index,i,asIntOf,run_underlying F,B,A,r,part,j,d,l,p,V]
   ·rename_i d;split at b
    ·rename_i y U;injection b with b
     subst b;obtain⟨A,r⟩:=J;obtain⟨u,W,E⟩:=R.at U;refine bg (v:=u) ?_ h I rfl E;simp[execOp,G,Instr.index,i,asIntOf,run_underlying F,B,A,r,part,j,d,l,p,W]
    ·cases b
  ·cases b
theorem ZZ {t:TypeId}(s:iZ S)(i:o.op= .makeMap t none)(h:Hp S w0 N blk g al w)(f:∀n,fr<=n->n < fr+64->¬al n)(c:XQ S t fr=some out)(p:Post S w0 N blk g al w fr out o.dst a K):o.wp P a w K Q:=by
 unfold XQ at c;split at c
 ·rename_i d u;injection c with c
  subst c;obtain⟨m,x,r⟩:=s.ayW _ _ u;have e:(execOp a.eval o).run P w= .ok (.value (.map (some w.heap.size))) (w.alloc (.map #[] 0)):=by
   simp[execOp,i,Instr.makeMap,newObj,Sem.run]
  obtain⟨y,k,q⟩:=h.add (l:=fr) (bk:= .map d) (v:= .map (some w.heap.size)) ((Below.refl w.heap.size w).alloc (rC _) (.map #[] 0)) (f fr (rC _) au) (fun b j=>by simp[eH]at j;omega)
   (fun M' z _=>⟨m,w.heap.size,#[],0,x,by grind,rfl, .inl h.below.size,heap_alloc_new w _,by rw[r];rfl⟩)
  exact lL e (p _ _ _ q k (y.weaken Xy) (upd_same _ _ _))
 ·cases c
theorem Pv.beq_eq {p q:Pv}(h:Pv.beq p q=true):p=q:=by
 cases p<;>cases q<;>simp_all [Pv.beq,kEq]
theorem afq {t:TypeId}{ty:Ty}{p:Pv}{d:TypeDesc}(e:kindOf d=ty.kind)(a:Nat.beq p.kind ty.kind=true):MapKept.IsKey d p.val:=by
 have a:=Qa a;rw[<-e]at a;cases p with
 | bool b=>cases d<;>simp[Pv.kind,kindOf]at a<;>first | trivial | (rename_i k;cases k<;>simp[uQ]at a)
 | str s=>cases d<;>simp[Pv.kind,kindOf]at a<;>first | trivial | (rename_i k;cases k<;>simp[uQ]at a)
 | int k n=>cases d<;>simp[Pv.kind,kindOf]at a<;>first | (rename_i c;cases k<;>cases c<;>first | rfl | simp[uQ]at a) | (cases k<;>simp[uQ]at a)
theorem aBD {d:TypeDesc}{p q:Pv}(b:MapKept.IsKey d p.val)(a:MapKept.IsKey d q.val):Instr.sameNow d p.val q.val=some (Pv.beq p q):=by
 cases p<;>cases q<;>cases d<;>simp_all [MapKept.IsKey,Instr.sameNow,Pv.val,Pv.beq,kEq]
 ·rename_i s u;rw[Qba,MapKept.bytes_beq,Vt]
  grind
def D9 {V:Type}(k:Pv):List (Pv×V)->Option (Nat×V)
 | []=>none
 | p::r=>if Pv.beq k p.1 then some (0,p.2)else(D9 k r).map fun q=>(q.1+1,q.2)
theorem PU {V:Type}(k:Pv):∀a:List (Pv×V),AU k a=(D9 k a).map (·.2)
 | []=>rfl
 | p::r=>by
  unfold AU D9;split
  ·rfl
  ·rw[PU k r];cases D9 k r<;>rfl
theorem ahL {V:Type}{k:Pv}:∀{c:List (Pv×V)} {q:Nat×V},D9 k c=some q->∃p∈c,p.2=q.2
 | [],q,a=>by cases a
 | p::r,q,a=>by
  unfold D9 at a;split at a
  ·grind
  ·cases b:D9 k r with
   | none=>grind
   | some g=>
    rw[b]at a;injection a with a
    subst a;obtain⟨d,f,e⟩:=ahL b
    grind
theorem VD {V:Type}{f:V->Value}{d:TypeDesc}{k:Pv}(c:MapKept.IsKey d k.val):∀(b:List MapEntry) (a:List (Pv×V)) (i:Nat),b.map (fun e=>(e.key,e.val))=a.map (fun p=>(p.1.val,f p.2))->(∀p∈a,MapKept.IsKey d p.1.val)->
  Instr.findNow d k.val b i=some ((D9 k a).map fun q=>(i+q.1,f q.2))
 | [],[],_,_,_=>rfl
 | e::b,p::a,i,h,g=>by
  simp only[Lj,Qdv,Qbw]at h;unfold Instr.findNow D9;rw[h.1.1,aBD c (g p kM)];cases l:Pv.beq k p.1 with
  | true=>simp[h.1.2]
  | false=>
   simp only[VD c b a (i+1) h.2 fun q j=>g q (by simp[j])];cases D9 k a with
   | none=>simp
   | some q=>simp;omega
 | [],_::_,_,h,_=>by simp at h
 | _::_,[],_,h,_=>by simp at h
theorem Qv {V:Type}{k:Pv}{v:V}:∀{a:List (Pv×V)},D9 k a=none->OD k v a=a++[(k,v)]
 | [],_=>rfl
 | p::r,h=>by
  unfold D9 at h;unfold OD;split at h
  ·cases h
  ·rename_i b;rw[kT b,Qv qbr];rfl
theorem abg {V:Type}{k:Pv}{v:V}:∀{a:List (Pv×V)} {j:Nat} {u:V},D9 k a=some (j,u)->∃p,a[j]? =some p/\p.1=k/\OD k v a=a.set j (k,v)
 | [],_,_,h=>by cases h
 | p::r,j,u,h=>by
  unfold D9 at h;unfold OD;split at h
  ·rename_i b;injection h with h
   injection h with d e
   subst d;have:=Pv.beq_eq b
   grind
  ·rename_i b;cases c:D9 k r with
   | none=>grind
   | some q=>
    rw[c]at h;simp only[ZR,TC,Qbw]at h;obtain⟨rfl,rfl⟩:=h;obtain⟨f,d,e,g⟩:=abg (v:=v) (j:=q.1) (u:=q.2) c
    grind
theorem age {x:Sl D}{p:Pv}{v:Value}{M:Nat->Prop}{g:Nat->Option Value}(h:aAo x=some p)(a:x.Rel S M w g v):v=p.val/\p.fits:=by
 unfold aAo at h;split at h
 ·exact V4 h a
 ·cases h
theorem aqh {a:Bool}{x:Sl D}{d:List Pv}{v:Value}{M:Nat->Prop}{g:Nat->Option Value}(h:atW a x=some d)(f:x.Rel S M w g v):v=uq a d/\∀p∈d,p.fits:=by
 unfold atW at h;split at h
 ·split at h
  ·cases h
  ·rename_i b;have b:a=false:=by simpa using b
   subst b;split at h
   ·rename_i p i;injection h with h
    subst h;obtain⟨c,e⟩:=V4 i f;exact⟨c,fun x k=>by grind⟩
   ·cases h
 ·split at h
  ·rename_i b;subst b;obtain⟨l,rfl,j⟩:=f;obtain⟨c,e⟩:=UG h j;exact⟨by rw[c];rfl,e⟩
  ·cases h
 ·cases h
theorem abb {t:TypeId}{a:Ty}{k v:TypeId}(h:eP P t a)(c:a.mp=some (k,v))(b:a.kind=0):P.underlying t=some (.map k v):=by
 obtain⟨i,d,z,lt,_,e,_,rfl⟩:=nP h;dsimp only at c b;cases d<;>simp[ano,kindOf]at c b
 grind
theorem asA {t:TypeId}{a:Ty}{k v:TypeId}(h:eP P t a)(c:a.mp=some (k,v))(b:a.kind=6):P.underlying t=some (.pointer k):=by
 obtain⟨i,d,z,lt,_,e,_,rfl⟩:=nP h;dsimp only at c b;cases d<;>simp[ano,kindOf]at c b
 grind
theorem Pv.ZM {p:Pv}{M:Nat->Prop}{g:Nat->Option Value}(a:p.fits):(Pv.lf (D:=D) p).Rel S M w g p.val:=by
 cases p with
 | bool b=>rfl
 | int k n=>rfl
 | str s=>exact⟨rfl,a⟩
theorem Pv.apq {M:Nat->Prop}{g:Nat->Option Value}:∀{a:List Pv},(∀p∈a,p.fits)->bf S M w g (a.map (Pv.lf (D:=D))) (a.map Pv.val)
 | [],_=>trivial
 | p::a,h=>⟨Pv.ZM (h p kM),Pv.apq fun q b=>h q (by simp[b])⟩
theorem aAD {p:Pv}{v:Value}(h:aFC p v=true):v=p.val/\p.fits:=by
 unfold aFC at h;split at h
 ·simp at h;subst h;exact⟨rfl,trivial⟩
 ·simp only[kEq,jA,Vt]at h;obtain⟨rfl,rfl⟩:=h;exact⟨rfl,trivial⟩
 ·rename_i s u;simp only[jA,List.isEmpty_iff]at h;obtain⟨rfl,a⟩:=h;have a:=Qa a;have:u.data= #[]:=Array.eq_empty_of_size_eq_zero a;refine⟨?_,by simp[Pv.fits]⟩;show Value.string u=Value.string ⟨#[]⟩
  rw[<-this]
 ·cases h
theorem aa9:∀{a:List Pv} {b:List Value},adl a b=true->b=a.map Pv.val/\∀p∈a,p.fits
 | [],[],_=>⟨rfl,fun p c=>by simp at c⟩
 | p::a,v::b,h=>by
  simp only[adl,jA]at h;obtain⟨d,e⟩:=aAD h.1;obtain⟨g,f⟩:=aa9 h.2
  grind
 | [],_::_,h=>by cases h
 | _::_,[],h=>by cases h
theorem XX:∀{a b:List Pv},U7 a b=true->a.map Pv.kind=b.map Pv.kind
 | [],[],_=>rfl
 | p::a,q::b,h=>by
  simp only[U7,jA]at h;simp[Qa h.1,XX h.2]
 | [],_::_,h=>by cases h
 | _::_,[],h=>by cases h
theorem aFs (f:iZ S)(h:Hp S w0 N blk g al w){t:TypeId}{x:Sl D}{v:Value}{m:Mp D}(a:mapOf S blk t x=some m)(e:x.Rel S (aY N blk g) w g v):aB1 S m/\ayj w m.agg m.kvs v:=by
 unfold mapOf at a;split at a
 ·rename_i l;have e:g l=some v:=e;split at a
  ·rename_i d i;obtain⟨u,b,k,r,y,n,c,s,rfl,_,q,A⟩:=h.dD l _ i;rw[a]at c;injection c with c
   subst c;rw[e]at b;injection b with b
   exact⟨(f.zJ _ _ a).2.2,s, .inr ⟨r,y,n,b,q,A⟩⟩
  ·rename_i d i;obtain⟨u,b,j⟩:=h.dD l _ i;rw[e]at b;injection b with b
   subst b;exact⟨(f.zJ _ _ a).2.2,dF.map j a⟩
  ·cases a
 ·exact⟨(f.zJ _ _ a).2.2,dF.map e a⟩
 ·split at a
  ·rename_i d j;obtain⟨k,c,z⟩:=f.ayW _ _ j;rw[a]at c;injection c with c
   subst c;refine⟨(f.zJ _ _ a).2.2,?_⟩;rw[z];exact⟨fun p o=>by simp at o, .inl ⟨e,rfl⟩⟩
  ·cases a
 ·cases a
theorem afm {t:TypeId}{x M:Operand}{E:Bool}(hS:iZ S)(ho:o.op= .lookup t x M E)(O:∀t ty,T t=some ty->eP P t ty)(h:Hp S w0 N blk g al w)(hx:(aG slot x).Rel S (aY N blk g) w g (a.eval x))
  (hi:(aG slot M).Rel S (aY N blk g) w g (a.eval M)) (b:Ue T S blk t (aG slot x) (aG slot M) E=some out) (hK:Post S w0 N blk g al w fr out o.dst a K):o.wp P a w K Q:=by
 unfold Ue at b;split at b
 ·cases b
 rename_i ty hty;split at b
 ·cases b
 rename_i I vt hmp;split at b
 ·rename_i tk tv htk htv;split at b
  ·rename_i m k hmo hk;split at b
   ·rename_i hc;simp only[jA,Vt]at hc;obtain⟨⟨c0,c1⟩,c2,W,c4⟩:=hc;have zU:=abb (O _ _ hty) hmp (Qa c0);obtain⟨d,hd,ac⟩:=oz (O _ _ htk);have R:=afq (t:=I) (ty:=tk) ac c1;obtain⟨Y,hkf⟩:=age hk hi;obtain⟨H,hfits,am⟩:=aFs hS h hmo hx;have c2':=Qa c2;have ag:∀p∈m.kvs,MapKept.IsKey d p.1.val:=fun p j=>afq (t:=I) (ty:=tk) ac (by rw[H.keys p j];exact c2)
    have aa:k.kind=m.kind:=by simp_all
    have C:=H.has k aa;have i:=H.get k aa;obtain⟨z,hz,hzc,F⟩:=ajC (O _ _ htv) w;obtain⟨G,z2⟩:=aa9 c4;have hzv:∀p,m.get k=m.zero.map Pv.lf->(m.agg=true\/m.zero=[p])->z=uq m.agg m.zero:=by
     intro p _ j;rw[<-hzc]at G;cases l:m.agg with
     | true=>
      rw[l]at W;rw[<-W]at F;cases z<;>first | (simp[Bj]at F;done) | skip
      rename_i cs;simp only[Value.cells]at G;show Value.agg cs=Value.agg (m.zero.map Pv.val).toArray
      rw[<-G]
     | false=>
      rw[l]at W j;rw[<-W]at F;have j:=j.resolve_left kM;rw[j]at G⊢;cases z<;>first | (simp[Bj]at F;done) | (simp[Value.cells]at G;exact G)
    have run:∀(f:List Pv),(AU k m.kvs).getD m.zero=f->(m.agg=true\/∃p,f=[p])->(Instr.lookup t (a.eval x) (a.eval M) E).run P w= .ok (if E then .tuple #[uq m.agg f, .bool (m.has k)]else uq m.agg f) w/\∀p∈f,p.fits:=by
     intro f c j;have L:∀(A:Array MapEntry),A.toList.map (fun e=>(e.key,e.val))=m.kvs.map (fun p=>(p.1.val,uq m.agg p.2))->((do
       Instr.checkKey A.isEmpty 10000 I k.val
       let (v,ok')<-match<-Instr.findKey I k.val A.toList with
        | some (_,v)=>pure (v,true)
        | none=>pure (<-zeroValue vt,false)
       pure (if E then .tuple #[v, .bool ok']else v)):Sem Value).run P w= .ok (if E then .tuple #[uq m.agg f, .bool (m.has k)]else uq m.agg f) w:=by
      intro A he;have hf:(Instr.findKey I k.val A.toList).run P w= .ok ((D9 k m.kvs).map fun q=>(0+q.1,uq m.agg q.2)) w:=MapKept.run_findKey hd (VD R A.toList m.kvs 0 he ag);have hck:=MapKept.run_checkKey (P:=P) (w:=w) hd R A.isEmpty 9999;rw[PU]at C c i;cases V:D9 k m.kvs with
      | some q=>
       simp_all
      | none=>
       rw[V]at hf C c i;simp only[Qcm,Option.getD_none,Option.isSome_none]at c C i;have hzz:z=uq m.agg m.zero:=by
        rcases j with j | ⟨p,j⟩
        ·exact hzv (.bool false) i (.inl j)
        grind
       simp_all
     refine⟨?_,?_⟩
     ·rcases am with⟨hv,ad⟩ | ⟨r,A,n,hv,hh,he⟩
      ·have U:=L #[] (by rw[ad];rfl);rw[<-U,hv,Y];simp[Instr.lookup,run_underlying zU];rfl
      ·have U:=L A he;rw[<-U,hv,Y];simp[Instr.lookup,run_underlying zU,MapKept.run_getObj_map hh];rfl
     ·rw[PU]at c;cases V:D9 k m.kvs with
      | some q=>
       rw[V]at c;obtain⟨p,h1,U⟩:=ahL V
       grind
      | none=>
       grind
    have X:∀(y:Sv D) (f:List Pv),(AU k m.kvs).getD m.zero=f->(m.agg=true\/∃p,f=[p])->((∀p∈f,p.fits)->y.Rel S (aY N blk g) w g (uq m.agg f))->
      (if E then some (⟨none, .wU [y, .lf (.bool (m.has k))],[]⟩:Out D)else some ⟨none, .one y,[]⟩)=some out->o.wp P a w K Q:=by
     intro y f c j hy s;obtain⟨u,B⟩:=run f c j;have Z:=hy B;split at s
     ·rename_i J;injection s with s
      subst s;rw[nI J]at u;refine bg (v:= .tuple #[uq m.agg f, .bool (m.has k)]) ?_ h hK rfl ⟨[_,_],rfl,Z,rfl,trivial⟩;simp[execOp,ho,u]
     ·rename_i J;injection s with s
      subst s;rw[kT J]at u;refine bg (v:=uq m.agg f) ?_ h hK rfl Z;simp[execOp,ho,u]
    split at b
    ·rename_i l;refine X (.agg (m.get k)) _ rfl (.inl l) (fun B=> ?_) b;rw[l,i];exact⟨_,rfl,Pv.apq B⟩
    ·rename_i y l ab;rw[i]at ab;have c:∃p,(AU k m.kvs).getD m.zero=[p]:=by
      cases hl:(AU k m.kvs).getD m.zero with
      | nil=>grind
      | cons p r=>
       simp_all
     obtain⟨p,c⟩:=c;rw[c]at ab;have hye:y=Pv.lf p:=by grind
     subst hye;refine X (.lf (Pv.lf p)) [p] c (.inr ⟨p,rfl⟩) (fun B=> ?_) b;rw[l];exact Pv.ZM (B p kM)
    ·cases b
   ·cases b
  ·cases b
 ·cases b
theorem LZ {t:TypeId}{x G y:Operand}(hS:iZ S)(J:o.op= .mapUpdate t x G y\/o.op= .insert t x G y)(V:∀t ty,T t=some ty->eP P t ty)(h:Hp S w0 N blk g al w)(D:(aG slot x).Rel S (aY N blk g) w g (a.eval x))
  (hi:(aG slot G).Rel S (aY N blk g) w g (a.eval G)) (hy:(aG slot y).Rel S (aY N blk g) w g (a.eval y)) (b:IM T S blk t (aG slot x) (aG slot G) (aG slot y)=some out) (hK:Post S w0 N blk g al w fr out o.dst a K):o.wp P a w K Q:=by
 unfold IM at b;split at b
 ·cases b
 rename_i ty aa;split at b
 ·cases b
 rename_i kt vt hmp;split at b
 rotate_left
 ·cases b
 rename_i tk htk;split at b
 rotate_left
 ·cases b
 rename_i l k ac hk;rw[ac]at D;have D:g l=some (a.eval x):=D;split at b
 rotate_left
 ·cases b
 rename_i d0 hb;split at b
 rotate_left
 ·cases b
 rename_i m W;split at b
 rotate_left
 ·cases b
 rename_i u hu;split at b
 rotate_left
 ·cases b
 rename_i hc;injection b with b
 subst b;simp only[jA]at hc;obtain⟨⟨c0,c1⟩,c2,c3⟩:=hc;have zU:=abb (V _ _ aa) hmp (Qa c0);obtain⟨d,hd,X⟩:=oz (V _ _ htk);have B:=afq (t:=kt) (ty:=tk) X c1;have L:=(hS.zJ _ _ W).2.2;have Z:∀p∈m.kvs,MapKept.IsKey d p.1.val:=fun p hp=>afq (t:=kt) (ty:=tk) X (by rw[L.keys p hp];exact c2)
 have I:k.kind=m.kind:=by simp_all
 obtain⟨m',hm',aIp,aJN⟩:=L.put k u I (XX c3);obtain⟨aB9,hkf⟩:=age hk hi;obtain⟨ad,huf⟩:=aqh hu hy;obtain⟨v',f,m2,r,c,n,C,hf,rfl,JK,E,H⟩:=h.dD l _ hb;rw[W]at C;injection C with C
 subst C;rw[D]at f;injection f with f
 have s:=MapKept.run_findKey (P:=P) (w:=w) hd (VD B c.toList m.kvs 0 H Z);have U:=MapKept.run_checkKey (P:=P) (w:=w) hd B false 9999;have M:∀(z:Array MapEntry) (F:Nat),(Instr.mapUpdate t (.map (some r)) k.val (uq m.agg u)).run P w= .ok () {w with heap:=w.heap.setIfInBounds r (.map z F)}->z.toList.map (fun e=>(e.key,e.val))=(OD k u m.kvs).map (fun p=>(p.1.val,uq m.agg p.2))->(∀p∈OD k u m.kvs,p.1.fits/\∀x∈p.2,x.fits)->o.wp P a w K Q:=by
  intro z F Y he' hf';obtain⟨q1,q2⟩:=MapKept.heap_set (o':=Obj.map z F) E;obtain⟨R,hk'⟩:=h.write (w':={w with heap:=w.heap.setIfInBounds r (.map z F)}) (bk':= .map (m.put k u)) hb rfl rfl D (by rw[f];rfl) rfl rfl rfl kM (fun m hm=>q2 m hm)
   (fun _=>⟨m',r,z,F,hm',by rw[aIp];exact hf',f,JK,q1,by grind⟩)
  refine Nb ?_ (hK _ _ _ (More.refl _) hk' (R.weaken fun _ h=> .inl h) trivial);rcases J with J | J<;>simp[execOp,J,f,aB9,ad,Y]
 cases A:D9 k m.kvs with
 | none=>
  rw[A]at s;refine M (c.push {key:=k.val,val:=uq m.agg u,born:=n}) (n+1) ?_ ?_ ?_
  ·simp only[Qcm]at s;simp[Instr.mapUpdate,run_underlying zU,MapKept.run_getObj_map E,U,s,MapKept.run_setObj_map _ E]
  ·rw[Qv A];simp[H]
  ·rw[Qv A];intro p hp
   grind
 | some q=>
  rw[A]at s;obtain⟨p,hp1,hp2,O⟩:=abg (v:=u) (j:=q.1) (u:=q.2) A;have hlen:c.toList.length=m.kvs.length:=by have:=Ll List.length H;grind
  have ab:q.1 < c.size:=by
   grind
  have hej:c[q.1]? =some c[q.1]:=Array.getElem?_eq_getElem ab;have I:c[q.1].key=k.val:=by
   have h1:(c.toList.map (fun e=>(e.key,e.val)))[q.1]? =(m.kvs.map fun p=>(p.1.val,uq m.agg p.2))[q.1]? :=by rw[H]
   grind
  refine M (c.modify q.1 fun e=>{e with key:=k.val,val:=uq m.agg u}) n ?_ ?_ ?_
  ·simp only[ZR,zM]at s;simp[Instr.mapUpdate,run_underlying zU,MapKept.run_getObj_map E,U,s,hej,I,MapKept.run_keyThatStays B,MapKept.run_setObj_map _ E]
  ·rw[O];refine List.ext_getElem? fun i=> ?_;have h1:(c.toList.map (fun e=>(e.key,e.val)))[i]? =(m.kvs.map fun p=>(p.1.val,uq m.agg p.2))[i]? :=by rw[H]
   grind
  ·rw[O];intro p' R
   grind
theorem amb (a:List Int):∀(b:ByteArray),a.foldl (fun r n=>r.push (UInt8.ofNat n.toNat)) b=⟨(b.data.toList++a.map fun n=>UInt8.ofNat n.toNat).toArray⟩:=by
 induction a with
 | nil=>intro b;simp
 | cons n a c=>
  simp_all
theorem adr {f:Nat->Bool}:∀{n:Nat},TG f n=true->∀i,i < n->f i=true
 | 0,_,i,a=>by omega
 | n+1,h,i,a=>by
  simp only[TG,jA]at h;by_cases e:i=n
  ·grind
  ·exact adr h.2 i au
theorem ahH {d:D}{n:Nat}(h:MZ S d n=true)(i:Nat)(a:i < n):∃k,S.cell d i 0= .int .u8 k:=by
 have:=adr h i a;unfold aH_ at this
 grind
theorem asi {d:D}{n:Nat}(h:afA S d n=true)(i:Nat)(a:i < n):∃k,S.cell d i 0= .int .u8 k/\0<=k/\k < 256:=by
 have:=adr h i a;unfold axW at this
 grind
theorem ace {f g:Nat->Bool}(h:∀i,f i=true->g i=true):∀{n:Nat},TG f n=true->TG g n=true
 | 0,_=>rfl
 | n+1,a=>by
  simp only[TG,jA]at a⊢;exact⟨h n a.1,ace h a.2⟩
theorem aju {d:D}{n:Nat}(h:afA S d n=true):MZ S d n=true:=
 ace (fun i a=>by
  unfold axW at a;split at a
  ·rename_i k b;rw[b];rfl
  ·cases a) h
theorem Xu {d:D}{a:List Value}{M:Nat->Prop}{g:Nat->Option Value}(h:S.size d=1)(m:MZ S d (S.len d)=true)(p:a.length=S.len d*S.size d)
  (q:∀i j,i < S.len d->j < S.size d->∃u,a[i*S.size d+j]? =some u/\(S.cell d i j).Rel S M w g u):∃f:List Int,a=f.map (Value.int .u8)/\f.map (fun n=>UInt8.ofNat n.toNat)=bytesOf S d:=by
 rw[h,Qed]at p;have l:∀i,i < S.len d->∃k,S.cell d i 0= .int .u8 k/\a[i]? =some (.int .u8 k):=fun i b=>by
  obtain⟨k,c⟩:=ahH m i b;obtain⟨u,o,e⟩:=q i 0 b au;rw[c]at e;rw[h,Qed,Qb]at o;have e:u= .int .u8 k:=e
  grind
 refine⟨(List.range (S.len d)).map fun i=>match S.cell d i 0 with
  | .int .u8 n=>n
  | _=>0,?_,?_⟩
 ·refine List.ext_getElem? fun i=> ?_
  grind
 ·unfold bytesOf;rw[Qcy];refine Qbb fun i b=> ?_;obtain⟨k,c,_⟩:=l i (Qcv.1 b);simp[c,aGR]
theorem akX {t j:TypeId}{x:Operand}(hS:iZ S)(R:o.op= .convert t j x)(s:∀t L,T t=some L->eP P t L)(h:Hp S w0 N blk g al w)(f:(aG slot x).Rel S (aY N blk g) w g (a.eval x))
  (b:YZ T S blk t j (aG slot x)=some out) (D:nH out.pre) (U:Post S w0 N blk g al w fr out o.dst a K):o.wp P a w K Q:=by
 unfold YZ at b;split at b
 ·rename_i ts td V M;split at b
  ·cases b
  rename_i e ab;split at b
  ·cases b
  rename_i te ac;have C:=lF (s _ _ V) ab;split at b
  ·rename_i B;simp only[jA]at B;obtain⟨H,F,c3⟩:=B;have H:=Qa H;have F:=Qa F;obtain⟨dd,n,y⟩:=oz (s _ _ M);obtain⟨de,m,r⟩:=oz (s _ _ ac);have n:P.underlying j=some .string:=by
    rw[H]at y;cases dd<;>simp[kindOf]at y<;>first | exact n | (rename_i k;cases k<;>simp[uQ]at y)
   have m:P.underlying e=some (.int .u8):=by
    rw[F]at r;cases de<;>simp[kindOf]at r<;>(rename_i k;cases k<;>simp[uQ]at r;exact m)
   split at b
   ·rename_i i;rw[i]at f;have f:a.eval x= .slice none 0 0:=f;injection b with b
    subst b;refine bg (v:= .string ⟨#[]⟩) ?_ h U rfl ⟨rfl,by simp⟩;simp only[execOp,R,f,Sem.run_bind,run_convert_bytes_string w t j e none 0 0 C m n];rfl
   ·split at b
    ·rename_i d c;split at b
     ·rename_i B;have hs:=Qa B;injection b with b
      subst b;obtain⟨J,p,G,hv,hl,hmem,A,hone,z⟩:=Kr hS h f c au;obtain⟨W,Y,Z⟩:=Xu hs D hl z;have hlen:(bytesOf S d).length=S.len d:=by simp[bytesOf]
      have hle:S.len d<=9223372036854775807:=by
       unfold Nz at c;split at c
       ·rename_i O i;injection c with c
        subst c;rw[i]at f;exact dF.amN f
       ·rename_i l i;rw[i]at f;have f:g l=some (a.eval x):=f;split at c
        ·rename_i e' O q;injection c with c
         subst c;obtain⟨_,_,I,_⟩:=h.dD l _ q;exact I.2.1
        ·rename_i O q;injection c with c
         subst c;obtain⟨_,_,I⟩:=h.dD l _ q;exact dF.amN I
        ·cases c
       ·cases c
      refine bg (v:= .string ⟨(bytesOf S d).toArray⟩) ?_ h U rfl ⟨rfl,by omega⟩;have aa:=run_convert_bytes_string w t j e J (S.len d) p C m n;have q:(Conv.bytesToString (.slice J (S.len d) p)).run P w= .ok (.string ⟨(bytesOf S d).toArray⟩) w:=by
       cases J with
       | none=>
        have h0:=A rfl;have:bytesOf S d=[]:=Qau au;rw[this];rfl
       | some E=>
        have X:(loadCells E (S.len d)).run P w= .ok (W.map (Value.int .u8)).toArray w:=by
         have:=run_loadCells (P:=P) (w:=w) E G 0 #[] (fun k u hk=>by grind);rw[hl,hs,Qed]at this;simpa[loadCells,Y]using this
        rw[run_bytesToString w E (S.len d) p W X,amb,Z];simp
      simp only[execOp,R,hv,Sem.run_bind,aa,q,Result.andThen_ok,Sem.run_pure]
     ·cases b
    ·cases b
  ·cases b
 ·cases b
theorem ayb {x:Lf D}{p:Dl D}{v:Value}{M:Nat->Prop}{g:Nat->Option Value}(h:x.dl=some p)(a:x.Rel S M w g v):p.Rel S M w v:=by
 unfold Lf.dl at h;split at h<;>first | (injection h with h;subst h;exact a) | cases h
theorem aoR {M:Nat->Prop}{g:Nat->Option Value}:∀{c:List (Lf D)} {a:List (Dl D)} {b:List Value},dls c=some a->bf S M w g c b->wz S M w a b
 | [],a,[],h,_=>by simp[dls]at h;subst h;trivial
 | x::c,a,v::b,h,d=>by
  unfold dls at h;split at h
  ·rename_i p i f e;injection h with h
   subst h;exact⟨ayb f d.1,aoR e d.2⟩
  ·cases h
theorem aaV {M:Nat->Prop}{g:Nat->Option Value}{x:Sl D}{e:Bool}{f:List (Dl D)}{v:Value}(h:ana x=some (e,f))(a:x.Rel S M w g v):QS S M w e f v:=by
 unfold ana at h;split at h
 ·split at h
  ·rename_i p c;injection h with h
   injection h with d b
   subst d b;exact ayb c a
  ·cases h
 ·split at h
  ·rename_i k c;injection h with h
   injection h with d b
   subst d b;obtain⟨j,i,a⟩:=a;exact⟨j,i,aoR c a⟩
  ·cases h
 ·cases h
theorem Dl.ZM {M:Nat->Prop}{g:Nat->Option Value}{p:Dl D}{v:Value}(h:p.Rel S M w v):p.lf.Rel S M w g v:=by
 cases p<;>exact h
theorem axd {M:Nat->Prop}{g:Nat->Option Value}:∀{b:List (Dl D)} {a:List Value},wz S M w b a->bf S M w g (b.map Dl.lf) a
 | [],[],_=>trivial
 | p::b,v::a,h=>⟨Dl.ZM h.1,axd h.2⟩
theorem ahE {M:Nat->Prop}{g:Nat->Option Value}{b:Bool}{c:List (Dl D)}{x:Sl D}{v:Value}(h:aqx b c=some x)(a:QS S M w b c v):x.Rel S M w g v:=by
 unfold aqx at h;split at h
 ·injection h with h
  subst h;exact Dl.ZM a
 ·injection h with h
  subst h;obtain⟨e,d,a⟩:=a;exact⟨e,d,axd a⟩
 ·cases h
theorem ash {t:TypeId}{x:Operand}(k:o.op= .makeInterface t x)(i:∀t c,T t=some c->eP P t c)(h:Hp S w0 N blk g al w)(l:(aG slot x).Rel S (aY N blk g) w g (a.eval x))
  (b:aF4 T t (aG slot x)=some out) (m:Post S w0 N blk g al w fr out o.dst a K):o.wp P a w K Q:=by
 unfold aF4 at b;split at b
 ·cases b
 ·rename_i c j;split at b
  ·cases b
  ·rename_i f;have f:c.kind≠0:=fun e=>f qck
   have d:=run_makeInterface (P:=P) w t (a.eval x) (zV (i _ _ j) f);split at b
   ·rename_i p q n;injection b with b
    subst b;refine bg (v:= .iface t (a.eval x)) ?_ h m rfl ⟨_,rfl,aaV n l⟩;simp[execOp,k,d]
   ·cases b
theorem VV {P:Program}{t:TypeId}{d:Ty}{z:Sv D}{M:Nat->Prop}{g:Nat->Option Value}(h:eP P t d)(a:aey d=some z)(w:World):∃u,(zeroValue t).run P w= .ok u w/\z.Rel S M w g u:=by
 obtain⟨u,i,f,e⟩:=ajC h w;refine⟨u,i,?_⟩;unfold aey at a;split at a
 ·split at a
  ·rename_i b;injection a with a
   subst a;rw[b]at e;cases u<;>simp[Bj]at e
   rename_i cs;refine⟨cs.toList,by simp,?_⟩;have:cs.toList=d.zero:=by rw[<-f];rfl
   rw[this];exact ui _
  ·cases a
 ·split at a
  ·rename_i j c;split at a
   ·cases a
   ·rename_i b;injection a with a
    subst a;have b:d.zag=false:=by simpa using b
    rw[b]at e;rw[<-f]at c;have:u=j:=by cases u<;>first | (simp[Value.cells]at c;exact c) | (simp[Bj]at e)
    subst this;exact Cc _
  ·cases a
theorem Z7 {t O:TypeId}{x:Operand}{G:Bool}(A:o.op= .typeAssert x O t G)(q:∀t s,T t=some s->eP P t s)(h:Hp S w0 N blk g al w)(B:(aG slot x).Rel S (aY N blk g) w g (a.eval x))
  (b:Yg T t (aG slot x) G=some out) (C:Post S w0 N blk g al w fr out o.dst a K):o.wp P a w K Q:=by
 unfold Yg at b;split at b
 ·cases b
 rename_i s k;split at b
 ·cases b
 rename_i F;have F:s.kind≠0:=fun e=>F qck
 have f:=zV (q _ _ k) F;unfold Program.concrete at f;split at b
 ·rename_i H R L m;rw[m]at B;obtain⟨u,l,I⟩:∃u,a.eval x= .iface H u/\QS S (aY N blk g) w R L u:=B;split at b
  ·rename_i y J;have D:y.Rel S (aY N blk g) w g u:=ahE (x:= .one y) J I;cases i:P.underlying t with
   | none=>grind
   | some d=>
    rw[i]at f;split at b
    ·split at b
     ·rename_i c;have c:=Qa c;subst c;injection b with b
      subst b;refine bg (v:= .tuple #[u, .bool true]) ?_ h C rfl ⟨[u, .bool true],rfl,D,rfl,trivial⟩;cases d<;>first | (cases f;done) | simp[execOp,A,Instr.typeAssert,run_underlying i,l]
     ·rename_i j;have j:¬H=t:=fun e=>j (by rw[e];simp)
      split at b
      ·rename_i z E;injection b with b
       subst b;obtain⟨n,p,r⟩:=VV (S:=S) (M:=aY N blk g) (g:=g) (q _ _ k) E w;refine bg (v:= .tuple #[n, .bool false]) ?_ h C rfl ⟨[n, .bool false],rfl,r,rfl,trivial⟩;cases d<;>first | (cases f;done) | simp[execOp,A,Instr.typeAssert,run_underlying i,l,j,p]
      ·cases b
    ·split at b
     ·rename_i c;have c:=Qa c;subst c;injection b with b
      subst b;refine bg (v:=u) ?_ h C rfl D;cases d<;>first | (cases f;done) | simp[execOp,A,Instr.typeAssert,run_underlying i,l]
     ·cases b
  ·cases b
 ·rename_i v m;split at b
  ·split at b
   ·rw[m]at B;have l:a.eval x= .nilIface:=B.1;split at b
    ·split at b
     ·rename_i z E;injection b with b
      subst b;obtain⟨n,p,r⟩:=VV (S:=S) (M:=aY N blk g) (g:=g) (q _ _ k) E w;cases i:P.underlying t with
      | none=>grind
      | some d=>
       rw[i]at f;refine bg (v:= .tuple #[n, .bool false]) ?_ h C rfl ⟨[n, .bool false],rfl,r,rfl,trivial⟩;cases d<;>first | (cases f;done) | simp[execOp,A,Instr.typeAssert,run_underlying i,l,p]
     ·cases b
    ·cases b
   ·cases b
  ·cases b
 ·cases b
theorem aqT {f:FuncId}{first caps:Array Operand}{x:Operand}(d:o.op= .makeFunc (.func f) first caps)(p:first.toList=[x])(m:caps.toList=[])(h:Hp S w0 N blk g al w)(c:(aG slot x).Rel S (aY N blk g) w g (a.eval x))
  (b:aFT f (aG slot x)=some out) (e:Post S w0 N blk g al w fr out o.dst a K):o.wp P a w K Q:=by
 unfold aFT at b;split at b
 ·rename_i l n i;injection b with b
  subst b;have k:first= #[x]:=by grind
  have j:caps= #[]:=by grind
  refine bg (v:= .func (.func f) #[a.eval x] #[]) ?_ h e rfl ⟨_,rfl,aaV i c⟩;simp[execOp,d,Instr.makeFunc,k,j]
 ·cases b
theorem ajX {op:BinOp}{t B:TypeId}{x y:Operand}(s:o.op= .binOp op t x y B)(A:∀t l,T t=some l->eP P t l)(h:Hp S w0 N blk g al w)(c:(aG slot x).Rel S (aY N blk g) w g (a.eval x))
  (i:(aG slot y).Rel S (aY N blk g) w g (a.eval y)) (b:an4 T S op t (aG slot x) (aG slot y)=some out) (z:Post S w0 N blk g al w fr out o.dst a K):o.wp P a w K Q:=by
 unfold an4 at b;split at b
 ·cases b
 rename_i l q;split at b
 ·split at b
  ·rename_i e d C r E;split at b
   ·rename_i p;simp only[jA,Qcd]at p;have k:=lF (A _ _ q) C;rw[r]at c;rw[E]at i;have c:dF S (aY N blk g) w d (a.eval x):=c;have i:a.eval y= .slice none 0 0:=i;obtain⟨F,f,m,D⟩:=dF.slice c au;rw[m]at c;obtain⟨n,rfl⟩:=dF.DN c p.1 p.2;have j:=fun w=>mF (P:=P) (w:=w) (op:=op) (t:=t) (x:=x) (y:=y) (u:= .slice (some n) (S.len d) f) (v:= .slice none 0 0) rfl kM
    split at b
    ·injection b with b;subst b
     refine bg (v:= .bool false) ?_ h z rfl rfl;simp[execOp,s,m,i,j,Lib.run_eql_slice_nil w t e (some n) (S.len d) f 0 0 k]
    ·injection b with b;subst b
     refine bg (v:= .bool true) ?_ h z rfl rfl;simp[execOp,s,m,i,j,run_neq_slice_nil_any w t e (some n) (S.len d) f 0 0 k]
    ·cases b
   ·cases b
  ·cases b
 ·cases b
theorem arB {c:Call}{x:Operand}(q:o.op= .call c)(s:c.callee= .builtin .cap)(y:c.args.toList=[x])(n:∀t i,T t=some i->eP P t i)(h:Hp S w0 N blk g al w)(d:(aG slot x).Rel S (aY N blk g) w g (a.eval x))
  (b:aET T c.argTypes (aG slot x)=some out) (r:Post S w0 N blk g al w fr out o.dst a K):o.wp P a w K Q:=by
 have f:c.args= #[x]:=by grind
 unfold aET at b;split at b
 ·rename_i t u k;have p:c.argTypes= #[t]:=by grind
  rw[k]at d;have d:a.eval x= .slice none 0 0:=d;split at b
  ·rename_i i j;split at b
   ·rename_i e m;have l:=lF (n _ _ j) m;injection b with b
    subst b;refine bg (v:= .int .i64 0) ?_ h r rfl rfl;simp[execOp,q,resolve,s,invoke,builtin,f,p,d,Builtin.cap_,run_underlying l,goInt]
   ·cases b
  ·cases b
 ·cases b
theorem aad {c:Call}{x y:Operand}(U:iZ S)(ho:o.op= .call c)(hc:c.callee= .builtin .append)(hx':c.args.toList=[x,y])(C:∀t W,T t=some W->eP P t W)(h:Hp S w0 N blk g al w)(hfr:∀n,fr<=n->n < fr+64->¬al n)
  (E:(aG slot x).Rel S (aY N blk g) w g (a.eval x)) (D:(aG slot y).Rel S (aY N blk g) w g (a.eval y)) (f:X3 T S fr c.argTypes (aG slot x) (aG slot y)=some out) (hp:nH out.pre) (hK:Post S w0 N blk g al w fr out o.dst a K):o.wp P a w K Q:=by
 have H:c.args= #[x,y]:=by grind
 unfold X3 at f;split at f
 ·rename_i t M k n htt Y FU;have hat:c.argTypes= #[t,M]:=by grind
  rw[Y]at E;rw[FU]at D;have E:a.eval x= .slice none 0 0:=E;have D:a.eval y= .int k n:=D;split at f
  ·rename_i W ti X hti;split at f
   ·rename_i ki e A hel;split at f
    ·rename_i s hte;have Z:=lF (C _ _ X) hel;obtain⟨i,z,hi,hz,q1,q2,q3⟩:=EM (C _ _ hte);obtain⟨dd,V,hkd⟩:=oz (C _ _ hti);have V:P.underlying M=some (.int ki):=by
      rw[<-hkd]at A;cases dd<;>simp[kindOf,ar5]at A
      rw[V,abp A]
     split at f
     ·rename_i I;simp only[jA]at I;have e2:0 < s.size:=by simp_all
      have e3:=Qa I.2;have p:z.cells.size=s.size:=by grind
      split at f
      ·rename_i d J;injection f with f
       subst f;obtain⟨p1,p2,p3⟩:0 < n/\n*s.bytes<=281474976710656/\n<=1099511627776:=hp;obtain⟨r,z2,z3⟩:=U.zero _ _ _ _ J;have q:S.size d=s.size:=by grind
       obtain⟨m,rfl⟩:∃m:Nat,n=(m:Int):=⟨n.toNat,by omega⟩;have B:m*i.bytes<=281474976710656:=by
        grind
       have O:=Lib.run_append_nil_zeros (P:=P) w t M o.type e i z k ki Z V hi hz m au au au B;have G:(execOp a.eval o).run P w= .ok (.value (.slice (some ⟨w.heap.size,0,none⟩) m (grownCap w m 0 e))) (w.drew.alloc (.cells (Builtin.zeroCells z.cells m++Builtin.zeroCells z.cells (grownCap w m 0 e - m)) e)):=by
        simp only[execOp,ho,resolve,hc,invoke,builtin,H,hat,Sem.run_bind,Sem.run_pure,Result.andThen_ok,Qci,Lj,Qc6,E,D,O]
       have hge:=grownCap_ge w m 0 e;have hcm:grownCap w m 0 e<=maxLen:=grownCap_le_maxLen w m 0 e (by simp only[maxLen];omega);have hB:Below w.heap.size w (w.drew.alloc (.cells (Builtin.zeroCells z.cells m++Builtin.zeroCells z.cells (grownCap w m 0 e - m)) e)):=⟨rfl,rfl,rfl,by simp,fun k hk=>Go.heap_alloc_old w.drew _ hk⟩;simp only[uZ]at r z2 z3;obtain⟨g1,g2,g3⟩:=h.add (l:=fr) (bk:= .row e d) (v:= .slice (some ⟨w.heap.size,0,none⟩) m (grownCap w m 0 e)) hB (hfr fr (rC _) au) (fun b B=>by simp[eH]at B;omega)
        (fun M' hk _=>by
         refine⟨⟨fun b B=> .inl ?_,by rw[r];omega,U.amO _ _ _ _ J⟩,(Builtin.zeroCells z.cells m).toList,⟨?_, .inr ⟨w.heap.size,grownCap w m 0 e,_,by rw[r],Jd _,heap_alloc_new w.drew _,by omega,hcm,?_,?_⟩⟩,fun i' j u F=> ?_⟩
         ·simp only[eH,TC]at B;have:=h.below.size;omega
         ·rw[Qc8,size_zeroCells,p,r,q]
         ·simp only[Array.size_append,size_zeroCells,p,q,<-Qdx]
          grind
         ·rw[Qcw,List.take_left' (by rw[Qc8,size_zeroCells,p,r,q])]
         ·rw[r]at u;obtain⟨x0,L,aa⟩:=z3 i' j u F;have hlt:=vH u F;have ab:j < z.cells.size:=by omega
          have hzj:s.zero[j]? =some z.cells[j]:=by grind
          refine⟨z.cells[j],?_,U.data _ _ _ au F,aa.rel ?_⟩
          ·have R:(i'*S.size d+j) % z.cells.size=j:=by rw[p,<-q,Qb0,Qeg,Qcs F]
           rw[Qh qg,R];simp[ab]
          ·simp only[Qb4,hzj,ZR,TC]at L;rw[<-L];exact(Cc _).norm)
       exact lL G (hK _ _ _ g3 g2 (g1.weaken Xy) (upd_same _ _ _))
      ·cases f
     ·cases f
    ·cases f
   ·cases f
  ·cases f
 ·cases f
theorem Z8 {c:Call}{x y:Operand}(X:o.op= .call c)(Z:c.callee= .builtin .append)(hx':c.args.toList=[x,y])(A:∀t B,T t=some B->eP P t B)(h:Hp S w0 N blk g al w)
  (j:(aG slot x).Rel S (aY N blk g) w g (a.eval x)) (r:(aG slot y).Rel S (aY N blk g) w g (a.eval y)) (f:CQ T S blk c.argTypes (aG slot x) (aG slot y)=some out) (s:Post S w0 N blk g al w fr out o.dst a K):o.wp P a w K Q:=by
 have u:c.args= #[x,y]:=by grind
 unfold CQ at f;split at f
 ·rename_i t t' htt Y;split at f
  ·rename_i F;have F:=Qa F;subst F;have V:c.argTypes= #[t,t]:=by grind
   rw[Y]at r;have r:a.eval y= .slice none 0 0:=r;split at f
   ·cases f
   rename_i B I;split at f
   ·cases f
   rename_i e O;split at f
   ·cases f
   rename_i te M;have J:=lF (A _ _ I) O;obtain⟨i,z,hi,hz,q1,q2,q3⟩:=EM (A _ _ M);have p:∀(b:Option Addr) (n q:Nat),a.eval x= .slice b n q->n<=q->(execOp a.eval o).run P w= .ok (.value (a.eval x)) w:=by
    intro b n q C R;have:(Builtin.append_ #[t,t] o.type #[.slice b n q, .slice none 0 0]).run P w= .ok (.slice b n q) w:=by
     cases b<;>simp[Builtin.append_,run_underlying J,sizeOf,typeInfo,hi,Builtin.lenOf,Builtin.firstCells,R,storeCells]
    simp only[execOp,X,resolve,Z,invoke,builtin,u,V,Sem.run_bind,Sem.run_pure,Result.andThen_ok,Qci,Lj,Qc6,C,r,this]
   split at f
   ·rename_i k;rw[k]at j;injection f with f
    subst f;exact bg (v:=a.eval x) (p none 0 0 j (rC _)) h s rfl j
   ·rename_i d k;rw[k]at j;split at f
    ·rename_i hzz;injection f with f
     subst f;obtain⟨av,H,C,D⟩:=dF.slice j (by simp_all);exact bg (v:=a.eval x) (p av _ H C D) h s rfl j
    ·cases f
   ·rename_i l k;rw[k]at j;split at f
    ·rename_i e' d W;injection f with f
     subst f;have j:g l=some (a.eval x):=j;obtain⟨v,m,_,xs,⟨_,G⟩,_⟩:=h.dD l _ W;rw[j]at m;injection m with m
     rcases G with⟨h0,hn0⟩ | ⟨b,E,cur,U,_,_,L,_⟩
     ·exact bg (v:=a.eval x) (p none 0 0 (by rw[m,h0]) (rC _)) h s rfl j
     ·exact bg (v:=a.eval x) (p _ _ E (by rw[m,U]) L) h s rfl j
    ·cases f
   ·cases f
  ·cases f
 ·cases f
theorem adp {t:TypeId}{x:Operand}{J hi:Option Operand}(r:iZ S)(U:o.op= .slice t x J hi none)(A:∀t B,T t=some B->eP P t B)(h:Hp S w0 N blk g al w)
  (E:∀x:Operand,(aG slot x).Rel S (aY N blk g) w g (a.eval x)) (b:Uz T S blk t (aG slot x) (J.map (aG slot)) (hi.map (aG slot))=some out) (X:nH out.pre) (V:Post S w0 N blk g al w fr out o.dst a K):o.wp P a w K Q:=by
 have p:=E x;unfold Uz at b;split at b
 ·cases b
 rename_i B M;split at b
 ·split at b
  ·rename_i l e hl Y;split at b
   ·cases b
   rename_i te Z;have y:=lF (A _ _ M) Y;have z:=mg (A _ _ Z) w;split at b
   ·rename_i q R;rw[R]at p;have p:g q=some (a.eval x):=p;split at b
    ·rename_i e' d C;split at b
     ·rename_i u;simp only[jA]at u;have I:=Qa u.1;split at b
      ·rename_i hh s;split at b
       ·rename_i d' i;injection b with b
        subst b;obtain⟨G,F,H⟩:=X;obtain⟨D,O,_,_⟩:=Hp.Jf r [q] blk kM h;have W:[q].filterMap (jl blk)=[(q,some (.xZ d))]:=by simp[jl,C,rwD]
        rw[W]at D O;obtain⟨v,f,c⟩:=D.dD q (.xZ d) (by simp[kY,upd_same]);rw[p]at f;injection f with f
        subst f;have c:dF S _ w d (a.eval x):=c;obtain⟨av,L,m,j⟩:=dF.slice' c (r.Ht _ _ _ _ i).1;rw[m]at c;have k:=IC r c i au au;exact lL (LG U y z m j E hl s I G F H) (V _ w g (More.refl _) O (D.weaken fun n hn=> .inl hn) k)
       ·cases b
      ·cases b
     ·cases b
    ·rename_i d C;split at b
     ·rename_i u;simp only[jA]at u;have I:=Qa u.1;split at b
      ·rename_i hh s;split at b
       ·rename_i d' i;injection b with b
        subst b;obtain⟨G,F,H⟩:=X;obtain⟨v,f,c⟩:=h.dD q (.xZ d) C;rw[p]at f;injection f with f
        subst f;have c:dF S _ w d (a.eval x):=c;obtain⟨av,L,m,j⟩:=dF.slice' c (r.Ht _ _ _ _ i).1;rw[m]at c;have k:=IC r c i au au;exact bg (v:=_) (LG U y z m j E hl s I G F H) h V rfl k
       ·cases b
      ·cases b
     ·cases b
    ·cases b
   ·cases b
  ·cases b
 ·cases b
theorem agt {t e:TypeId}{x m q:Operand}{h s n c:Nat}{g:Option Addr}{f d:IntKind}{b:Int}(u:o.op= .slice t x none (some m) (some q))(i:P.underlying t=some (.slice e))(j:(sizeOf e).run P w= .ok h w)(r:a.eval x= .slice g n c)(A:n<=c)
  (B:a.eval m= .int f b) (y:a.eval q= .int d b) (z:h=s) (C:0<=b) (D:b<=n):(execOp a.eval o).run P w= .ok (.value (sliced g 0 b.toNat b.toNat s)) w:=by
 have l:P.elem t=e:=by simp[Program.elem,i]
 have p:P.underlying t=some (.slice (P.elem t)):=by grind
 have k:(execOp a.eval o).run P w=((Instr.slice t (.slice g n c) none (some (.int f b)) (some (.int d b))).run P w).andThen fun v w=> .ok (.value v) w:=by
  simp[execOp,u,r,B,y,run_sliceAt_slice w t _ _ _ _ p]
 rw[k,run_slice_hm w t _ _ _ p f d b b C (ZU _) au,l,j,<-z];rfl
theorem aej {t:TypeId}{x A:Operand}{H R:Option Operand}(i:iZ S)(ho:o.op= .slice t x H R (some A))(F:∀t G,T t=some G->eP P t G)(h:Hp S w0 N blk g al w)
  (L:∀x:Operand,(aG slot x).Rel S (aY N blk g) w g (a.eval x)) (b:Ux T S blk t (aG slot x) (H.map (aG slot)) (R.map (aG slot)) (aG slot A)=some out) (hp:nH out.pre) (hK:Post S w0 N blk g al w fr out o.dst a K):o.wp P a w K Q:=by
 have f:=L x;unfold Ux at b;split at b
 ·rename_i kh r km m C hhi Z;have C:H=none:=by simp_all
  obtain⟨D,rfl,aJv⟩:∃h',R=some h'/\aG slot h'= .one (.lf (.int kh r)):=by
   simp_all
  subst C;have e1:a.eval D= .int kh r:=by have:=L D;rw[aJv]at this;exact this
  have Y:a.eval A= .int km m:=by have:=L A;rw[Z]at this;exact this
  split at b
  ·cases b
  rename_i G W;split at b
  ·cases b
  rename_i e hel;split at b
  ·cases b
  rename_i te hte;have B:=lF (F _ _ W) hel;have E:=mg (F _ _ hte) w;split at b
  ·rename_i d u;rw[u]at f;split at b
   ·rename_i z;simp only[jA]at z;have O:=Qa z.1;split at b
    ·rename_i d' c;injection b with b
     subst b;obtain⟨U,J,M⟩:=hp;subst J;have f:dF S _ w d (a.eval x):=f;obtain⟨av,V,s,k⟩:=dF.slice' f (i.Ht _ _ _ _ c).1;rw[s]at f;have l:=(i.sub _ _ _ _ c (Jd _) (show r.toNat<=S.len d by omega)).2.1;have y:=IC i f c (Jd _) (show r.toNat<=S.len d by omega);refine bg (v:=_) (agt ho B E s k e1 Y O U M) h hK rfl ?_;exact ao9 i f c au l
    ·cases b
   ·cases b
  ·rename_i q u;rw[u]at f;have f:g q=some (a.eval x):=f;split at b
   ·rename_i e' d hb;split at b
    ·rename_i z;simp only[jA]at z;have O:=Qa z.1;split at b
     ·rename_i d' c;injection b with b
      subst b;obtain⟨U,J,M⟩:=hp;subst J;obtain⟨I,X,_,_⟩:=Hp.Jf i [q] blk kM h;have hfm:[q].filterMap (jl blk)=[(q,some (.xZ d))]:=by simp[jl,hb,rwD]
      rw[hfm]at I X;obtain⟨v,p,j⟩:=I.dD q (.xZ d) (by simp[kY,upd_same]);rw[f]at p;injection p with p
      subst p;have j:dF S _ w d (a.eval x):=j;obtain⟨av,V,s,k⟩:=dF.slice' j (i.Ht _ _ _ _ c).1;rw[s]at j;have l:=(i.sub _ _ _ _ c (Jd _) (show r.toNat<=S.len d by omega)).2.1;obtain⟨a',e',y⟩:=ao9 i j c (show r.toNat<=S.len d by omega) l;refine lL (agt ho B E s k e1 Y O U M) (hK _ w g (More.refl _) X (I.weaken fun n hn=> .inl hn) ?_);exact y
     ·cases b
    ·cases b
   ·cases b
  ·cases b
 ·cases b
theorem TJ (t C e:TypeId)(i:TypeInfo)(z:Value)(a bytes:Nat)(E:P.underlying t=some (.slice e))(L:P.info? e=some i)(G:i.zero=some z)
  (o:i.size=a) (A:i.bytes=bytes) (B:z.cells.size=a) (H:0 < a)
  (x:Option Addr) (n:Nat) (f:List Value) (s:f.length=n*a) (y:∀h,x=some h->∀j u,f[j]? =some u->w.cell? (h.add j)=some u) (I:x=none->n=0)
  (h:Addr) (m c:Nat) (d:List Value) (D:d.length=m*a) (l:∀j u,d[j]? =some u->w.cell? (h.add j)=some u) (Q:∀u∈d,u.oneCell'=true) (W:0 < m)
  (v:n+m<=maxLen) (g:(n+m)*bytes<=140737488355328):
  ∃q r,(Builtin.append_ #[t,t] C #[.slice x n n, .slice (some h) m c]).run P w= .ok q r/\r.ownsRow 0 e a q (n+m) (f++d)/\w.grownBy r none/\q.ownBlock=some w.heap.size:=by
 cases x with
 | none=>
  obtain rfl:=I rfl;obtain rfl:f=[]:=Qau (by simpa using s);obtain⟨q,r,M,K,O,X,p⟩:=run_append_own_at (P:=P) w 0 t C e i z a bytes E L G o A B H (.slice none 0 0) 0 [] (World.ownsRow_nil w 0 e a) h m c d D l Q v g (Jd _);refine⟨q,r,M,K,O,?_⟩;rcases p with p | p
  ·have U:q= .slice none 0 0:=by
    rcases K.2 with⟨e,_⟩ | ⟨b,V,T,e,_⟩
    ·exact e
    ·rw[e]at p;cases p
   grind
  ·exact p
 | some b=>
  subst o A
  have N:(f++d).length=(n+m)*i.size:=by grind
  have S:=run_append_grow (P:=P) w t C e i z E L G b n n f s (y b rfl) h m c d D l au (by simp only[maxLen]at v;omega) (growslice_fits au g);have J:=grownCap_ge w (n+m) n e;have F:grownCap w (n+m) n e<=maxLen:=grownCap_le_maxLen w (n+m) n e v;refine⟨_,_,S,⟨N, .inr ⟨w.heap.size,_,_,rfl,Jd _,heap_alloc_new w.drew _,J,F,?_,?_⟩⟩,⟨rfl,rfl,rfl,by simp,fun k R _=>Go.heap_alloc_old w.drew _ R⟩,rfl⟩
  ·simp only[Array.size_append,List.size_toArray,size_zeroCells,B,s,D,<-Qdx]
   grind
  grind
theorem ZY {c:Call}{x y:Operand}(q:iZ S)(ho:o.op= .call c)(hc:c.callee= .builtin .append)(hx':c.args.toList=[x,y])(M:∀t X,T t=some X->eP P t X)(h:Hp S w0 N blk g al w)(hfr:∀n,fr<=n->n < fr+64->¬al n)
  (hx:(aG slot x).Rel S (aY N blk g) w g (a.eval x)) (hy:(aG slot y).Rel S (aY N blk g) w g (a.eval y)) (f:CZ T S blk fr c.argTypes (aG slot x) (aG slot y)=some out) (hp:nH out.pre)
  (hK:Post S w0 N blk g al w fr out o.dst a K):o.wp P a w K Q:=by
 have I:c.args= #[x,y]:=by grind
 have L:∀m,More g (upd g fr (some m)):=fun m l v hl=>by
  rw[bU _ _ _ _ qbk];exact hl
 unfold CZ at f;split at f
 ·rename_i ex aa;rw[aa]at hx;split at f
  ·rename_i d1;split at f
   ·rename_i t t' htt;split at f
    ·rename_i W;have W:=Qa W;subst W;have hat:c.argTypes= #[t,t]:=by grind
     split at f
     ·cases f
     rename_i X Z;split at f
     ·cases f
     rename_i e hel;split at f
     ·cases f
     rename_i G hte;split at f
     ·cases f
     rename_i d2 hd2;have ab:=lF (M _ _ Z) hel;obtain⟨i,z,hi,hz,q1,q2,q3⟩:=EM (M _ _ hte);split at f
     ·rename_i r;simp only[jA]at r;have e1:=Qa r.1;have e2:0 < G.size:=by simp_all
      have e3:=Qa r.2.2;split at f
      ·rename_i d Jj;injection f with f
       subst f;obtain⟨p1,V⟩:=hp;obtain⟨c1,c2,c3,c4,c5⟩:=q.cat _ _ _ Jj;have hzs:z.cells.size=G.size:=by grind
       obtain⟨av,cap,D,hv2,hl2,hc2,hn2,h12,s⟩:=Kr q h hy hd2 au;obtain⟨bv,J,hd1⟩:=hx;obtain⟨bv',cap',p,R,hlo,hco,hbn,_,A⟩:=Ns q hd1 (show 0 < S.size d1 by omega);rw[J]at R;injection R with f1 f2 f3
       subst f1;obtain⟨C,rfl⟩:∃C,av=some C:=by
        cases av with
        | none=>grind
        | some C=>grind
       obtain⟨m,w',r1,r2,B,r4⟩:=TJ (P:=P) (w:=w) t o.type e i z G.size G.bytes ab hi hz q1 q2 hzs e2 bv (S.len d1) p qg hco hbn C (S.len d2) cap D qg (hc2 C rfl) h12 p1 (by have:=V.1;simp only[maxLen];omega) V.2;have U:(execOp a.eval o).run P w= .ok (.value m) w':=by
        simp only[execOp,ho,resolve,hc,invoke,builtin,I,hat,Sem.run_bind,Sem.run_pure,Result.andThen_ok,Qci,Lj,Qc6,J,hv2,r1]
       have hB:Below w.heap.size w w':=⟨B.os,B.tape,B.output,B.size,fun k H=>B.block k H kM⟩;have FV:∃a n c,m= .slice a n c:=by rcases r2.2 with⟨rfl,_⟩ | ⟨b,cp,cur,rfl,_⟩<;>exact⟨_,_,_,rfl⟩
       have E:∀b,eH m=some b->w.heap.size<=b:=by
        intro b hb;rw[yf m FV]at r4
        grind
       obtain⟨g1,g2,g3⟩:=h.add (l:=fr) (bk:= .row e d) (v:=m) hB (hfr fr (rC _) au) E (fun M' H _=>by
        refine⟨⟨fun b hb=> .inl (KF h.below.size (E b hb)),⟨by have:=V.1;omega,q.ZN _ _ _ ‹_›⟩⟩,p++D,?_,fun F j hi' hj=> ?_⟩
        ·grind
        ·rw[c3]at hi';have hxl:p.length=S.len d1*S.size d:=by rw[hlo,c1]
         by_cases O:F < S.len d1
         ·obtain⟨u,hu,Y⟩:=A F j O au;rw[c4 F j O];refine⟨u,?_,q.data _ _ _ au au,?_⟩
          ·grind
          ·exact(Lf.Rel.keep Y H (L _))
         ·obtain⟨k,rfl⟩:∃k,F=S.len d1+k:=⟨F - S.len d1,by omega⟩;obtain⟨u,hu,Y⟩:=s k j au au;rw[c5 k j au];refine⟨u,?_,q.data _ _ _ au au,Y.keep H (L _)⟩;rw[Qb5 qg,<-hu,hxl,Qdx,c2];congr 1;omega)
       exact lL U (hK _ _ _ g3 g2 (g1.weaken Xy) (upd_same _ _ _))
      ·cases f
     ·cases f
    ·cases f
   ·cases f
  ·cases f
 ·cases f
theorem ahw {src d:TypeId}{x:Operand}(J:iZ S)(X:o.op= .convert src d x)(f:∀t z,T t=some z->eP P t z)(h:Hp S w0 N blk g al w)
  (q:(aG slot x).Rel S (aY N blk g) w g (a.eval x)) (b:aff T S src d (aG slot x)=some out) (Y:Post S w0 N blk g al w fr out o.dst a K):o.wp P a w K Q:=by
 unfold aff at b;split at b
 ·rename_i ts td H B;split at b
  ·cases b
  rename_i e L;split at b
  ·cases b
  rename_i te M;split at b
  ·rename_i p;simp only[jA]at p;split at b
   ·rename_i s C;rw[C]at q;obtain⟨q,hlen⟩:=q;split at b
    ·cases b
    rename_i d2 O;split at b
    ·rename_i l;injection b with b
     subst b;have l:=Qa l;obtain⟨Z,R,m⟩:=oz (f _ _ H);obtain⟨W,G,c⟩:=oz (f _ _ M);have y:P.underlying src=some .string:=by
      rw[Qa p.1]at m;cases Z<;>simp[kindOf]at m<;>first | exact R | (rename_i k;cases k<;>simp[uQ]at m)
     have V:P.underlying e=some (.int .u8):=by
      rw[Qa p.2.1]at c;cases W<;>simp[kindOf]at c<;>(rename_i k;cases k<;>simp[uQ]at c;exact G)
     have D:=lF (f _ _ B) L;have u:(execOp a.eval o).run P w= .ok (.value (.slice (some ⟨w.heap.size,0,none⟩) s.length (grownCap w s.length 0 e))) (Lib.bytesWorld w e ⟨s.toArray⟩):=by
      have v:(⟨s.toArray⟩:ByteArray).size=s.length:=by rfl
      have:=Lib.run_convert_string_bytes (P:=P) w src d e ⟨s.toArray⟩ y D V;rw[v]at this;simp[execOp,X,q,this]
     have hB:Below w.heap.size w (Lib.bytesWorld w e ⟨s.toArray⟩):=⟨rfl,rfl,rfl,by rw[Lib.bytesWorld_size];omega,fun k hk=>Lib.bytesWorld_at_old w e _ k hk⟩;obtain⟨g1,g2⟩:=h.grow hB;obtain⟨m1,F,m3⟩:=J.text _ _ _ O;refine lL u (Y _ _ g (More.refl _) g2 (g1.weaken fun n hn=> .inl hn) ?_);show dF S _ _ d2 _
     intro I hw;have v:(⟨s.toArray⟩:ByteArray).size=s.length:=by rfl
     have A:¬aY N blk g w.heap.size:=fun hm=>Nat.lt_irrefl _ (h.mlt hm)
     have r:=hw w.heap.size (by rw[Lib.bytesWorld_size];omega) A;rw[<-F];refine Fp.mk d2 (J.asQ au) (some ⟨w.heap.size,0,none⟩) _ (fun i j=> .int .u8 (s.getD i 0).toNat) (by rw[F];exact grownCap_ge w s.length 0 e) au (fun i j U E=> ?_) (fun i j U E=> ?_) (fun i j d' U E he=> ?_)
     ·obtain rfl:j=0:=by omega
      refine⟨_,rfl,?_⟩;have p:=Lib.bytesWorld_cell w e ⟨s.toArray⟩ i (by rw[v];omega);rw[l,Qed,Qb,show((⟨w.heap.size,0,none⟩:Addr).add i)=⟨w.heap.size,i,none⟩ by simp[Addr.add];exact Eq.symm];rw[show I.cell? ⟨w.heap.size,i,none⟩=(Lib.bytesWorld w e ⟨s.toArray⟩).cell? ⟨w.heap.size,i,none⟩ by simp only[World.cell?,r]];rw[p]
     ·obtain rfl:j=0:=by omega
      rw[m3 i au];rfl
     grind
    ·cases b
   ·cases b
  ·cases b
 ·cases b
theorem ael {t:TypeId}(r:o.op= .alloc t)(m:∀t d,T t=some d->eP P t d)(h:Hp S w0 N blk g al w)(j:∀n,fr<=n->n < fr+64->¬al n)
  (c:ac1 T fr t=some out) (u:Post S w0 N blk g al w fr out o.dst a K):o.wp P a w K Q:=by
 unfold ac1 at c;split at c
 ·cases c
 rename_i d f;split at c
 ·rename_i i;injection c with c
  subst c;obtain⟨z,x,B⟩:=EQ (m _ _ f) w;have p:d.zero=[.pointer none, .slice none 0 0]:=by
   unfold aCU at i
   grind
  have e:(execOp a.eval o).run P w= .ok (.value (.pointer (some ⟨w.heap.size,0,none⟩))) (w.alloc (.cells z.cells t)):=by
   simp[execOp,r,Instr.alloc,x,newVar,newRow,newObj,Sem.run]
  obtain⟨y,s,A⟩:=h.add (l:=fr) (bk:= .tc t [.val (.slice none 0 0)]) (v:= .pointer (some ⟨w.heap.size,0,none⟩)) ((Below.refl w.heap.size w).alloc (rC _) (.cells z.cells t)) (j fr (rC _) au) (fun b q=>by simp[eH]at q;omega)
   (fun M' C _=>⟨w.heap.size,[.slice none 0 0],rfl, .inl h.below.size,⟨.pointer none,by
    have k:z.cells= #[.pointer none, .slice none 0 0]:=by grind
    rw[k];simpa using heap_alloc_new w (.cells #[.pointer none, .slice none 0 0] t), .inl rfl⟩,rfl,trivial⟩)
  exact lL e (u _ _ _ A s (y.weaken Xy) ⟨w.heap.size,upd_same _ _ _,rfl⟩)
 ·cases c
theorem ahc {t:TypeId}{x:Operand}(B:o.op= .load t x)(r:∀t f,T t=some f->eP P t f)(h:Hp S w0 N blk g al w)(n:(aG slot x).Rel S (aY N blk g) w g (a.eval x))
  (c:WI T blk t (aG slot x)=some out) (C:Post S w0 N blk g al w fr out o.dst a K):o.wp P a w K Q:=by
 unfold WI at c;split at c
 ·cases c
 rename_i f k;have i:=zB (r _ _ k) w;split at c
 ·rename_i l e m;rw[m]at n;obtain⟨b,E,s⟩:=n;split at c
  ·rename_i I cs z;obtain⟨L,d,J,F,rfl,_,⟨u0,D,_⟩,G⟩:=h.dD l _ z;rw[E]at d;injection d with d
   injection d with d
   injection d with d
   injection d with d
   subst d;split at c
   ·cases c
   rename_i p;split at c
   ·cases c
   rename_i e;split at c
   ·rename_i y A;injection c with c
    subst c;obtain⟨u,q,j⟩:=G.get e A;refine bg (v:=u) ?_ h C rfl j;have H:(u0::F)[e+1]? =some u:=by simpa using q
    simp[execOp,B,Instr.loadAt,Instr.sureAddr,s,loadVar,i,p,load,Sem.run,cell_of D,q]
   ·cases c
  ·cases c
 ·cases c
theorem ad2 {t:TypeId}{x y:Operand}(U:o.op= .store t x y)(J:∀t i,T t=some i->eP P t i)(h:Hp S w0 N blk g al w)(B:(aG slot x).Rel S (aY N blk g) w g (a.eval x))
  (z:(aG slot y).Rel S (aY N blk g) w g (a.eval y)) (c:Ox T blk t (aG slot x) (aG slot y)=some out) (V:Post S w0 N blk g al w fr out o.dst a K):o.wp P a w K Q:=by
 unfold Ox at c;split at c
 ·rename_i i l e u q v FU;have H:=mg (J _ _ q) w;rw[v]at B;rw[FU]at z;obtain⟨b,F,O⟩:=B;split at c
  ·rename_i s cs r;split at c
   ·cases c
   rename_i e;split at c
   ·rename_i L;injection c with c
    subst c;simp only[jA,Qbg,Qcd]at L;obtain⟨M,c2,c3,Y⟩:=L;have M:=Qa M;obtain⟨v',d,b',vs,rfl,hm,⟨u0,W,E⟩,C⟩:=h.dD l _ r;rw[F]at d;injection d with d
    injection d with d
    injection d with d
    injection d with d
    subst d;have f:(Sv.lf u:Sv D).cells.all Lf.storable=true:=by simp[Sv.cells,Y]
    have m:=uf (u:= .lf u) h.refs (Ey f) z;have n:=m.length;have A:(Sv.lf u:Sv D).cells.length=1:=rfl;obtain⟨w',k,hb',hn,hs,X,Z,q3⟩:=mX (P:=P) b s (a.eval y).cells.toList w (u0::vs) (e+1) 0 W (by rw[zx,<-C.length,<-n,A];omega) (LX h.refs f m);have j:(execOp a.eval o).run P w= .ok .skip w':=by
     have p:(a.eval y).cells.size=i.size:=by grind
     simp[execOp,U,Instr.storeAt,Instr.sureAddr,O,storeVar,H,p,k]
    obtain⟨G,I⟩:=h.write (bk':= .tc s (putAt cs e [u])) r rfl rfl F rfl X Z q3 hs hn (fun hk=>by
     have R:=(C.putAt m e).keep hk (More.refl _);refine⟨b,_,rfl,hm,⟨u0,?_,E⟩,by simpa[Sv.cells]using R⟩
     grind)
    exact Nb j (V _ _ _ (More.refl _) I (G.weaken fun _ h=> .inl h) trivial)
   ·cases c
  ·cases c
 ·cases c
theorem azu {e:TypeId}{c:Ty}{i:TypeInfo}(h:eP P e c)(b:atq c=true)(g:P.info? e=some i):i.zero=some (.int .u8 0):=by
 obtain⟨m,n,j,k,a,l,d,rfl⟩:=nP h;rw[g]at a;injection a with a
 subst a;rw[d];unfold atq at b;dsimp only at b;split at b
 ·rename_i f;simp only[Qbg]at b;congr 1;cases j<;>first | exact(List.cons.inj f).1 | (simp[Bj]at b)
 ·cases b
theorem awe {e:Nat}{s:List UInt8}{d2:D}(b:iZ S)(f:S.text e s=some d2)(j:S.size d2=1):S.len d2=s.length/\∀i,i < s.length->∃u,(Lib.strCells ⟨s.toArray⟩)[i]? =some u/\(S.cell d2 i 0).jY=true/\∀(M:Nat->Prop) (w:World) (g:Nat->Option Value),(S.cell d2 i 0).Rel S M w g u:=by
 obtain⟨_,d,h⟩:=b.text _ _ _ f;refine⟨d,fun i c=> ?_⟩;have a:=h i c;refine⟨.int .u8 (s.getD i 0).toNat,?_,b.data _ _ _ au au,fun M w g=> ?_⟩
 ·simp[Lib.strCells,List.getD,c]
 ·rw[a];rfl
theorem aae {c:Call}{x y:Operand}(hS:iZ S)(ho:o.op= .call c)(hc:c.callee= .builtin .append)(hx':c.args.toList=[x,y])(M:∀t ty,T t=some ty->eP P t ty)(h:Hp S w0 N blk g al w)(hfr:∀n,fr<=n->n < fr+64->¬al n)
  (L:(aG slot x).Rel S (aY N blk g) w g (a.eval x)) (hy:(aG slot y).Rel S (aY N blk g) w g (a.eval y)) (f:Dk T S blk fr c.argTypes (aG slot x) (aG slot y)=some out) (hp:nH out.pre)
  (hK:Post S w0 N blk g al w fr out o.dst a K):o.wp P a w K Q:=by
 have hargs:c.args= #[x,y]:=by grind
 have hmg:∀v',More g (upd g fr (some v')):=fun v' l v hl=>by
  rw[bU _ _ _ _ qbk];exact hl
 unfold Dk at f;split at f
 ·rename_i t J s htt FU;have hat:c.argTypes= #[t,J]:=by grind
  rw[FU]at hy;obtain⟨hyv,hyl⟩:a.eval y= .string ⟨s.toArray⟩/\s.length<=9223372036854775807:=hy;split at f
  ·rename_i ty ty' hty hty';split at f
   ·cases f
   rename_i e hel;split at f
   ·cases f
   rename_i te hte;have G:=lF (M _ _ hty) hel;obtain⟨i,z,U,hz,q1,q2,q3⟩:=EM (M _ _ hte);split at f
   ·rename_i hcc;simp only[jA]at hcc;obtain⟨c1,c2,c3,c4⟩:=hcc;have c2:=Qa c2;have c3:=Qa c3;have c4:=Qa c4;obtain⟨ds,D,hks⟩:=oz (M _ _ hty');have D:P.underlying J=some .string:=by
     rw[c4]at hks;cases ds<;>simp[kindOf]at hks<;>first | exact D | (rename_i k;cases k<;>simp[uQ]at hks)
    have R:i.zero=some (.int .u8 0):=azu (M _ _ hte) c1 U;split at f
    ·cases f
    rename_i d2 hd2;split at f
    ·rename_i I;have I:=Qa I;obtain⟨hl2,W⟩:=awe hS hd2 I;have hsz:(ByteArray.mk s.toArray).size=s.length:=by rfl
     have hnews:(Lib.strCells ⟨s.toArray⟩).length=s.length:=by rw[Lib.strCells_length,hsz]
     have run:∀(A:Value) (n:Nat) (B:List Value),a.eval x=A->w.ownsRow 0 e 1 A n B->dE (n+s.length) 1->
       ∃v' w',(execOp a.eval o).run P w= .ok (.value v') w'/\w'.ownsRow 0 e 1 v' (n+s.length) (B++Lib.strCells ⟨s.toArray⟩)/\w.grownBy w' A.ownBlock/\(v'.ownBlock=A.ownBlock\/v'.ownBlock=some w.heap.size\/v'.ownBlock=none):=by
      intro A n B C p hroom;obtain⟨r1,Z⟩:=hroom;obtain⟨v',w',q,h2,h3,h4⟩:=Lib.run_append_own_string (P:=P) (w:=w) 0 t J o.type e i G D U R au au A n B p ⟨s.toArray⟩ (by rw[hsz];simp only[maxLen];omega) qch (Jd _);rw[hsz]at h2;refine⟨v',w',?_,h2,h3,?_⟩
      ·simp only[execOp,ho,resolve,hc,invoke,builtin,hargs,hat,Sem.run_bind,Sem.run_pure,Result.andThen_ok,Qci,Lj,Qc6,C,hyv,q]
      ·rcases p.2 with⟨rfl,rfl⟩ | ⟨b,O,F,rfl,hbg,hg',hnc,hcm,hcs,htake⟩
       ·obtain⟨v2,w2,g1,g2,g3,g4⟩:=Lib.run_append_own_string (P:=P) (w:=w) w.heap.size t J o.type e i G D U R au au (.slice none 0 0) 0 [] (World.ownsRow_nil w w.heap.size e 1) ⟨s.toArray⟩ (by rw[hsz];simp only[maxLen];omega) qch (rC _);by_cases hm:s.length=0
        ·grind
        ·have E:=run_append_nil_string (P:=P) w t J o.type e i (.int .u8 0) G D U R ⟨s.toArray⟩ qch qch qg;rw[E]at q;injection q with q _
         exact .inr (.inl (by rw[<-q];rfl))
       ·have hcs':F.size=O:=by simpa using hcs
        by_cases Y:n+(ByteArray.mk s.toArray).size<=O
        ·have E:=Lib.run_append_room_string (P:=P) w t J o.type e i G D U au b n O F hg' ⟨s.toArray⟩ Y au;rw[E]at q;injection q with q _
         exact .inl (by rw[<-q];rfl)
        ·have hxl:B.length=n:=by grind
         have holds:∀j u,B[j]? =some u->w.cell? ((⟨b,0,none⟩:Addr).add j)=some u:=p.cells (g:=b) rfl;have E:=Lib.run_append_grow_string (P:=P) w t J o.type e i (.int .u8 0) G D U R ⟨b,0,none⟩ n O B qg holds ⟨s.toArray⟩ au qch (by rw[q2,c3];exact growslice_fits au qch);rw[E]at q;injection q with q _
         exact .inr (.inl (by rw[<-q];rfl))
     split at f
     ·rename_i V;injection f with f
      subst f;rw[V]at L;obtain⟨v',w',r1,Z,r,m⟩:=run (.slice none 0 0) 0 [] L (World.ownsRow_nil w 0 e 1) (by rw[zM];exact hp);have hB:Below w.heap.size w w':=⟨r.os,r.tape,r.output,r.size,fun k hk=>r.block k hk (by simp[Value.ownBlock])⟩;have FV:∃a n c,v'= .slice a n c:=by rcases Z.2 with⟨rfl,_⟩ | ⟨b,cp,F,rfl,_⟩<;>exact⟨_,_,_,rfl⟩
      have aa:∀b,eH v'=some b->w.heap.size<=b:=by
       intro b hb;rw[yf v' FV]at m;rcases m with m | m | m
       ·rw[hb]at m;simp[Value.ownBlock]at m
       ·rw[hb]at m;injection m with m;omega
       ·rw[hb]at m;cases m
      obtain⟨g1,g2,g3⟩:=h.add (l:=fr) (bk:= .row e d2) (v:=v') hB (hfr fr (rC _) au) aa (fun M' hk _=>by
       refine⟨⟨fun b hb=> .inl (KF h.below.size (aa b hb)),⟨by omega,hS.asQ au⟩⟩,Lib.strCells ⟨s.toArray⟩,?_,fun i' j hi' hj=> ?_⟩
       ·have:=Z;rw[zM,Qbs]at this;rw[I,hl2];exact this
       ·rw[I]at hj⊢;obtain rfl:j=0:=by omega
        obtain⟨u,hu,ab,E⟩:=W i' au;exact⟨u,by simpa using hu,ab,E _ _ _⟩)
      exact lL r1 (hK _ _ _ g3 g2 (g1.weaken Xy) (upd_same _ _ _))
     ·rename_i l V;rw[V]at L;have L:g l=some (a.eval x):=L;split at f
      ·rename_i e' d1 hb;split at f
       ·rename_i H;simp only[jA]at H;have hs1:=Qa H.2;have H:=Qa H.1;subst H;split at f
        ·rename_i d Jj;injection f with f
         subst f;obtain⟨c1',c2',c3',c4',c5'⟩:=hS.cat _ _ _ Jj;obtain⟨A,C,hm,B,p,hcell⟩:=h.dD l _ hb;rw[L]at C;injection C with C
         rw[hs1]at p;obtain⟨v',w',r1,Z,r,m⟩:=run A (S.len d1) B C p hp;have X:∃a n c,A= .slice a n c:=by rcases p.2 with⟨rfl,_⟩ | ⟨b,cp,F,rfl,_⟩<;>exact⟨_,_,_,rfl⟩
         have FV:∃a n c,v'= .slice a n c:=by rcases Z.2 with⟨rfl,_⟩ | ⟨b,cp,F,rfl,_⟩<;>exact⟨_,_,_,rfl⟩
         rw[yf v' FV,yf A X]at m;rw[yf A X]at r;have hsd:S.size d=1:=by omega
         obtain⟨g1,g2,g3⟩:=h.move (l:=l) (fr:=fr) (bk':= .row e d) (v:=A) (v':=v') qc (C▸L) (hfr fr (rC _) au) r.os r.tape r.output r.size (fun n hn hne=>r.block n hn fun e=>hne e.symm)
          (fun b hb'=>by
           grind)
          (fun M' hk _=>by
           refine⟨⟨fun b hb'=> ?_,⟨by rw[c3',hl2];have:dE (S.len d1+s.length) 1:=hp;have:=this.1;omega,hS.asQ au⟩⟩,B++Lib.strCells ⟨s.toArray⟩,?_,fun i' j hi' hj=> ?_⟩
           ·rcases m with m | m | m
            ·grind
            ·rw[hb']at m;injection m with m;exact .inl (m▸h.below.size)
            grind
           ·grind
           ·rw[hsd]at hj⊢;obtain rfl:j=0:=by omega
            rw[c3',hl2]at hi';have hxl:B.length=S.len d1:=by simpa using p.1
            by_cases hlt:i' < S.len d1
            ·obtain⟨u,hu,ab,E⟩:=hcell i' 0 hlt au;rw[c4' i' 0 hlt];refine⟨u,?_,ab,E.keep hk (hmg _)⟩
             grind
            grind)
         exact lL r1 (hK _ _ _ g3 g2 (g1.weaken Xy) (upd_same _ _ _))
        ·cases f
       ·cases f
      ·cases f
     ·cases f
    ·cases f
   ·cases f
  ·cases f
 ·cases f
theorem Hp.aJr (h:Hp S w0 N blk g al w){l b:Nat}{v:Value}(p:hot (blk l)=true)(o:g l=some v)(m:eH v=some b)(E:w'.os=w.os)(z:w'.tape=w.tape)(r:w'.output=w.output)(B:w'.heap.size=w.heap.size)
  (f:∀n,n≠b->w'.heap[n]? =w.heap[n]?):Hp S w0 N (upd blk l none) g al w'/\Keeps (aY N blk g) w (aY N (upd blk l none) g) w':=by
 have Q:hot (upd blk l none l)=false:=by rw[upd_same];rfl
 have i:∀n,hot (upd blk l none n)=true->hot (blk n)=true:=fun n a=>by
  by_cases G:n=l
  ·grind
  ·rwa [bU _ _ _ _ G]at a
 have C:aY N blk g b:= .inr ⟨l,v,p,o,m⟩;obtain⟨H,F⟩:=h.mine p o m;have t:Keeps (aY N blk g) w (aY N (upd blk l none) g) w':=by
  refine⟨by omega,fun c _ x=>⟨?_,f c fun e=>x (e▸C)⟩⟩;rintro(a | ⟨n,u,L,I,M⟩)
  ·exact x (.inl a)
  ·exact x (.inr ⟨n,u,i n L,I,M⟩)
 refine⟨⟨⟨E.trans h.below.os,z.trans h.below.tape,r.trans h.below.output,by rw[B];exact h.below.size,fun k D y=> ?_⟩,h.hN,fun n K a=> ?_,fun n c J O d a s=>h.sep n c J O d (i n a) (i c s),h.al,h.refs,h.gl.keep t⟩,t⟩
 ·refine(f k fun e=> ?_).trans (h.below.block k D y);subst e;rcases F with q | q
  ·omega
  ·exact y q
 ·by_cases j:n=l
  ·subst j;rw[upd_same]at a;cases a
  ·rw[bU _ _ _ _ j]at a;obtain⟨u,A,P⟩:=h.dD n K a;refine⟨u,A,P.keep t (More.refl _) fun R c s=>f c fun e=> ?_⟩;subst e;exact j (h.sep n l u v c qg p A o s m)
theorem TA {c:Call}{x:Operand}(r:o.op= .call c)(u:c.callee= .builtin .unsafeSliceData)(D:c.args.toList=[x])(h:Hp S w0 N blk g al w)(i:(aG slot x).Rel S (aY N blk g) w g (a.eval x))
  (f:Ei S blk (aG slot x)=some out) (t:nH out.pre) (s:Post S w0 N blk g al w fr out o.dst a K):o.wp P a w K Q:=by
 have k:c.args= #[x]:=by grind
 unfold Ei at f;split at f
 ·rename_i l n;rw[n]at i;have i:g l=some (a.eval x):=i;split at f
  ·rename_i e d z;split at f
   ·injection f with f
    subst f;have t:0 < S.len d:=t;obtain⟨v,j,_,E,⟨_,q⟩,_⟩:=h.dD l _ z;rw[i]at j;injection j with j
    rcases q with⟨_,C⟩ | ⟨b,m,A,y,_,_,B,_⟩
    ·omega
    ·have p:a.eval x= .slice (some ⟨b,0,none⟩) (S.len d) m:=by rw[j,y]
     refine bg (v:= .pointer (some ⟨b,0*1+0,none⟩)) ?_ h s rfl ⟨b,S.len d,m,by rw[i,p],rfl⟩;simp only[execOp,r,resolve,u,invoke,builtin,k,Sem.run_bind,Sem.run_pure,Result.andThen_ok,Qci,Lj,Qc6,p,Lib.run_unsafeSliceData_row _ _ _ _ _ _ (show m≠0 by omega)]
   ·cases f
  ·cases f
 ·rename_i n;rw[n]at i;have i:a.eval x= .slice none 0 0:=i;injection f with f
  subst f;refine bg (v:= .pointer none) ?_ h s rfl rfl;simp only[execOp,r,resolve,u,invoke,builtin,k,Sem.run_bind,Sem.run_pure,Result.andThen_ok,Qci,Lj,Qc6,i,Lib.run_unsafeSliceData_nil]
 ·cases f
theorem OJ (w:World)(b n m:Nat):(w.freeze ⟨b,0,none⟩ n).os=w.os/\(w.freeze ⟨b,0,none⟩ n).tape=w.tape/\(w.freeze ⟨b,0,none⟩ n).output=w.output/\(w.freeze ⟨b,0,none⟩ n).heap.size=w.heap.size/\(m≠b->(w.freeze ⟨b,0,none⟩ n).heap[m]? =w.heap[m]?):=by
 unfold World.freeze
 grind
theorem TM {c:Call}{x y:Operand}(ho:o.op= .call c)(hc:c.callee= .builtin .unsafeString)(hx':c.args.toList=[x,y])(V:∀t ty,T t=some ty->eP P t ty)(h:Hp S w0 N blk g al w)(q:(aG slot x).Rel S (aY N blk g) w g (a.eval x))
  (p:(aG slot y).Rel S (aY N blk g) w g (a.eval y)) (f:Ep T S blk c.argTypes (aG slot x) (aG slot y)=some out) (L:nH out.pre) (hK:Post S w0 N blk g al w fr out o.dst a K):o.wp P a w K Q:=by
 have D:c.args= #[x,y]:=by grind
 unfold Ep at f;split at f
 ·rename_i l n E Y;rw[E]at q;rw[Y]at p;have p:a.eval y= .int .i64 n:=p;obtain⟨b,n',cap',hg,Z⟩:=q;have Z:a.eval x= .pointer (some ⟨b,0,none⟩):=by simpa using Z
  split at f
  ·rename_i e d hb;split at f
   ·rename_i R;injection f with f
    subst f;simp only[jA]at R;obtain⟨A,J⟩:=R;have J:=Qa J;obtain⟨p1,p2,c2⟩:n=S.len d/\0 < n/\afA S d (S.len d)=true:=L;subst p1;have p2:0 < S.len d:=by omega
    unfold ptrTo at A;split at A
    ·rename_i I O hts;have F:c.argTypes= #[I,O]:=by grind
     split at A
     ·rename_i ty te hty hte;simp only[jA]at A;obtain⟨k1,X,H⟩:=A;have k1:=Qa k1;have X:=Qa X;split at H
      ·rename_i e' e'' hmp;have H:=Qa H;subst H;have hpt:=asA (V _ _ hty) hmp k1;obtain⟨i,z,hi,hz,q1,q2,q3⟩:=EM (V _ _ hte);have G:P.cellsOf e=1:=by simp[Program.cellsOf,hi,q1,X]
       obtain⟨v,r,hm,xs,B,C⟩:=h.dD l _ hb;rw[hg]at r;injection r with r
       rcases B.2 with⟨_,hn0⟩ | ⟨b',cap,cur,W,_,hh,hnc,hcm,hcs,htake⟩
       ·omega
       ·rw[W]at r;injection r with s hv2 hv3
        injection s with s
        injection s with s
        subst s;have hl:xs.length=S.len d*S.size d:=B.1;obtain⟨ns,hn1,hn2⟩:=Xu J (aju c2) hl (fun i j hi hj=>by obtain⟨u,h1,_,h3⟩:=C i j hi hj;exact⟨u,h1,h3⟩);have hlen:(bytesOf S d).length=S.len d:=by simp[bytesOf]
        have hcl:∀j x,(bytesOf S d)[j]? =some x->w.cell? ((⟨b,0,none⟩:Addr).add j)=some (.int .u8 x.toNat):=by
         intro j x hj;have U:j < S.len d:=by grind
         obtain⟨k,hk,hk0,hk1⟩:=asi c2 j U;obtain⟨u,hu,_,M⟩:=C j 0 U au;rw[hk]at M;have M:u= .int .u8 k:=M;rw[J,Qed,Qb,M]at hu;have q:x=UInt8.ofNat k.toNat:=by
          grind
         have hkx:(x.toNat:Int)=k:=by
          rw[q];have:k.toNat < 256:=by omega
          simp[UInt8.toNat_ofNat',Qcs this];omega
         rw[hkx];exact B.cells (g:=b) (by rw[W];rfl) j _ hu
        have hrun:=Lib.run_unsafeString_row (P:=P) w I O o.type e hpt G b cur.size (by simp[World.shape?,hh]) (bytesOf S d) (fun e=>by grind) qg au hcl;obtain⟨f1,f2,f3,f4,_⟩:=OJ w b (bytesOf S d).length 0;obtain⟨hp',hk'⟩:=h.aJr (w':=w.freeze ⟨b,0,none⟩ (bytesOf S d).length) qc hg rfl f1 f2 f3 f4 (fun m hm=>(OJ w b (bytesOf S d).length m).2.2.2.2 hm);refine lL (v:= .string ⟨(bytesOf S d).toArray⟩) ?_ (hK _ _ _ (More.refl _) hk' (hp'.weaken fun n hn=> .inl hn) ⟨rfl,by omega⟩);simp only[execOp,ho,resolve,hc,invoke,builtin,D,F,Sem.run_bind,Sem.run_pure,Result.andThen_ok,Qci,Lj,Qc6,Z,p];simp_all
      ·cases H
     ·cases A
    ·cases A
   ·cases f
  ·cases f
 ·rename_i n E Y;rw[E]at q;rw[Y]at p;have q:a.eval x= .pointer none:=q;have p:a.eval y= .int .i64 n:=p;split at f
  ·rename_i I O hts;have F:c.argTypes= #[I,O]:=by grind
   injection f with f
   subst f;have L:n=0:=L;subst L;refine bg (v:= .string ⟨#[]⟩) ?_ h hK rfl ⟨rfl,by simp⟩;simp only[execOp,ho,resolve,hc,invoke,builtin,D,F,Sem.run_bind,Sem.run_pure,Result.andThen_ok,Qci,Lj,Qc6,q,p,Lib.run_unsafeString_none];rfl
  ·cases f
 ·cases f
theorem aiq (G:iZ S){f:FuncId}{args:List (Sl D)}{vals:List Value}(U:∀f i,Γ f=some i->fK P S f i)(h:Hp S w0 N blk g al w)(A:∀n,fr<=n->n < fr+64->¬al n)
  (t:ik S (aY N blk g) w g args vals) (j:∀i,fK P S f i->(execOp a.eval o).run P w= .ok (.enter f vals.toArray) w) (c:JF Γ f blk args fr=some out) (J:nH out.pre) (Y:Post S w0 N blk g al w fr out o.dst a K):o.wp P a w K Q:=by
 unfold JF at c;split at c
 ·cases c
 ·rename_i i R;have r:=U f i R;have j:=j i r;have B:(Calls P f vals.toArray w fun e w'=>∃v g',e= .returned v/\More g g'/\Keeps (aY N blk g) w (aY N (kY blk out.blks) g') w'/\Hp S w0 N (kY blk out.blks) g' (fun n=>al n\/(fr<=n/\n < fr+64)) w'/\
    out.val.Rel S (aY N (kY blk out.blks) g') w' g' v)->o.wp P a w K Q:=by
   intro y;simp only[Oper.wp,j,Oper.upon_enter];refine y.mono ?_;rintro e w' ⟨v,g',rfl,p,W,h3,Z⟩;exact Y v w' g' p W h3 Z
  dsimp only at c;have z:=t.norm;generalize args.map Sl.norm=F at z c;cases p:Ea i blk fr (F.map (Sl.view blk)) (mQ [] (F.flatMap Sl.owns))with
  | some aa=>
   rw[p]at c;simp only[z_,TC]at c;subst c;refine B (yj G r h A (fun ids dD u V=> ?_) (fun l d=> ?_) (fun l d=> ?_) p J)
   ·refine ik.view G (jB:=mQ [] (F.flatMap Sl.owns)) h ⟨fun b k=>(xx u b k).1,fun l d v b E s m k=> ?_⟩ (fun l d=>(eu _ _ _).2 (.inr d)) z;rcases(xx u b k).2 with q | ⟨T,O,⟨L,M,H,C⟩ | ⟨L,M,H,C⟩⟩
    ·exact h.ajh E s m q
    ·have:=h.sep l T v O b E L s H m C
     grind
    ·have:=h.sep l T v O b E M s H m C
     grind
   ·exact adR z (((eu _ _ _).1 d).resolve_left kM)
   ·obtain⟨x,X,I⟩:=zL.1 (((eu _ _ _).1 d).resolve_left kM);rcases an1 (blk:=blk) I with q | q | q
    ·exact .inl q
    ·exact .inr (.inl q)
    ·exact .inr (.inr (zL.2 ⟨_,JC.2 ⟨x,X,rfl⟩,q⟩))
  | none=>
   rw[p]at c;simp only[z_]at c;exact B (yj (jB:=[]) G r h A (fun ids dD u V=>z.less fun b k=>(xx u b k).1) (fun l d=>by simp at d) (fun l d=>by simp at d) c J)
theorem agG (C:iZ S){c:Call}{d:Operand}(s:o.op= .call c)(E:c.callee= .value d)(r:∀f i,Γ f=some i->fK P S f i)(h:Hp S w0 N blk g al w)(l:∀n,fr<=n->n < fr+64->¬al n)
  (q:∀t,(slot t).Rel S (aY N blk g) w g (a.tmps.getD t undef)) (b:Y9 Γ blk fr (aG slot d) (c.args.toList.map (aG slot))=some out) (A:nH out.pre) (y:Post S w0 N blk g al w fr out o.dst a K):o.wp P a w K Q:=by
 have e:=pR q d;unfold Y9 at b;split at b
 ·rename_i f B z j;rw[j]at e;obtain⟨u,D,k⟩:∃u,a.eval d= .func (.func f) #[u] #[]/\QS S (aY N blk g) w B z u:=e;split at b
  ·rename_i x v;refine aiq C (args:=x::c.args.toList.map (aG slot)) (vals:=u::c.args.toList.map a.eval) r h l ⟨ahE v k,QO q _⟩ (fun i p=> ?_) b A y;have m:=p.enters (u::c.args.toList.map a.eval).toArray w;simp only[execOp,s,resolve,E,Deferred.ofValue,D,Sem.run_bind,Sem.run_pure,Result.andThen_ok,invoke];have:(#[u]++c.args.map a.eval:Array Value)++ #[]=(u::c.args.toList.map a.eval).toArray:=by grind
   rw[this,m]
  ·cases b
 ·cases b
theorem XN (l:∀t C,T t=some C->eP P t C)(D:∀f F,Γ f=some F->fK P S f F)(q:iZ S)(h:Hp S w0 N blk g al w)(A:∀n,fr<=n->n < fr+64->¬al n)
  (G:∀t,(slot t).Rel S (aY N blk g) w g (a.tmps.getD t undef)) (b:qj T S Γ slot blk fr o.op=some out) (z:nH out.pre) (p:Post S w0 N blk g al w fr out o.dst a K):o.wp P a w K Q:=by
 have k:=pR G;unfold qj at b;split at b
 ·rename_i t j;exact ael j l h A b p
 ·rename_i t x j;exact ahc j l h (k x) b p
 ·rename_i t x y j;exact ad2 j l h (k x) (k y) b p
 ·rename_i t x i j;exact agx j l h (k x) (k i) b z p
 ·rename_i t x i j;exact acZ j l h (k x) (k i) b z p
 ·rename_i t j;exact ZZ q j h A b p
 ·rename_i t x H R j;exact adp q j l h k b z p
 ·rename_i t x H R Z j;exact aej q j l h k b z p
 ·rename_i t x i I j;exact afm q j l h (k x) (k i) b p
 ·rename_i t x i v j;exact LZ q (.inl j) l h (k x) (k i) (k v) b p
 ·rename_i t x i v j;exact LZ q (.inr j) l h (k x) (k i) (k v) b p
 ·rename_i t d x j;split at b
  ·rename_i B s;injection b with b
   subst b;exact akX q j l h (k x) s z p
  ·exact ahw q j l h (k x) b p
 ·rename_i t x j;exact ash j l h (k x) b p
 ·rename_i x W t I j;exact Z7 j l h (k x) b p
 ·rename_i Y t x y U j;exact ajX j l h (k x) (k y) b p
 ·rename_i f first J j
  split at b
  ·rename_i x O L;exact aqT j O L h (k x) b p
  ·cases b
 ·rename_i x j;split at b
  ·rename_i e E;split at b
   ·rename_i f X V;have s:=k x;rw[E]at s;injection b with b
    subst b;refine bg (v:=a.eval x) ?_ h p rfl s;obtain⟨u,M,_⟩:=s;simp[execOp,j,M]
   ·cases b
  ·cases b
 ·rename_i c j;split at b
  ·rename_i f r;exact agG q j r D h A G b z p
  ·rename_i r;split at b
   ·rename_i x y m;split at b
    ·rename_i B s;injection b with b
     subst b;exact aad q j r m l h A (k x) (k y) s z p
    split at b
    ·rename_i B s;injection b with b
     subst b;exact Z8 j r m l h (k x) (k y) s p
    split at b
    ·rename_i B s;injection b with b
     subst b;exact ZY q j r m l h A (k x) (k y) s z p
    ·exact aae q j r m l h A (k x) (k y) b z p
   ·cases b
  ·rename_i r;split at b
   ·rename_i x m;exact arB j r m l h (k x) b p
   ·cases b
  ·rename_i r;split at b
   ·rename_i x m;exact TA j r m h (k x) b z p
   ·cases b
  ·rename_i r;split at b
   ·rename_i x y m;exact TM j r m l h (k x) (k y) b z p
   ·cases b
  ·cases b
 ·cases b
theorem afZ (J:∀t y,T t=some y->eP P t y)(z:∀f I,Γ f=some I->fK P S f I)(s:iZ S)(h:Hp S w0 N blk g al w)(C:∀n,fr<=n->n < fr+64->¬al n)
  (L:∀t,(slot t).Rel S (aY N blk g) w g (a.tmps.getD t undef)) (c:nR T S Γ slot blk fr o.op=some out) (R:nH out.pre) (O:Post S w0 N blk g al w fr out o.dst a K):o.wp P a w K Q:=by
 unfold nR at c;dsimp only at c;split at c
 ·rename_i V;simp only[jA,Qbd]at V;split at c
  ·rename_i d M;injection c with c
   subst c;have G:(iG slot o.op).Nodup:=qR _ _ Qdk;obtain⟨U,B,D,X⟩:=Hp.Jf s (iG slot o.op) blk G h;refine XN J z s U C (fun t=> ?_) M R (fun v w' g' m k F W=> ?_)
   ·unfold FK;split
    ·rename_i j;have j:=gJ.1 j;refine Sl.Rel.view (jB:=iG slot o.op) s h ⟨?_,fun l H v b A E i=> ?_⟩ (fun l H=>(eu _ _ _).2 (.inr (zL.2 ⟨t,j,H⟩))) (L t)
     ·rintro b (i | ⟨n,u,p,r,x⟩)
      ·exact .inl i
      ·exact .inr ⟨n,u,D n p,r,x⟩
     ·rintro(q | ⟨n,u,p,r,x⟩)
      ·exact h.ajh A E i q
      ·have:=h.sep l n v u b A (D n p) E r i x
       grind
    ·exact(L t).keep B (More.refl _)
   ·have e:kY blk ((iG slot o.op).filterMap (jl blk)++d.blks)=kY (kY blk ((iG slot o.op).filterMap (jl blk))) d.blks:=X0 _ _ _;refine O v w' g' m ?_ ?_ ?_
    ·rw[e];exact B.comp k
    ·rw[e];exact F
    ·rw[e];exact W
  ·cases c
 ·cases c
theorem ajy (e:∀t r,T t=some r->eP P t r)(l:∀f s,Γ f=some s->fK P S f s)(p:iZ S)(h:Hp S w0 N blk g al w)(d:∀n,fr<=n->n < fr+64->¬al n)
  (k:∀t,(slot t).Rel S (aY N blk g) w g (a.tmps.getD t undef)) (c:Does T S Γ slot blk fr o.op out) (m:nH out.pre) (j:Post S w0 N blk g al w fr out o.dst a K):o.wp P a w K Q:=by
 rcases c with c | ⟨b,y,v,i,rfl⟩
 ·unfold xy at c;split at c
  ·rename_i q i;injection c with c
   subst c;exact XN e l p h d k i m j
  ·split at c
   ·rename_i q i;injection c with c
    subst c;exact afZ e l p h d k i m j
   ·unfold Di at c;split at c
    ·rename_i t x u;exact ahG u e h d (pR k x) c j
    ·exact aqa e l p h d k c m j
 ·exact ajQ h k i j
end
end Go.Vc
