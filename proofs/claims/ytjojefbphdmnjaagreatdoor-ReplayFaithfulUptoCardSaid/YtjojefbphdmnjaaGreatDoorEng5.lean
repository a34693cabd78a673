/- Own engine: Vdd. -/
import Derived.Lib.ConvBytes
import Derived.Test.YtjojefbphdmnjaaGreatDoorEng4
import Derived.MapFrom
import Derived.Lib.AppendStr
import Derived.Lib.AppendZeros
import Derived.Lib.UnsafeStr
import Derived.Laws.BytesString
set_option linter.unusedVariables false
set_option linter.unusedSimpArgs false
namespace Go.Vc
open Go.RowKit
section
variable {D:Type}
def awR (T:TypeId->Option Ty)(t:TypeId):Option (TypeId×Nat×Nat):=
 match T t with
 | none=>none
 | some a=>if a.lit then JF T t else none
def agJ (T:TypeId->Option Ty)(t:TypeId)(x i:Sl D):Option (Out D):=
 match awR T t with
 | none=>none
 | some (e,n,a)=>(match x,i with
  | .one (.lf (.ptr l o)), .one (.lf (.int _ m))=>kN (some (dp (0<=m/\m < n))) (.ptr l (o+m.toNat*a))
  | _,_=>none)
def YQ (T:TypeId->Option Ty)(t:TypeId)(x i:Sl D):Option (Out D):=
 match awR T t with
 | none=>none
 | some (e,n,a)=>(match T e with
  | none=>none
  | some b=>(match x,i with
   | .one (.agg cs), .one (.lf (.int _ m))=>
    if Nat.beq cs.length (n*a)then(if b.agg then some ⟨some (dp (0<=m/\m < n)), .one (.agg ((cs.drop (m.toNat*a)).take a)),[]⟩
    else(match cs[m.toNat*a]? with
     | some y=>kN (some (dp (0<=m/\m < n))) y
     | none=>none))else none
   | _,_=>none))
def PU (S:Sh D)(t:TypeId)(a:Nat):Option (Out D):=
 match S.avd t with
 | some d=>some ⟨none, .one (.lf (.own a)),[(a,some (.map d))]⟩
 | none=>none
def aw8:Sl D->Option Pv
 | .one (.lf x)=>x.pv
 | _=>none
def mapOf (S:Sh D)(a:Nat->Option (Bk D))(t:TypeId):Sl D->Option (Mp D)
 | .one (.lf (.own l))=>(match a l with
  | some (.map d)=>S.mp d
  | some (.ve d)=>S.mp d
  | _=>none)
 | .one (.lf (.dat d))=>S.mp d
 | .one (.lf (.val (.map none)))=>(match S.avd t with
  | some d=>S.mp d
  | none=>none)
 | _=>none
def aBs:Pv->Value->Bool
 | .bool a, .bool b=>a==b
 | .int k a, .int c b=>Yl k c && a==b
 | .str s, .string u=>s.isEmpty && Nat.beq u.data.size 0
 | _,_=>false
def XA:List Pv->List Value->Bool
 | [],[]=>true
 | p::a,v::b=>aBs p v && XA a b
 | _,_=>false
def OB:List Pv->List Pv->Bool
 | [],[]=>true
 | p::a,q::b=>Nat.beq p.kind q.kind && OB a b
 | _,_=>false
def Ye (T:TypeId->Option Ty)(S:Sh D)(f:Nat->Option (Bk D))(t:TypeId)(x i:Sl D)(b:Bool):Option (Out D):=
 match T t with
 | none=>none
 | some a=>(match a.mp with
  | none=>none
  | some (g,h)=>(match T g,T h with
   | some c,some d=>(match mapOf S f t x,aw8 i with
    | some m,some k=>
     if Nat.beq a.kind 0 && Nat.beq k.kind c.kind && (Nat.beq m.kind c.kind && (m.agg==d.zag && XA m.zero d.zero))then
      (match m.agg,m.get k with
      | true,e=>if b then some ⟨none, .tup [.agg e, .lf (.bool (m.has k))],[]⟩else some ⟨none, .one (.agg e),[]⟩
      | false,[y]=>if b then some ⟨none, .tup [.lf y, .lf (.bool (m.has k))],[]⟩else kN none y
      | _,_=>none)else none
    | _,_=>none)
   | _,_=>none))
def atj (a:Bool):Sl D->Option (List Pv)
 | .one (.lf x)=>if a then none else(match x.pv with
  | some p=>some [p]
  | none=>none)
 | .one (.agg b)=>if a then pvs b else none
 | _=>none
def Oe (T:TypeId->Option Ty)(S:Sh D)(c:Nat->Option (Bk D))(t:TypeId)(x i v:Sl D):Option (Out D):=
 match T t with
 | none=>none
 | some a=>(match a.mp with
  | none=>none
  | some (e,f)=>(match T e with
   | some b=>(match x,aw8 i with
    | .one (.lf (.own l)),some k=>(match c l with
     | some (.map d)=>(match S.mp d with
      | some m=>(match atj m.agg v with
       | some u=>if Nat.beq a.kind 0 && Nat.beq k.kind b.kind && (Nat.beq m.kind b.kind && OB u m.zero)then some ⟨none, .one (.lf .any),[(l,some (.map (m.put k u)))]⟩else none
       | none=>none)
      | none=>none)
     | _=>none)
    | _,_=>none)
   | _=>none))
def aGV:Lf D->Bool
 | .int .u8 _=>true
 | _=>false
def arV:Lf D->Bool
 | .int .u8 k=>decide (0<=k) && decide (k < 256)
 | _=>false
def zy (f:Nat->Bool):Nat->Bool
 | 0=>true
 | n+1=>f n && zy f n
def aGL:Lf D->UInt8
 | .int .u8 n=>UInt8.ofNat n.toNat
 | _=>0
def FI (S:Sh D)(d:D):Nat->Bool:=zy fun i=>aGV (S.cell d i 0)
def Yc (S:Sh D)(d:D):Nat->Bool:=zy fun i=>arV (S.cell d i 0)
def bytesOf (S:Sh D)(d:D):List UInt8:=(List.range (S.len d)).map fun i=>aGL (S.cell d i 0)
def arL (T:TypeId->Option Ty)(S:Sh D)(c:Nat->Option (Bk D))(src a:TypeId)(x:Sl D):Option (Out D):=
 match T src,T a with
 | some g,some f=>(match g.elem with
  | none=>none
  | some e=>(match T e with
   | none=>none
   | some b=>if Nat.beq f.kind 3 && (Nat.beq b.kind 24 && Nat.beq b.size 1)then(match x with
    | .one (.lf (.val (.slice none 0 0)))=>kN none (.str [])
    | x=>(match WJ c x with
     | some d=>if Nat.beq (S.size d) 1 then kN (some (dp (FI S d (S.len d)=true))) (.str (bytesOf S d))else none
     | none=>none))else none))
 | _,_=>none
def adX (T:TypeId->Option Ty)(S:Sh D)(src a:TypeId)(x:Sl D):Option (Out D):=
 match T src,T a with
 | some d,some c=>(match c.elem with
  | none=>none
  | some e=>(match T e with
   | none=>none
   | some b=>if Nat.beq d.kind 3 && (Nat.beq b.kind 24 && Nat.beq b.size 1)then(match x with
    | .one (.lf (.str s))=>(match S.text e s with
     | none=>none
     | some d2=>if Nat.beq (S.size d2) 1 then kN none (.dat d2)else none)
    | _=>none)else none))
 | _,_=>none
def Lf.dl:Lf D->Option (Dl D)
 | .bool b=>some (.bool b)
 | .val (.bool b)=>some (.bool b)
 | .int k n=>some (.int k n)
 | .str s=>some (.str s)
 | .dat d=>some (.dat d)
 | .val (.slice none 0 0)=>some .aE6
 | _=>none
def dls:List (Lf D)->Option (List (Dl D))
 | []=>some []
 | x::b=>(match x.dl,dls b with
  | some p,some a=>some (p::a)
  | _,_=>none)
def Dl.lf:Dl D->Lf D
 | .bool b=> .bool b
 | .int k n=> .int k n
 | .str s=> .str s
 | .dat d=> .dat d
 | .aE6=> .val (.slice none 0 0)
def awd (b:Bool)(a:List (Dl D)):Option (Sl D):=
 match b,a with
 | false,[x]=>some (.one (.lf x.lf))
 | true,a=>some (.one (.agg (a.map Dl.lf)))
 | _,_=>none
def ahz:Sl D->Option (Bool×List (Dl D))
 | .one (.lf x)=>(match x.dl with
  | some p=>some (false,[p])
  | none=>none)
 | .one (.agg a)=>(match dls a with
  | some b=>some (true,b)
  | none=>none)
 | _=>none
def aB9 (T:TypeId->Option Ty)(t:TypeId)(x:Sl D):Option (Out D):=
 match T t with
 | none=>none
 | some c=>if Nat.beq c.kind 0 then none else(match ahz x with
  | some (b,a)=>kN none (.xt (.ifd t b a))
  | none=>none)
def Z7 (a:Ty):Option (Sv D):=
 if a.agg then(if a.zag then some (.agg (a.zero.map vk))else none)else(match a.zero with
  | [z]=>if a.zag then none else some (.lf (vk z))
  | _=>none)
def aF4:Value->Bool
 | .slice _ _ _=>true
 | _=>false
def OO (T:TypeId->Option Ty)(t:TypeId)(x:Sl D)(c:Bool):Option (Out D):=
 match T t with
 | none=>none
 | some a=>if Nat.beq a.kind 0 then none else(match x with
  | .one (.lf (.xt (.ifd b e d)))=>(match awd e d with
   | some (.one u)=>(match c with
    | true=>if Nat.beq b t then some ⟨none, .tup [u, .lf (.val (.bool true))],[]⟩else(match Z7 a with
     | some z=>some ⟨none, .tup [z, .lf (.val (.bool false))],[]⟩
     | none=>none)
    | false=>if Nat.beq b t then some ⟨none, .one u,[]⟩else none)
   | _=>none)
  | .one (.lf (.Uo v))=>if a.zero.any aF4 then(match v with
   | none=>(match c with
    | true=>(match Z7 a with
     | some z=>some ⟨none, .tup [z, .lf (.val (.bool false))],[]⟩
     | none=>none)
    | false=>none)
   | some _=>none)else none
  | _=>none)
def aCd (f:FuncId)(x:Sl D):Option (Out D):=
 match ahz x with
 | some (a,b)=>kN none (.xt (.clo f a b))
 | none=>none
def adU (d:FuncId->Option (Ct D))(a:Nat->Option (Bk D))(c:Nat)(f:Sl D)(args:List (Sl D)):Option (Out D):=
 match f with
 | .one (.lf (.xt (.clo f e b)))=>(match awd e b with
  | some x=>VZ d f a (x::args) c
  | none=>none)
 | _=>none
def Yo (T:TypeId->Option Ty)(S:Sh D)(g:Nat->Option (Bk D))(t:TypeId)(x:Sl D)(i f:Option (Sl D)):Option (Out D):=
 match T t with
 | none=>none
 | some c=>if c.lit then(match bnd 0 i,c.elem with
  | some l,some e=>(match T e with
   | none=>none
   | some a=>(match x with
    | .one (.lf (.own q))=>(match g q with
     | some (.row _ d)=>if Nat.beq a.size (S.size d) && (Nat.blt 0 a.size && (!a.agg || a.lit))then(match bnd (S.len d) f with
      | some h=>(match S.sub d l.toNat h.toNat with
       | some b=>some ⟨some (dp (0<=l/\l<=h/\h<=S.len d)), .one (.lf (.dat b)),[(q,some (.ve d))]⟩
       | none=>none)
      | none=>none)else none
     | some (.ve d)=>if Nat.beq a.size (S.size d) && (Nat.blt 0 a.size && (!a.agg || a.lit))then(match bnd (S.len d) f with
      | some h=>(match S.sub d l.toNat h.toNat with
       | some b=>some ⟨some (dp (0<=l/\l<=h/\h<=S.len d)), .one (.lf (.dat b)),[]⟩
       | none=>none)
      | none=>none)else none
     | _=>none)
    | _=>none))
  | _,_=>none)else none
def TF (T:TypeId->Option Ty)(S:Sh D)(a:Nat->Option (Bk D))(f:Array TypeId)(x y:Sl D):Option (Out D):=
 match f.toList,y with
 | [t,b], .one (.lf (.val (.slice none 0 0)))=>if Nat.beq t b then(match T t with
  | none=>none
  | some c=>(match c.elem with
   | none=>none
   | some e=>(match T e with
    | none=>none
    | some g=>(match x with
     | .one (.lf (.val (.slice none 0 0)))=>kN none (.val (.slice none 0 0))
     | .one (.lf (.dat d))=>if Nat.blt 0 (S.size d)then kN none (.dat d)else none
     | .one (.lf (.own l))=>(match a l with
      | some (.row _ _)=>kN none (.own l)
      | _=>none)
     | _=>none))))else none
 | _,_=>none
def Tj (T:TypeId->Option Ty)(S:Sh D)(b:Nat)(h:Array TypeId)(x y:Sl D):Option (Out D):=
 match h.toList,x,y with
 | [t,c], .one (.lf (.val (.slice none 0 0))), .one (.lf (.int _ n))=>(match T t,T c with
  | some f,some g=>(match am_ g.kind,f.elem with
   | some _,some e=>(match T e with
    | some a=>if Nat.blt 0 a.size && Nat.beq a.zero.length a.size then(match S.zero e n.toNat (a.zero.map fun v=>(vk v).norm)with
     | some d=>some ⟨some (dp (0 < n/\n*a.bytes<=281474976710656/\n<=1099511627776)), .one (.lf (.own b)),[(b,some (.row e d))]⟩
     | none=>none)else none
    | none=>none)
   | _,_=>none)
  | _,_=>none)
 | _,_,_=>none
def aEs (T:TypeId->Option Ty)(b:Array TypeId)(x:Sl D):Option (Out D):=
 match b.toList,x with
 | [t], .one (.lf (.val (.slice none 0 0)))=>(match T t with
  | some a=>(match a.elem with
   | some _=>kN none (.int .i64 0)
   | none=>none)
  | none=>none)
 | _,_=>none
def ZC (T:TypeId->Option Ty)(S:Sh D)(c:Nat->Option (Bk D))(t:TypeId)(x:Sl D)(g j:Option (Sl D))(f:Sl D):Option (Out D):=
 match g,j,f with
 | none,some (.one (.lf (.int _ h))), .one (.lf (.int _ m))=>(match T t with
  | none=>none
  | some i=>(match i.elem with
   | none=>none
   | some e=>(match T e with
    | none=>none
    | some a=>(match x with
     | .one (.lf (.dat d))=>if Nat.beq a.size (S.size d) && Nat.blt 0 a.size then(match S.sub d 0 h.toNat with
      | some b=>kN (some (dp (0<=h/\h=m/\h<=S.len d))) (.xt (.clip b))
      | none=>none)else none
     | .one (.lf (.own q))=>(match c q with
      | some (.row _ d)=>if Nat.beq a.size (S.size d) && Nat.blt 0 a.size then(match S.sub d 0 h.toNat with
       | some b=>some ⟨some (dp (0<=h/\h=m/\h<=S.len d)), .one (.lf (.dat b)),[(q,some (.ve d))]⟩
       | none=>none)else none
      | _=>none)
     | _=>none))))
 | _,_,_=>none
def P8 (T:TypeId->Option Ty)(S:Sh D)(c:Nat->Option (Bk D))(b:Nat)(h:Array TypeId)(x y:Sl D):Option (Out D):=
 match x with
 | .one (.lf (.xt e))=>(match e with
  | .clip d1=>(match h.toList with
   | [t,f]=>if Nat.beq t f then(match T t with
    | none=>none
    | some g=>(match g.elem with
     | none=>none
     | some e=>(match T e with
      | none=>none
      | some a=>(match WJ c y with
       | none=>none
       | some d2=>if Nat.beq a.size (S.size d2) && (Nat.blt 0 a.size && Nat.beq a.zero.length a.size)then(match S.cat d1 d2 with
        | some d=>some ⟨some (dp (0 < S.len d2/\bM (S.len d1+S.len d2) a.bytes)), .one (.lf (.own b)),[(b,some (.row e d))]⟩
        | none=>none)else none))))else none
   | _=>none)
  | _=>none)
 | _=>none
def arq (T:TypeId->Option Ty)(S:Sh D)(b:BinOp)(t:TypeId)(x y:Sl D):Option (Out D):=
 match T t with
 | none=>none
 | some a=>if S.run && a.lit then(match a.elem,x,y with
  | some _, .one (.lf (.dat d)), .one (.lf (.val (.slice none 0 0)))=>if Nat.blt 0 (S.len d) && Nat.blt 0 (S.size d)then(match b with
   | .eql=>kN none (.val (.bool false))
   | .neq=>kN none (.val (.bool true))
   | _=>none)else none
  | _,_,_=>none)else none
def aAq (a:Ty):Bool:=
 match a.zero with
 | [.pointer none, .slice none 0 0]=>a.lit && a.agg && Nat.beq a.kind 5
 | _=>false
def YG (T:TypeId->Option Ty)(a:Nat)(t:TypeId):Option (Out D):=
 match T t with
 | none=>none
 | some b=>if aAq b then some ⟨none, .one (.lf (.ptr a 0)),[(a,some (.tc t [.val (.slice none 0 0)]))]⟩else none
def afH (T:TypeId->Option Ty)(a:Nat->Option (Bk D))(t:TypeId)(x:Sl D):Option (Out D):=
 match T t with
 | none=>none
 | some b=>(match x with
  | .one (.lf (.ptr l o))=>(match a l with
   | some (.tc _ cs)=>if b.agg then none else(match o with
    | 0=>none
    | o+1=>(match cs[o]? with
     | some y=>kN none y
     | none=>none))
   | _=>none)
  | _=>none)
def Za (T:TypeId->Option Ty)(b:Nat->Option (Bk D))(t:TypeId)(x y:Sl D):Option (Out D):=
 match T t,x,y with
 | some a, .one (.lf (.ptr l o)), .one (.lf u)=>(match b l with
  | some (.tc c cs)=>(match o with
   | 0=>none
   | o+1=>if Nat.beq a.size 1 && (!a.agg && (Nat.blt o cs.length && u.storable))then some ⟨none, .one (.lf .any),[(l,some (.tc c (putAt cs o [u])))]⟩else none)
  | _=>none)
 | _,_,_=>none
def aqg (a:Ty):Bool:=
 match a.zero with
 | [.int .u8 0]=> !a.zag
 | _=>false
def QQ (T:TypeId->Option Ty)(S:Sh D)(f:Nat->Option (Bk D))(a:Nat)(j:Array TypeId)(x y:Sl D):Option (Out D):=
 match j.toList,y with
 | [t,h], .one (.lf (.str s))=>(match T t,T h with
  | some i,some c=>(match i.elem with
   | none=>none
   | some e=>(match T e with
    | none=>none
    | some b=>if aqg b && (Nat.beq b.size 1 && (Nat.beq b.bytes 1 && Nat.beq c.kind 3))then(match S.text e s with
     | none=>none
     | some d2=>if Nat.beq (S.size d2) 1 then(match x with
      | .one (.lf (.val (.slice none 0 0)))=>some ⟨some (dp (bM s.length 1)), .one (.lf (.own a)),[(a,some (.row e d2))]⟩
      | .one (.lf (.own l))=>(match f l with
       | some (.row g d1)=>if Nat.beq e g && Nat.beq (S.size d1) 1 then(match S.cat d1 d2 with
        | some d=>some ⟨some (dp (bM (S.len d1+s.length) 1)), .one (.lf (.own a)),[(l,none),(a,some (.row e d))]⟩
        | none=>none)else none
       | _=>none)
      | _=>none)else none)else none))
  | _,_=>none)
 | _,_=>none
def Ee (S:Sh D)(a:Nat->Option (Bk D))(x:Sl D):Option (Out D):=
 match x with
 | .one (.lf (.own l))=>(match a l with
  | some (.row _ d)=>if Nat.beq (S.size d) 1 then kN (some (dp (0 < S.len d))) (.opt l 0 0 1)else none
  | _=>none)
 | .one (.lf (.val (.slice none 0 0)))=>kN none (.val (.pointer none))
 | _=>none
def ptrTo (T:TypeId->Option Ty)(c:Array TypeId)(e:TypeId):Bool:=
 match c.toList with
 | [f,_]=>(match T f,T e with
  | some a,some d=>Nat.beq a.kind 6 && (Nat.beq d.size 1 && (match a.mp with
   | some (b,_)=>Nat.beq e b
   | none=>false))
  | _,_=>false)
 | _=>false
def Ep (T:TypeId->Option Ty)(S:Sh D)(b:Nat->Option (Bk D))(a:Array TypeId)(x y:Sl D):Option (Out D):=
 match x,y with
 | .one (.lf (.opt l 0 0 1)), .one (.lf (.int .i64 n))=>(match b l with
  | some (.row e d)=>if ptrTo T a e && Nat.beq (S.size d) 1 then some ⟨some (dp (n=S.len d/\0 < n/\Yc S d (S.len d)=true)), .one (.lf (.str (bytesOf S d))),[(l,none)]⟩else none
  | _=>none)
 | .one (.lf (.val (.pointer none))), .one (.lf (.int .i64 n))=>(match a.toList with
  | [_,_]=>kN (some (dp (n=0))) (.str [])
  | _=>none)
 | _,_=>none
def awj (T:TypeId->Option Ty)(S:Sh D)(s:FuncId->Option (Ct D))(d:Nat->Sl D)(g:Nat->Option (Bk D))(j:Nat)(n:Op):Option (Out D):=
 match n with
 | .alloc t=>YG T j t
 | .load t x=>afH T g t (aI d x)
 | .store t x y=>Za T g t (aI d x) (aI d y)
 | .indexAddr t x i=>agJ T t (aI d x) (aI d i)
 | .index t x i=>YQ T t (aI d x) (aI d i)
 | .makeMap t none=>PU S t j
 | .slice t x m k none=>Yo T S g t (aI d x) (m.map (aI d)) (k.map (aI d))
 | .slice t x m k (some r)=>ZC T S g t (aI d x) (m.map (aI d)) (k.map (aI d)) (aI d r)
 | .lookup t x i o=>Ye T S g t (aI d x) (aI d i) o
 | .mapUpdate t x i v=>Oe T S g t (aI d x) (aI d i) (aI d v)
 | .insert t x i v=>Oe T S g t (aI d x) (aI d i) (aI d v)
 | .convert a b x=>(match arL T S g a b (aI d x)with
  | some h=>some h
  | none=>adX T S a b (aI d x))
 | .makeInterface t x=>aB9 T t (aI d x)
 | .typeAssert x _ t o=>OO T t (aI d x) o
 | .binOp n t x y _=>arq T S n t (aI d x) (aI d y)
 | .makeFunc (.func f) first l=>(match first.toList,l.toList with
  | [x],[]=>aCd f (aI d x)
  | _,_=>none)
 | .nilCheck x=>(match aI d x with
  | .one (.lf (.xt e))=>(match e with
   | .clo f q p=>kN none (.xt (.clo f q p))
   | _=>none)
  | _=>none)
 | .call c=>(match c.callee with
  | .value f=>adU s g j (aI d f) (c.args.toList.map (aI d))
  | .builtin .append=>(match c.args.toList with
   | [x,y]=>(match Tj T S j c.argTypes (aI d x) (aI d y)with
    | some h=>some h
    | none=>(match TF T S g c.argTypes (aI d x) (aI d y)with
     | some h=>some h
     | none=>(match P8 T S g j c.argTypes (aI d x) (aI d y)with
      | some h=>some h
      | none=>QQ T S g j c.argTypes (aI d x) (aI d y))))
   | _=>none)
  | .builtin .cap=>(match c.args.toList with
   | [x]=>aEs T c.argTypes (aI d x)
   | _=>none)
  | .builtin .unsafeSliceData=>(match c.args.toList with
   | [x]=>Ee S g (aI d x)
   | _=>none)
  | .builtin .unsafeString=>(match c.args.toList with
   | [x,y]=>Ep T S g c.argTypes (aI d x) (aI d y)
   | _=>none)
  | _=>none)
 | _=>none
def amQ:Op->Bool
 | .makeInterface _ _=>true
 | .makeFunc _ _ _=>true
 | _=>false
def aeD (T:TypeId->Option Ty)(S:Sh D)(g:FuncId->Option (Ct D))(b:Nat->Sl D)(a:Nat->Option (Bk D))(f:Nat)(d:Op):Option (Out D):=
 let e:=oU b d
 if amQ d && e.all (fun l=>isRow (a l))then
  (match awj T S g (ajL (uP d.operands.toList) b a) (iU a (e.filterMap (jQ a))) f d with
  | some c=>some ⟨c.pre,c.val,e.filterMap (jQ a)++c.blks⟩
  | none=>none)
 else none
def aF9 (T:TypeId->Option Ty)(S:Sh D)(e:FuncId->Option (Ct D))(a:Nat->Sl D)(c:Nat->Option (Bk D))(d:Nat)(f:Op):Option (Out D):=
 match awj T S e a c d f with
 | some b=>some b
 | none=>(match aeD T S e a c d f with
  | some b=>some b
  | none=>aHL T S e a c d f)
def aHH:Op->Bool
 | .load _ _ | .store _ _ _ | .indexAddr _ _ _ | .call _ | .slice _ _ _ _ _ | .buildSlice _ _ _ | .next _ _ | .lookup _ _ _ _ | .mapUpdate _ _ _ _ | .insert _ _ _ _ | .convert _ _ _ | .makeInterface _ _ | .makeFunc _ _ _=>true
 | _=>false
def isFn:Op->Bool
 | .call c=>(match c.callee with
  | .value _=>true
  | _=>false)
 | _=>false
def dR (a:Nat->Sl D)(b:Nat->Option (Bk D))(o:Op):List Nat:=
 if isFn o then reach b 3 (mi [] (o.operands.toList.flatMap fun x=>(aI a x).refs))else if aHH o then o.operands.toList.flatMap fun x=>(aI a x).refs else[]
def aeQ (b:Op)(a:Nat->Sl D):Nat->Sl D:=fun t=>bif ql t (uP b.operands.toList)then a t else .one (.lf .any)
def mJ (L:List Nat)(a:Nat->Option (Bk D)):Nat->Option (Bk D):=fun l=>bif ql l L then a l else none
def ayX (T:TypeId->Option Ty)(S:Sh D)(e:FuncId->Option (Ct D))(a:Nat->Sl D)(b:Nat->Option (Bk D))(d:Nat)(c:Op):Option (Out D):=aF9 T S e (aeQ c a) (mJ (dR a b c) b) d c
def agY (a:Nat->Sl D)(b:Nat->Option (Bk D))(c:Op):Option (Bool×Out D×Out D):=ao0 (aeQ c a) (mJ (dR a b c) b) c
def Does (T:TypeId->Option Ty)(S:Sh D)(i:FuncId->Option (Ct D))(a:Nat->Sl D)(d:Nat->Option (Bk D))(h:Nat)(g:Op)(c:Out D):Prop:=
 ayX T S i a d h g=some c\/∃b e f,agY a d g=some (b,e,f)/\c=bif b then e else f
end
section
variable {D:Type}{P:Program}{S:Sh D}{T:TypeId->Option Ty}{Γ:FuncId->Option (Ct D)}{M M' N:Nat->Prop}{w w':World}{w0:Bs}{g g':Nat->Option Value}{blk blk':Nat->Option (Bk D)}{al:Nat->Prop}
 {a:Act} {o:Oper} {K:Act->World->Prop} {Q:Exit->Act->World->Prop} {slot gu:Nat->Sl D} {out:Out D} {fr:Nat}
theorem Xb (d:∀t a,T t=some a->TyOk P t a){t e:TypeId}{n b:Nat}(h:awR T t=some (e,n,b)):∃a c,T t=some a/\T e=some c/\c.size=b/\0 < b/\a.size=n*b/\a.agg=true/\P.underlying t=some (.array n e)/\TyOk P t a/\TyOk P e c:=by
 unfold awR at h;split at h
 ·cases h
 ·split at h
  ·exact wJ d h
  ·cases h
theorem aaO {t:TypeId}{x d:Operand}(G:o.op= .indexAddr t x d)(u:∀t f,T t=some f->TyOk P t f)(h:Hp S w0 N blk g al w)(r:(aI slot x).Rel S (aJ N blk g) w g (a.eval x))
  (i:(aI slot d).Rel S (aJ N blk g) w g (a.eval d)) (c:agJ T t (aI slot x) (aI slot d)=some out) (B:kF out.pre) (E:Post S w0 N blk g al w fr out o.dst a K):o.wp P a w K Q:=by
 unfold agJ at c;split at c
 ·cases c
 ·rename_i e n z j;obtain⟨f,V,O,L,q,W,U,R,J,M,F⟩:=Xb u j;have H:=jG F w;split at c
  ·rename_i l y k m s p;rw[s]at r;rw[p]at i;simp only[Sl.Rel,Sv.Rel,Lf.Rel]at i;obtain⟨b,I,D⟩:=r;injection c with c
   subst c;obtain⟨C,A⟩:=B;refine aP (v:= .pointer (some ⟨b,y+m.toNat*z,none⟩)) ?_ h E rfl ⟨b,I,rfl⟩;simp[execOp,G,Instr.indexAt,Instr.sureAddr,i,asIntOf,run_underlying J,D,C,A,H,q,jY]
  ·cases c
theorem aN.at {g:Nat->Option Value}{a:List (Lf D)}{b:List Value}(h:aN S M w g a b){i:Nat}{x:Lf D}(c:a[i]? =some x):∃u,b[i]? =some u/\x.Rel S M w g u:=aN.get i h c
theorem aN.drop' {g:Nat->Option Value}:∀(n:Nat) {a:List (Lf D)} {b:List Value},aN S M w g a b->aN S M w g (a.drop n) (b.drop n)
 | 0,_,_,h=>h
 | n+1,[],[],_=>trivial
 | n+1,x::a,v::b,h=>aN.drop' n h.2
theorem aN.take' {g:Nat->Option Value}:∀(n:Nat) {a:List (Lf D)} {b:List Value},aN S M w g a b->aN S M w g (a.take n) (b.take n)
 | 0,_,_,h=>trivial
 | n+1,[],[],_=>trivial
 | n+1,x::a,v::b,h=>⟨h.1,aN.take' n h.2⟩
theorem Xu {t:TypeId}{x f:Operand}(I:o.op= .index t x f)(R:∀t q,T t=some q->TyOk P t q)(h:Hp S w0 N blk g al w)(L:(aI slot x).Rel S (aJ N blk g) w g (a.eval x))
  (i:(aI slot f).Rel S (aJ N blk g) w g (a.eval f)) (b:YQ T t (aI slot x) (aI slot f)=some out) (D:kF out.pre) (F:Post S w0 N blk g al w fr out o.dst a K):o.wp P a w K Q:=by
 unfold YQ at b;split at b
 ·cases b
 ·rename_i e n c z;obtain⟨q,te,Y,B,l,h0,UX,Z,O,X,H⟩:=Xb R z;rw[B]at b;dsimp only at b;have p:=jG H w;have j:=uK H w;split at b
  ·rename_i cs k m M G;rw[M]at L;rw[G]at i;simp only[Sl.Rel,Sv.Rel,Lf.Rel]at i;obtain⟨A,E,J⟩:=L;split at b
   rotate_left
   ·cases b
   split at b
   ·rename_i d;injection b with b
    subst b;obtain⟨s,r⟩:=D;refine aP (v:= .agg ((A.drop (m.toNat*c)).take c).toArray) ?_ h F rfl ⟨_,rfl,(J.drop' _).take' _⟩;have W:A.toArray.extract (m.toNat*c) (m.toNat*c+c)=((A.drop (m.toNat*c)).take c).toArray:=by
     grind
    simp[execOp,I,Instr.index,i,asIntOf,run_underlying O,E,s,r,part,j,d,p,l,W]
   ·rename_i d;split at b
    ·rename_i y V;injection b with b
     subst b;obtain⟨s,r⟩:=D;obtain⟨u,U,C⟩:=J.at V;refine aP (v:=u) ?_ h F rfl C;simp[execOp,I,Instr.index,i,asIntOf,run_underlying O,E,s,r,part,j,d,p,l,U]
    ·cases b
  ·cases b
theorem UB {t:TypeId}(q:ShOk S)(x:o.op= .makeMap t none)(h:Hp S w0 N blk g al w)(f:∀n,fr<=n->n < fr+64->¬al n)(c:PU S t fr=some out)(i:Post S w0 N blk g al w fr out o.dst a K):o.wp P a w K Q:=by
 unfold PU at c;split at c
 ·rename_i d p;injection c with c
  subst c;obtain⟨m,y,u⟩:=q.aA_ _ _ p;have e:(execOp a.eval o).run P w= .ok (.value (.map (some w.heap.size))) (w.alloc (.map #[] 0)):=by
   simp[execOp,x,Instr.makeMap,newObj,Sem.run]
  obtain⟨s,j,r⟩:=h.add (l:=fr) (bk:= .map d) (v:= .map (some w.heap.size)) ((Below.refl w.heap.size w).alloc (lH _) (.map #[] 0)) (f fr (lH _) ah) (fun b k=>by simp[dB]at k;omega)
   (fun M' z _=>⟨m,w.heap.size,#[],0,y,by grind,rfl, .inl h.below.size,heap_alloc_new w _,by rw[u];rfl⟩)
  exact jA e (i _ _ _ r j (s.weaken Po) (upd_same _ _ _))
 ·cases c
theorem Pv.beq_eq {p q:Pv}(h:Pv.beq p q=true):p=q:=by
 cases p<;>cases q<;>simp_all [Pv.beq,Yl]
theorem YP {t:TypeId}{ty:Ty}{p:Pv}{d:TypeDesc}(c:kindOf d=ty.kind)(a:Nat.beq p.kind ty.kind=true):MapKept.IsKey d p.val:=by
 have a:=Qa a;rw[<-c]at a;cases p with
 | bool b=>cases d<;>simp[Pv.kind,kindOf]at a<;>first | trivial | (rename_i k;cases k<;>simp[qm]at a)
 | str s=>cases d<;>simp[Pv.kind,kindOf]at a<;>first | trivial | (rename_i k;cases k<;>simp[qm]at a)
 | int k n=>cases d<;>simp[Pv.kind,kindOf]at a<;>first | (rename_i e;cases k<;>cases e<;>first | rfl | simp[qm]at a) | (cases k<;>simp[qm]at a)
theorem axk {d:TypeDesc}{p q:Pv}(a:MapKept.IsKey d p.val)(b:MapKept.IsKey d q.val):Instr.sameNow d p.val q.val=some (Pv.beq p q):=by
 cases p<;>cases q<;>cases d<;>simp_all [MapKept.IsKey,Instr.sameNow,Pv.val,Pv.beq,Yl]
 grind [MapKept.bytes_beq]
def zk {V:Type}(k:Pv):List (Pv×V)->Option (Nat×V)
 | []=>none
 | p::r=>if Pv.beq k p.1 then some (0,p.2)else(zk k r).map fun q=>(q.1+1,q.2)
theorem JU {V:Type}(k:Pv):∀a:List (Pv×V),vW k a=(zk k a).map (·.2)
 | []=>rfl
 | p::r=>by
  unfold vW zk;split
  ·rfl
  ·rw[JU k r];cases zk k r<;>rfl
theorem aa6 {V:Type}{k:Pv}:∀{b:List (Pv×V)} {q:Nat×V},zk k b=some q->∃p∈b,p.2=q.2
 | [],q,a=>by cases a
 | p::r,q,a=>by
  unfold zk at a;split at a
  ·grind
  ·cases c:zk k r with
   | none=>grind
   | some e=>
    rw[c]at a;injection a with a
    subst a;obtain⟨g,f,d⟩:=aa6 c
    grind
theorem QO {V:Type}{f:V->Value}{d:TypeDesc}{k:Pv}(c:MapKept.IsKey d k.val):∀(b:List MapEntry) (a:List (Pv×V)) (i:Nat),b.map (fun e=>(e.key,e.val))=a.map (fun p=>(p.1.val,f p.2))->(∀p∈a,MapKept.IsKey d p.1.val)->
  Instr.findNow d k.val b i=some ((zk k a).map fun q=>(i+q.1,f q.2))
 | [],[],_,_,_=>rfl
 | e::b,p::a,i,h,g=>by
  simp only[MQ,Qc5,Qbd]at h;unfold Instr.findNow zk;rw[h.1.1,axk c (g p oG)];cases l:Pv.beq k p.1 with
  | true=>simp[h.1.2]
  | false=>
   simp only[QO c b a (i+1) h.2 fun q j=>g q (by simp[j])];cases zk k a with
   | none=>simp
   | some q=>simp;omega
 | [],_::_,_,h,_=>by simp at h
 | _::_,[],_,h,_=>by simp at h
theorem IR {V:Type}{k:Pv}{v:V}:∀{a:List (Pv×V)},zk k a=none->TQ k v a=a++[(k,v)]
 | [],_=>rfl
 | p::r,h=>by
  unfold zk at h;unfold TQ;split at h
  ·cases h
  ·rename_i b;rw[vF b,IR qbs];rfl
theorem VG {V:Type}{k:Pv}{v:V}:∀{a:List (Pv×V)} {j:Nat} {u:V},zk k a=some (j,u)->∃p,a[j]? =some p/\p.1=k/\TQ k v a=a.set j (k,v)
 | [],_,_,h=>by cases h
 | p::r,j,u,h=>by
  unfold zk at h;unfold TQ;split at h
  ·grind [Pv.beq_eq]
  ·rename_i d;cases b:zk k r with
   | none=>grind
   | some q=>
    rw[b]at h;simp only[Qbh,Og,Qbd]at h;obtain⟨rfl,rfl⟩:=h;obtain⟨f,e,c,g⟩:=VG (v:=v) (j:=q.1) (u:=q.2) b
    grind
theorem acb {x:Sl D}{p:Pv}{v:Value}{M:Nat->Prop}{g:Nat->Option Value}(h:aw8 x=some p)(a:x.Rel S M w g v):v=p.val/\p.fits:=by
 unfold aw8 at h;split at h
 ·exact TD h a
 ·cases h
theorem ale {b:Bool}{x:Sl D}{c:List Pv}{v:Value}{M:Nat->Prop}{g:Nat->Option Value}(h:atj b x=some c)(f:x.Rel S M w g v):v=pO b c/\∀p∈c,p.fits:=by
 unfold atj at h;split at h
 ·split at h
  ·cases h
  ·rename_i a;have a:b=false:=by simpa using a
   subst a;split at h
   ·rename_i p j;injection h with h
    subst h;obtain⟨d,e⟩:=TD j f;exact⟨d,fun x k=>by grind⟩
   ·cases h
 ·split at h
  ·rename_i a;subst a;obtain⟨l,rfl,i⟩:=f;obtain⟨d,e⟩:=Om h i;exact⟨by rw[d];rfl,e⟩
  ·cases h
 ·cases h
theorem WN {t:TypeId}{a:Ty}{k v:TypeId}(h:TyOk P t a)(c:a.mp=some (k,v))(b:a.kind=0):P.underlying t=some (.map k v):=by
 obtain⟨i,d,z,e,_,f,_,rfl⟩:=kW h;dsimp only at c b;cases d<;>simp[ahN,kindOf]at c b
 grind
theorem alf {t:TypeId}{a:Ty}{k v:TypeId}(h:TyOk P t a)(c:a.mp=some (k,v))(b:a.kind=6):P.underlying t=some (.pointer k):=by
 obtain⟨i,d,z,e,_,f,_,rfl⟩:=kW h;dsimp only at c b;cases d<;>simp[ahN,kindOf]at c b
 grind
theorem Pv.Ui {p:Pv}{M:Nat->Prop}{g:Nat->Option Value}(a:p.fits):(Pv.lf (D:=D) p).Rel S M w g p.val:=by
 cases p with
 | bool b=>rfl
 | int k n=>rfl
 | str s=>exact⟨rfl,a⟩
theorem Pv.akt {M:Nat->Prop}{g:Nat->Option Value}:∀{a:List Pv},(∀p∈a,p.fits)->aN S M w g (a.map (Pv.lf (D:=D))) (a.map Pv.val)
 | [],_=>trivial
 | p::a,h=>⟨Pv.Ui (h p oG),Pv.akt fun q b=>h q (by simp[b])⟩
theorem ay_ {p:Pv}{v:Value}(h:aBs p v=true):v=p.val/\p.fits:=by
 unfold aBs at h;split at h
 ·simp at h;subst h;exact⟨rfl,trivial⟩
 ·simp only[Yl,iW,Qb6]at h;obtain⟨rfl,rfl⟩:=h;exact⟨rfl,trivial⟩
 ·rename_i s u;simp only[iW,List.isEmpty_iff]at h;obtain⟨rfl,a⟩:=h;have a:=Qa a;have:u.data= #[]:=Array.eq_empty_of_size_eq_zero a;refine⟨?_,by simp[Pv.fits]⟩;show Value.string u=Value.string ⟨#[]⟩
  rw[<-this]
 ·cases h
theorem VS:∀{a:List Pv} {b:List Value},XA a b=true->b=a.map Pv.val/\∀p∈a,p.fits
 | [],[],_=>⟨rfl,fun p c=>by simp at c⟩
 | p::a,v::b,h=>by
  simp only[XA,iW]at h;obtain⟨f,e⟩:=ay_ h.1;obtain⟨d,g⟩:=VS h.2
  grind
 | [],_::_,h=>by cases h
 | _::_,[],h=>by cases h
theorem TE:∀{a b:List Pv},OB a b=true->a.map Pv.kind=b.map Pv.kind
 | [],[],_=>rfl
 | p::a,q::b,h=>by
  simp only[OB,iW]at h;simp[Qa h.1,TE h.2]
 | [],_::_,h=>by cases h
 | _::_,[],h=>by cases h
theorem aDB (f:ShOk S)(h:Hp S w0 N blk g al w){t:TypeId}{x:Sl D}{v:Value}{m:Mp D}(a:mapOf S blk t x=some m)(e:x.Rel S (aJ N blk g) w g v):azl S m/\ap5 w m.agg m.kvs v:=by
 unfold mapOf at a;split at a
 ·rename_i l;have e:g l=some v:=e;split at a
  ·rename_i d j;obtain⟨q,b,s,r,k,n,c,y,rfl,_,o,z⟩:=h.bY l _ j;rw[a]at c;injection c with c
   subst c;rw[e]at b;injection b with b
   exact⟨(f.xK _ _ a).2.2,y, .inr ⟨r,k,n,b,o,z⟩⟩
  ·rename_i d j;obtain⟨q,b,i⟩:=h.bY l _ j;rw[e]at b;injection b with b
   subst b;exact⟨(f.xK _ _ a).2.2,bQ.map i a⟩
  ·cases a
 ·exact⟨(f.xK _ _ a).2.2,bQ.map e a⟩
 ·split at a
  ·rename_i d i;obtain⟨s,c,A⟩:=f.aA_ _ _ i;rw[a]at c;injection c with c
   subst c;refine⟨(f.xK _ _ a).2.2,?_⟩;rw[A];exact⟨fun p u=>by simp at u, .inl ⟨e,rfl⟩⟩
  ·cases a
 ·cases a
theorem XC {t:TypeId}{x I:Operand}{E:Bool}(hS:ShOk S)(ho:o.op= .lookup t x I E)(J:∀t ty,T t=some ty->TyOk P t ty)(h:Hp S w0 N blk g al w)(hx:(aI slot x).Rel S (aJ N blk g) w g (a.eval x))
  (hi:(aI slot I).Rel S (aJ N blk g) w g (a.eval I)) (b:Ye T S blk t (aI slot x) (aI slot I) E=some out) (hK:Post S w0 N blk g al w fr out o.dst a K):o.wp P a w K Q:=by
 unfold Ye at b;split at b
 ·cases b
 rename_i ty hty;split at b
 ·cases b
 rename_i U vt hmp;split at b
 ·rename_i tk tv htk htv;split at b
  ·rename_i m k hmo hk;split at b
   ·rename_i hc;simp only[iW,Qb6]at hc;obtain⟨⟨c0,c1⟩,c2,W,c4⟩:=hc;have vJ:=WN (J _ _ hty) hmp (Qa c0);obtain⟨d,hd,ab⟩:=lK (J _ _ htk);have L:=YP (t:=U) (ty:=tk) ab c1;obtain⟨aa,hkf⟩:=acb hk hi;obtain⟨O,hfits,hmap⟩:=aDB hS h hmo hx;have c2':=Qa c2;have ag:∀p∈m.kvs,MapKept.IsKey d p.1.val:=fun p i=>YP (t:=U) (ty:=tk) ab (by rw[O.keys p i];exact c2)
    have ac:k.kind=m.kind:=by simp_all
    have C:=O.has k ac;have j:=O.get k ac;obtain⟨z,hz,hzc,F⟩:=aeF (J _ _ htv) w;obtain⟨H,z2⟩:=VS c4;have hzv:∀p,m.get k=m.zero.map Pv.lf->(m.agg=true\/m.zero=[p])->z=pO m.agg m.zero:=by
     intro p _ i;rw[<-hzc]at H;cases s:m.agg with
     | true=>
      rw[s]at W;rw[<-W]at F;cases z<;>first | (simp[xw]at F;done) | skip
      rename_i cs;simp only[Value.cells]at H;show Value.agg cs=Value.agg (m.zero.map Pv.val).toArray
      rw[<-H]
     | false=>
      rw[s]at W i;rw[<-W]at F;have i:=i.resolve_left oG;rw[i]at H⊢;cases z<;>first | (simp[xw]at F;done) | (simp[Value.cells]at H;exact H)
    have run:∀(f:List Pv),(vW k m.kvs).getD m.zero=f->(m.agg=true\/∃p,f=[p])->(Instr.lookup t (a.eval x) (a.eval I) E).run P w= .ok (if E then .tuple #[pO m.agg f, .bool (m.has k)]else pO m.agg f) w/\∀p∈f,p.fits:=by
     intro f c i;have M:∀(A:Array MapEntry),A.toList.map (fun e=>(e.key,e.val))=m.kvs.map (fun p=>(p.1.val,pO m.agg p.2))->((do
       Instr.checkKey A.isEmpty 10000 U k.val
       let (v,ok')<-match<-Instr.findKey U k.val A.toList with
        | some (_,v)=>pure (v,true)
        | none=>pure (<-zeroValue vt,false)
       pure (if E then .tuple #[v, .bool ok']else v)):Sem Value).run P w= .ok (if E then .tuple #[pO m.agg f, .bool (m.has k)]else pO m.agg f) w:=by
      intro A he;have hf:(Instr.findKey U k.val A.toList).run P w= .ok ((zk k m.kvs).map fun q=>(0+q.1,pO m.agg q.2)) w:=MapKept.run_findKey hd (QO L A.toList m.kvs 0 he ag);have hck:=MapKept.run_checkKey (P:=P) (w:=w) hd L A.isEmpty 9999;rw[JU]at C c j;cases V:zk k m.kvs with
      | some q=>
       simp_all
      | none=>
       rw[V]at hf C c j;simp only[Qbz,Option.getD_none,Option.isSome_none]at c C j;have hzz:z=pO m.agg m.zero:=by
        rcases i with i | ⟨p,i⟩
        ·exact hzv (.bool false) j (.inl i)
        grind
       simp_all
     refine⟨?_,?_⟩
     ·rcases hmap with⟨hv,ad⟩ | ⟨r,A,n,hv,hh,he⟩
      ·have X:=M #[] (by rw[ad];rfl);rw[<-X,hv,aa];simp[Instr.lookup,run_underlying vJ];rfl
      ·have X:=M A he;rw[<-X,hv,aa];simp[Instr.lookup,run_underlying vJ,MapKept.run_getObj_map hh];rfl
     ·rw[JU]at c;cases V:zk k m.kvs with
      | some q=>
       rw[V]at c;obtain⟨p,h1,X⟩:=aa6 V
       grind
      | none=>
       grind
    have Z:∀(y:Sv D) (f:List Pv),(vW k m.kvs).getD m.zero=f->(m.agg=true\/∃p,f=[p])->((∀p∈f,p.fits)->y.Rel S (aJ N blk g) w g (pO m.agg f))->
      (if E then some (⟨none, .tup [y, .lf (.bool (m.has k))],[]⟩:Out D)else some ⟨none, .one y,[]⟩)=some out->o.wp P a w K Q:=by
     intro y f c i hy l;obtain⟨u,B⟩:=run f c i;have Y:=hy B;split at l
     ·rename_i R;injection l with l
      subst l;rw[Ai R]at u;refine aP (v:= .tuple #[pO m.agg f, .bool (m.has k)]) ?_ h hK rfl ⟨[_,_],rfl,Y,rfl,trivial⟩;simp[execOp,ho,u]
     ·rename_i R;injection l with l
      subst l;rw[vF R]at u;refine aP (v:=pO m.agg f) ?_ h hK rfl Y;simp[execOp,ho,u]
    split at b
    ·rename_i s;refine Z (.agg (m.get k)) _ rfl (.inl s) (fun B=> ?_) b;rw[s,j];exact⟨_,rfl,Pv.akt B⟩
    ·rename_i y s G;rw[j]at G;have c:∃p,(vW k m.kvs).getD m.zero=[p]:=by
      cases hl:(vW k m.kvs).getD m.zero with
      | nil=>grind
      | cons p r=>
       rw[hl]at G;cases r with
       | nil=>grind
       | cons q r=>simp at G
     obtain⟨p,c⟩:=c;rw[c]at G;have hye:y=Pv.lf p:=by grind
     subst hye;refine Z (.lf (Pv.lf p)) [p] c (.inr ⟨p,rfl⟩) (fun B=> ?_) b;rw[s];exact Pv.Ui (B p oG)
    ·cases b
   ·cases b
  ·cases b
 ·cases b
theorem F7 {t:TypeId}{x D y:Operand}(hS:ShOk S)(J:o.op= .mapUpdate t x D y\/o.op= .insert t x D y)(M:∀t ty,T t=some ty->TyOk P t ty)(h:Hp S w0 N blk g al w)(I:(aI slot x).Rel S (aJ N blk g) w g (a.eval x))
  (hi:(aI slot D).Rel S (aJ N blk g) w g (a.eval D)) (hy:(aI slot y).Rel S (aJ N blk g) w g (a.eval y)) (b:Oe T S blk t (aI slot x) (aI slot D) (aI slot y)=some out) (hK:Post S w0 N blk g al w fr out o.dst a K):o.wp P a w K Q:=by
 unfold Oe at b;split at b
 ·cases b
 rename_i ty hty;split at b
 ·cases b
 rename_i kt vt hmp;split at b
 rotate_left
 ·cases b
 rename_i tk htk;split at b
 rotate_left
 ·cases b
 rename_i l k hex hk;rw[hex]at I;have I:g l=some (a.eval x):=I;split at b
 rotate_left
 ·cases b
 rename_i d0 hb;split at b
 rotate_left
 ·cases b
 rename_i m O;split at b
 rotate_left
 ·cases b
 rename_i u hu;split at b
 rotate_left
 ·cases b
 rename_i hc;injection b with b
 subst b;simp only[iW]at hc;obtain⟨⟨c0,c1⟩,c2,c3⟩:=hc;have vJ:=WN (M _ _ hty) hmp (Qa c0);obtain⟨d,hd,R⟩:=lK (M _ _ htk);have B:=YP (t:=kt) (ty:=tk) R c1;have V:=(hS.xK _ _ O).2.2;have Z:∀p∈m.kvs,MapKept.IsKey d p.1.val:=fun p hp=>YP (t:=kt) (ty:=tk) R (by rw[V.keys p hp];exact c2)
 have H:k.kind=m.kind:=by simp_all
 obtain⟨m',hm',aIq,aJK⟩:=V.put k u H (TE c3);obtain⟨azE,hkf⟩:=acb hk hi;obtain⟨huv,huf⟩:=ale hu hy;obtain⟨v',s,m2,r,c,n,C,hf,rfl,z_,E,F⟩:=h.bY l _ hb;rw[O]at C;injection C with C
 subst C;rw[I]at s;injection s with s
 have z:=MapKept.run_findKey (P:=P) (w:=w) hd (QO B c.toList m.kvs 0 F Z);have X:=MapKept.run_checkKey (P:=P) (w:=w) hd B false 9999;have L:∀(f:Array MapEntry) (G:Nat),(Instr.mapUpdate t (.map (some r)) k.val (pO m.agg u)).run P w= .ok () {w with heap:=w.heap.setIfInBounds r (.map f G)}->f.toList.map (fun e=>(e.key,e.val))=(TQ k u m.kvs).map (fun p=>(p.1.val,pO m.agg p.2))->(∀p∈TQ k u m.kvs,p.1.fits/\∀x∈p.2,x.fits)->o.wp P a w K Q:=by
  intro f G Y he' hf';obtain⟨q1,q2⟩:=MapKept.heap_set (o':=Obj.map f G) E;obtain⟨U,hk'⟩:=h.write (w':={w with heap:=w.heap.setIfInBounds r (.map f G)}) (bk':= .map (m.put k u)) hb rfl rfl I (by rw[s];rfl) rfl rfl rfl oG (fun m hm=>q2 m hm)
   (fun _=>⟨m',r,f,G,hm',by rw[aIq];exact hf',s,z_,q1,by grind⟩)
  refine Ic ?_ (hK _ _ _ (More.refl _) hk' (U.weaken fun _ h=> .inl h) trivial);rcases J with J | J<;>simp[execOp,J,s,azE,huv,Y]
 cases A:zk k m.kvs with
 | none=>
  rw[A]at z;refine L (c.push {key:=k.val,val:=pO m.agg u,born:=n}) (n+1) ?_ ?_ ?_
  ·simp only[Qbz]at z;simp[Instr.mapUpdate,run_underlying vJ,MapKept.run_getObj_map E,X,z,MapKept.run_setObj_map _ E]
  ·rw[IR A];simp[F]
  ·rw[IR A];intro p hp
   grind
 | some q=>
  rw[A]at z;obtain⟨p,hp1,hp2,W⟩:=VG (v:=u) (j:=q.1) (u:=q.2) A;have hlen:c.toList.length=m.kvs.length:=by have:=Qb3 List.length F;grind
  have hql:q.1 < c.size:=by
   grind
  have hej:c[q.1]? =some c[q.1]:=Array.getElem?_eq_getElem hql;have H:c[q.1].key=k.val:=by
   have h1:(c.toList.map (fun e=>(e.key,e.val)))[q.1]? =(m.kvs.map fun p=>(p.1.val,pO m.agg p.2))[q.1]? :=by rw[F]
   grind
  refine L (c.modify q.1 fun e=>{e with key:=k.val,val:=pO m.agg u}) n ?_ ?_ ?_
  ·simp only[Qbh,JH]at z;simp[Instr.mapUpdate,run_underlying vJ,MapKept.run_getObj_map E,X,z,hej,H,MapKept.run_keyThatStays B,MapKept.run_setObj_map _ E]
  ·rw[W];refine List.ext_getElem? fun i=> ?_;have h1:(c.toList.map (fun e=>(e.key,e.val)))[i]? =(m.kvs.map fun p=>(p.1.val,pO m.agg p.2))[i]? :=by rw[F]
   grind
  ·rw[W];intro p' U
   grind
theorem afq (a:List Int):∀(b:ByteArray),a.foldl (fun r n=>r.push (UInt8.ofNat n.toNat)) b=⟨(b.data.toList++a.map fun n=>UInt8.ofNat n.toNat).toArray⟩:=by
 induction a with
 | nil=>intro b;simp
 | cons n a c=>
  simp_all
theorem X9 {f:Nat->Bool}:∀{n:Nat},zy f n=true->∀i,i < n->f i=true
 | 0,_,i,a=>by omega
 | n+1,h,i,a=>by
  simp only[zy,iW]at h;by_cases e:i=n
  ·grind
  ·exact X9 h.2 i ah
theorem acO {d:D}{n:Nat}(h:FI S d n=true)(i:Nat)(a:i < n):∃k,S.cell d i 0= .int .u8 k:=by
 have:=X9 h i a;unfold aGV at this
 grind
theorem amY {d:D}{n:Nat}(h:Yc S d n=true)(i:Nat)(a:i < n):∃k,S.cell d i 0= .int .u8 k/\0<=k/\k < 256:=by
 have:=X9 h i a;unfold arV at this
 grind
theorem WI {f g:Nat->Bool}(h:∀i,f i=true->g i=true):∀{n:Nat},zy f n=true->zy g n=true
 | 0,_=>rfl
 | n+1,a=>by
  simp only[zy,iW]at a⊢;exact⟨h n a.1,WI h a.2⟩
theorem afL {d:D}{n:Nat}(h:Yc S d n=true):FI S d n=true:=
 WI (fun i a=>by
  unfold arV at a;split at a
  ·rename_i k b;rw[b];rfl
  ·cases a) h
theorem Rz {d:D}{a:List Value}{M:Nat->Prop}{g:Nat->Option Value}(h:S.size d=1)(m:FI S d (S.len d)=true)(p:a.length=S.len d*S.size d)
  (o:∀i j,i < S.len d->j < S.size d->∃u,a[i*S.size d+j]? =some u/\(S.cell d i j).Rel S M w g u):∃l:List Int,a=l.map (Value.int .u8)/\l.map (fun n=>UInt8.ofNat n.toNat)=bytesOf S d:=by
 rw[h,Qdk]at p;have f:∀i,i < S.len d->∃k,S.cell d i 0= .int .u8 k/\a[i]? =some (.int .u8 k):=fun i b=>by
  obtain⟨k,c⟩:=acO m i b;obtain⟨u,q,e⟩:=o i 0 b ah;rw[c]at e;rw[h,Qdk,Qba]at q;have e:u= .int .u8 k:=e
  grind
 refine⟨(List.range (S.len d)).map fun i=>match S.cell d i 0 with
  | .int .u8 n=>n
  | _=>0,?_,?_⟩
 ·refine List.ext_getElem? fun i=> ?_
  grind
 ·unfold bytesOf;rw[Qcb];refine Qbq fun i b=> ?_;obtain⟨k,c,_⟩:=f i (Qcg.1 b);simp[c,aGL]
theorem afN {t j:TypeId}{x:Operand}(hS:ShOk S)(ho:o.op= .convert t j x)(y:∀t R,T t=some R->TyOk P t R)(h:Hp S w0 N blk g al w)(f:(aI slot x).Rel S (aJ N blk g) w g (a.eval x))
  (b:arL T S blk t j (aI slot x)=some out) (H:kF out.pre) (hK:Post S w0 N blk g al w fr out o.dst a K):o.wp P a w K Q:=by
 unfold arL at b;split at b
 ·rename_i ts td L X;split at b
  ·cases b
  rename_i e Z;split at b
  ·cases b
  rename_i te V;have C:=jr (y _ _ L) Z;split at b
  ·rename_i z;simp only[iW]at z;obtain⟨F,E,c3⟩:=z;have F:=Qa F;have E:=Qa E;obtain⟨dd,m,r⟩:=lK (y _ _ X);obtain⟨de,n,p⟩:=lK (y _ _ V);have m:P.underlying j=some .string:=by
    rw[F]at r;cases dd<;>simp[kindOf]at r<;>first | exact m | (rename_i k;cases k<;>simp[qm]at r)
   have n:P.underlying e=some (.int .u8):=by
    rw[E]at p;cases de<;>simp[kindOf]at p<;>(rename_i k;cases k<;>simp[qm]at p;exact n)
   split at b
   ·rename_i i;rw[i]at f;have f:a.eval x= .slice none 0 0:=f;injection b with b
    subst b;refine aP (v:= .string ⟨#[]⟩) ?_ h hK rfl ⟨rfl,by simp⟩;simp only[execOp,ho,f,Sem.run_bind,run_convert_bytes_string w t j e none 0 0 C n m];rfl
   ·split at b
    ·rename_i d c;split at b
     ·rename_i z;have Y:=Qa z;injection b with b
      subst b;obtain⟨J,s,I,hv,U,hmem,A,hone,B⟩:=Ew hS h f c ah;obtain⟨W,hn1,aa⟩:=Rz Y H U B;have hlen:(bytesOf S d).length=S.len d:=by simp[bytesOf]
      have hle:S.len d<=9223372036854775807:=by
       unfold WJ at c;split at c
       ·rename_i O i;injection c with c
        subst c;rw[i]at f;exact bQ.ahn f
       ·rename_i l i;rw[i]at f;have f:g l=some (a.eval x):=f;split at c
        ·rename_i e' O q;injection c with c
         subst c;obtain⟨_,_,D,_⟩:=h.bY l _ q;exact D.2.1
        ·rename_i O q;injection c with c
         subst c;obtain⟨_,_,D⟩:=h.bY l _ q;exact bQ.ahn D
        ·cases c
       ·cases c
      refine aP (v:= .string ⟨(bytesOf S d).toArray⟩) ?_ h hK rfl ⟨rfl,by omega⟩;have M:=run_convert_bytes_string w t j e J (S.len d) s C n m;have q:(Conv.bytesToString (.slice J (S.len d) s)).run P w= .ok (.string ⟨(bytesOf S d).toArray⟩) w:=by
       cases J with
       | none=>
        have h0:=A rfl;have:bytesOf S d=[]:=Qci ah;rw[this];rfl
       | some G=>
        have hld:(loadCells G (S.len d)).run P w= .ok (W.map (Value.int .u8)).toArray w:=by
         have:=run_loadCells (P:=P) (w:=w) G I 0 #[] (fun k u hk=>by grind);rw[U,Y,Qdk]at this;simpa[loadCells,hn1]using this
        rw[run_bytesToString w G (S.len d) s W hld,afq,aa];simp
      simp only[execOp,ho,hv,Sem.run_bind,M,q,Result.andThen_ok,Sem.run_pure]
     ·cases b
    ·cases b
  ·cases b
 ·cases b
theorem apQ {x:Lf D}{p:Dl D}{v:Value}{M:Nat->Prop}{g:Nat->Option Value}(h:x.dl=some p)(a:x.Rel S M w g v):p.Rel S M w v:=by
 unfold Lf.dl at h;split at h<;>first | (injection h with h;subst h;exact a) | cases h
theorem ajg {M:Nat->Prop}{g:Nat->Option Value}:∀{b:List (Lf D)} {a:List (Dl D)} {c:List Value},dls b=some a->aN S M w g b c->rF S M w a c
 | [],a,[],h,_=>by simp[dls]at h;subst h;trivial
 | x::b,a,v::c,h,d=>by
  unfold dls at h;split at h
  ·rename_i p i f e;injection h with h
   subst h;exact⟨apQ f d.1,ajg e d.2⟩
  ·cases h
theorem U5 {M:Nat->Prop}{g:Nat->Option Value}{x:Sl D}{f:Bool}{e:List (Dl D)}{v:Value}(h:ahz x=some (f,e))(a:x.Rel S M w g v):J8 S M w f e v:=by
 unfold ahz at h;split at h
 ·split at h
  ·rename_i p d;injection h with h
   injection h with c b
   subst c b;exact apQ d a
  ·cases h
 ·split at h
  ·rename_i k d;injection h with h
   injection h with c b
   subst c b;obtain⟨i,j,a⟩:=a;exact⟨i,j,ajg d a⟩
  ·cases h
 ·cases h
theorem Dl.Ui {M:Nat->Prop}{g:Nat->Option Value}{p:Dl D}{v:Value}(h:p.Rel S M w v):p.lf.Rel S M w g v:=by
 cases p<;>exact h
theorem aqE {M:Nat->Prop}{g:Nat->Option Value}:∀{a:List (Dl D)} {b:List Value},rF S M w a b->aN S M w g (a.map Dl.lf) b
 | [],[],_=>trivial
 | p::a,v::b,h=>⟨Dl.Ui h.1,aqE h.2⟩
theorem abf {M:Nat->Prop}{g:Nat->Option Value}{c:Bool}{b:List (Dl D)}{x:Sl D}{v:Value}(h:awd c b=some x)(a:J8 S M w c b v):x.Rel S M w g v:=by
 unfold awd at h;split at h
 ·injection h with h
  subst h;exact Dl.Ui a
 ·injection h with h
  subst h;obtain⟨d,e,a⟩:=a;exact⟨d,e,aqE a⟩
 ·cases h
theorem am0 {t:TypeId}{x:Operand}(n:o.op= .makeInterface t x)(j:∀t c,T t=some c->TyOk P t c)(h:Hp S w0 N blk g al w)(m:(aI slot x).Rel S (aJ N blk g) w g (a.eval x))
  (b:aB9 T t (aI slot x)=some out) (k:Post S w0 N blk g al w fr out o.dst a K):o.wp P a w K Q:=by
 unfold aB9 at b;split at b
 ·cases b
 ·rename_i c i;split at b
  ·cases b
  ·rename_i f;have f:c.kind≠0:=fun e=>f qcr
   have d:=run_makeInterface (P:=P) w t (a.eval x) (wH (j _ _ i) f);split at b
   ·rename_i q p l;injection b with b
    subst b;refine aP (v:= .iface t (a.eval x)) ?_ h k rfl ⟨_,rfl,U5 l m⟩;simp[execOp,n,d]
   ·cases b
theorem Q_ {P:Program}{t:TypeId}{d:Ty}{z:Sv D}{M:Nat->Prop}{g:Nat->Option Value}(h:TyOk P t d)(a:Z7 d=some z)(w:World):∃u,(zeroValue t).run P w= .ok u w/\z.Rel S M w g u:=by
 obtain⟨u,j,f,e⟩:=aeF h w;refine⟨u,j,?_⟩;unfold Z7 at a;split at a
 ·split at a
  ·rename_i b;injection a with a
   subst a;rw[b]at e;cases u<;>simp[xw]at e
   rename_i cs;refine⟨cs.toList,by simp,?_⟩;have:cs.toList=d.zero:=by rw[<-f];rfl
   rw[this];exact pR _
  ·cases a
 ·split at a
  ·rename_i i c;split at a
   ·cases a
   ·rename_i b;injection a with a
    subst a;have b:d.zag=false:=by simpa using b
    rw[b]at e;rw[<-f]at c;have:u=i:=by cases u<;>first | (simp[Value.cells]at c;exact c) | (simp[xw]at e)
    subst this;exact xZ _
  ·cases a
theorem UG {t L:TypeId}{x:Operand}{I:Bool}(B:o.op= .typeAssert x L t I)(r:∀t s,T t=some s->TyOk P t s)(h:Hp S w0 N blk g al w)(C:(aI slot x).Rel S (aJ N blk g) w g (a.eval x))
  (b:OO T t (aI slot x) I=some out) (A:Post S w0 N blk g al w fr out o.dst a K):o.wp P a w K Q:=by
 unfold OO at b;split at b
 ·cases b
 rename_i s m;split at b
 ·cases b
 rename_i F;have F:s.kind≠0:=fun e=>F qcr
 have f:=wH (r _ _ m) F;unfold Program.concrete at f;split at b
 ·rename_i H R J p;rw[p]at C;obtain⟨u,j,G⟩:∃u,a.eval x= .iface H u/\J8 S (aJ N blk g) w R J u:=C;split at b
  ·rename_i y O;have D:y.Rel S (aJ N blk g) w g u:=abf (x:= .one y) O G;cases c:P.underlying t with
   | none=>grind
   | some d=>
    rw[c]at f;split at b
    ·split at b
     ·rename_i i;have i:=Qa i;subst i;injection b with b
      subst b;refine aP (v:= .tuple #[u, .bool true]) ?_ h A rfl ⟨[u, .bool true],rfl,D,rfl,trivial⟩;cases d<;>first | (cases f;done) | simp[execOp,B,Instr.typeAssert,run_underlying c,j]
     ·rename_i k;have k:¬H=t:=fun e=>k (by rw[e];simp)
      split at b
      ·rename_i z E;injection b with b
       subst b;obtain⟨n,q,l⟩:=Q_ (S:=S) (M:=aJ N blk g) (g:=g) (r _ _ m) E w;refine aP (v:= .tuple #[n, .bool false]) ?_ h A rfl ⟨[n, .bool false],rfl,l,rfl,trivial⟩;cases d<;>first | (cases f;done) | simp[execOp,B,Instr.typeAssert,run_underlying c,j,k,q]
      ·cases b
    ·split at b
     ·rename_i i;have i:=Qa i;subst i;injection b with b
      subst b;refine aP (v:=u) ?_ h A rfl D;cases d<;>first | (cases f;done) | simp[execOp,B,Instr.typeAssert,run_underlying c,j]
     ·cases b
  ·cases b
 ·rename_i v p;split at b
  ·split at b
   ·rw[p]at C;have j:a.eval x= .nilIface:=C.1;split at b
    ·split at b
     ·rename_i z E;injection b with b
      subst b;obtain⟨n,q,l⟩:=Q_ (S:=S) (M:=aJ N blk g) (g:=g) (r _ _ m) E w;cases c:P.underlying t with
      | none=>grind
      | some d=>
       rw[c]at f;refine aP (v:= .tuple #[n, .bool false]) ?_ h A rfl ⟨[n, .bool false],rfl,l,rfl,trivial⟩;cases d<;>first | (cases f;done) | simp[execOp,B,Instr.typeAssert,run_underlying c,j,q]
     ·cases b
    ·cases b
   ·cases b
  ·cases b
 ·cases b
theorem alh {f:FuncId}{first caps:Array Operand}{x:Operand}(k:o.op= .makeFunc (.func f) first caps)(n:first.toList=[x])(m:caps.toList=[])(h:Hp S w0 N blk g al w)(j:(aI slot x).Rel S (aJ N blk g) w g (a.eval x))
  (b:aCd f (aI slot x)=some out) (c:Post S w0 N blk g al w fr out o.dst a K):o.wp P a w K Q:=by
 unfold aCd at b;split at b
 ·rename_i p l e;injection b with b
  subst b;have d:first= #[x]:=by grind
  have i:caps= #[]:=by grind
  refine aP (v:= .func (.func f) #[a.eval x] #[]) ?_ h c rfl ⟨_,rfl,U5 e j⟩;simp[execOp,k,Instr.makeFunc,d,i]
 ·cases b
theorem aeb {op:BinOp}{t D:TypeId}{x y:Operand}(r:o.op= .binOp op t x y D)(A:∀t l,T t=some l->TyOk P t l)(h:Hp S w0 N blk g al w)(c:(aI slot x).Rel S (aJ N blk g) w g (a.eval x))
  (f:(aI slot y).Rel S (aJ N blk g) w g (a.eval y)) (b:arq T S op t (aI slot x) (aI slot y)=some out) (q:Post S w0 N blk g al w fr out o.dst a K):o.wp P a w K Q:=by
 unfold arq at b;split at b
 ·cases b
 rename_i l s;split at b
 ·split at b
  ·rename_i e d C z E;split at b
   ·rename_i m;simp only[iW,Qce]at m;have j:=jr (A _ _ s) C;rw[z]at c;rw[E]at f;have c:bQ S (aJ N blk g) w d (a.eval x):=c;have f:a.eval y= .slice none 0 0:=f;obtain⟨F,i,p,B⟩:=bQ.slice c ah;rw[p]at c;obtain⟨n,rfl⟩:=bQ.yG c m.1 m.2;have k:=fun w=>jR (P:=P) (w:=w) (op:=op) (t:=t) (x:=x) (y:=y) (u:= .slice (some n) (S.len d) i) (v:= .slice none 0 0) rfl oG
    split at b
    ·injection b with b;subst b
     refine aP (v:= .bool false) ?_ h q rfl rfl;simp[execOp,r,p,f,k,Lib.run_eql_slice_nil w t e (some n) (S.len d) i 0 0 j]
    ·injection b with b;subst b
     refine aP (v:= .bool true) ?_ h q rfl rfl;simp[execOp,r,p,f,k,run_neq_slice_nil_any w t e (some n) (S.len d) i 0 0 j]
    ·cases b
   ·cases b
  ·cases b
 ·cases b
theorem al6 {c:Call}{x:Operand}(s:o.op= .call c)(q:c.callee= .builtin .cap)(u:c.args.toList=[x])(p:∀t i,T t=some i->TyOk P t i)(h:Hp S w0 N blk g al w)(f:(aI slot x).Rel S (aJ N blk g) w g (a.eval x))
  (b:aEs T c.argTypes (aI slot x)=some out) (r:Post S w0 N blk g al w fr out o.dst a K):o.wp P a w K Q:=by
 have d:c.args= #[x]:=by grind
 unfold aEs at b;split at b
 ·rename_i t y n;have j:c.argTypes= #[t]:=by grind
  rw[n]at f;have f:a.eval x= .slice none 0 0:=f;split at b
  ·rename_i i m;split at b
   ·rename_i e l;have k:=jr (p _ _ m) l;injection b with b
    subst b;refine aP (v:= .int .i64 0) ?_ h r rfl rfl;simp[execOp,s,resolve,q,invoke,builtin,d,j,f,Builtin.cap_,run_underlying k,goInt]
   ·cases b
  ·cases b
 ·cases b
theorem Uw {c:Call}{x y:Operand}(R:ShOk S)(ho:o.op= .call c)(hc:c.callee= .builtin .append)(hx':c.args.toList=[x,y])(r:∀t O,T t=some O->TyOk P t O)(h:Hp S w0 N blk g al w)(aa:∀n,fr<=n->n < fr+64->¬al n)
  (H:(aI slot x).Rel S (aJ N blk g) w g (a.eval x)) (D:(aI slot y).Rel S (aJ N blk g) w g (a.eval y)) (f:Tj T S fr c.argTypes (aI slot x) (aI slot y)=some out) (hp:kF out.pre) (hK:Post S w0 N blk g al w fr out o.dst a K):o.wp P a w K Q:=by
 have F:c.args= #[x,y]:=by grind
 unfold Tj at f;split at f
 ·rename_i t U k n htt hex Ag;have hat:c.argTypes= #[t,U]:=by grind
  rw[hex]at H;rw[Ag]at D;have H:a.eval x= .slice none 0 0:=H;have D:a.eval y= .int k n:=D;split at f
  ·rename_i O ti hty V;split at f
   ·rename_i ki e A W;split at f
    ·rename_i q hte;have hsl:=jr (r _ _ hty) W;obtain⟨i,z,hi,hz,q1,q2,q3⟩:=rM (r _ _ hte);obtain⟨dd,M,Z⟩:=lK (r _ _ V);have M:P.underlying U=some (.int ki):=by
      rw[<-Z]at A;cases dd<;>simp[kindOf,am_]at A
      rw[M,WF A]
     split at f
     ·rename_i I;simp only[iW]at I;have e2:0 < q.size:=by simp_all
      have e3:=Qa I.2;have C:z.cells.size=q.size:=by grind
      split at f
      ·rename_i d J;injection f with f
       subst f;obtain⟨p1,p2,p3⟩:0 < n/\n*q.bytes<=281474976710656/\n<=1099511627776:=hp;obtain⟨s,z2,z3⟩:=R.zero _ _ _ _ J;have p:S.size d=q.size:=by grind
       obtain⟨m,rfl⟩:∃m:Nat,n=(m:Int):=⟨n.toNat,by omega⟩;have u:m*i.bytes<=281474976710656:=by
        grind
       have L:=Lib.run_append_nil_zeros (P:=P) w t U o.type e i z k ki hsl M hi hz m ah ah ah u;have E:(execOp a.eval o).run P w= .ok (.value (.slice (some ⟨w.heap.size,0,none⟩) m (grownCap w m 0 e))) (w.drew.alloc (.cells (Builtin.zeroCells z.cells m++Builtin.zeroCells z.cells (grownCap w m 0 e - m)) e)):=by
        simp only[execOp,ho,resolve,hc,invoke,builtin,F,hat,Sem.run_bind,Sem.run_pure,Result.andThen_ok,Qbt,MQ,Qb7,H,D,L]
       have hge:=grownCap_ge w m 0 e;have Y:grownCap w m 0 e<=maxLen:=grownCap_le_maxLen w m 0 e (by simp only[maxLen];omega);have hB:Below w.heap.size w (w.drew.alloc (.cells (Builtin.zeroCells z.cells m++Builtin.zeroCells z.cells (grownCap w m 0 e - m)) e)):=⟨rfl,rfl,rfl,by simp,fun k hk=>Go.heap_alloc_old w.drew _ hk⟩;simp only[u_]at s z2 z3;obtain⟨g1,g2,g3⟩:=h.add (l:=fr) (bk:= .row e d) (v:= .slice (some ⟨w.heap.size,0,none⟩) m (grownCap w m 0 e)) hB (aa fr (lH _) ah) (fun b u=>by simp[dB]at u;omega)
        (fun M' hk _=>by
         refine⟨⟨fun b u=> .inl ?_,by rw[s];omega,R.aaq _ _ _ _ J⟩,(Builtin.zeroCells z.cells m).toList,⟨?_, .inr ⟨w.heap.size,grownCap w m 0 e,_,by rw[s],qR _,heap_alloc_new w.drew _,by omega,Y,?_,?_⟩⟩,fun i' j B G=> ?_⟩
         ·simp only[dB,Og]at u;have:=h.below.size;omega
         ·rw[Qbp,size_zeroCells,C,s,p]
         ·simp only[Array.size_append,size_zeroCells,C,p,<-Qdj]
          grind
         ·grind [size_zeroCells]
         ·rw[s]at B;obtain⟨x0,hx0,X⟩:=z3 i' j B G;have hlt:=qf B G;have hjz:j < z.cells.size:=by omega
          have hzj:q.zero[j]? =some z.cells[j]:=by grind
          refine⟨z.cells[j],?_,R.data _ _ _ ah G,X.rel ?_⟩
          ·have hmod:(i'*S.size d+j) % z.cells.size=j:=by rw[C,<-p,Qcd,Qdm,Qbv G]
           grind [Jr]
          grind [Lf.Rel.norm,xZ])
       exact jA E (hK _ _ _ g3 g2 (g1.weaken Po) (upd_same _ _ _))
      ·cases f
     ·cases f
    ·cases f
   ·cases f
  ·cases f
 ·cases f
theorem Ux {c:Call}{x y:Operand}(U:o.op= .call c)(O:c.callee= .builtin .append)(W:c.args.toList=[x,y])(r:∀t s,T t=some s->TyOk P t s)(h:Hp S w0 N blk g al w)
  (j:(aI slot x).Rel S (aJ N blk g) w g (a.eval x)) (q:(aI slot y).Rel S (aJ N blk g) w g (a.eval y)) (f:TF T S blk c.argTypes (aI slot x) (aI slot y)=some out) (R:Post S w0 N blk g al w fr out o.dst a K):o.wp P a w K Q:=by
 have p:c.args= #[x,y]:=by grind
 unfold TF at f;split at f
 ·rename_i t t' Z V;split at f
  ·rename_i u;have u:=Qa u;subst u;have B:c.argTypes= #[t,t]:=by grind
   rw[V]at q;have q:a.eval y= .slice none 0 0:=q;split at f
   ·cases f
   rename_i s G;split at f
   ·cases f
   rename_i e D;split at f
   ·cases f
   rename_i te A;have C:=jr (r _ _ G) D;obtain⟨i,z,J,hz,q1,q2,q3⟩:=rM (r _ _ A);have F:∀(b:Option Addr) (n m:Nat),a.eval x= .slice b n m->n<=m->(execOp a.eval o).run P w= .ok (.value (a.eval x)) w:=by
    intro b n m E H;have:(Builtin.append_ #[t,t] o.type #[.slice b n m, .slice none 0 0]).run P w= .ok (.slice b n m) w:=by
     cases b<;>simp[Builtin.append_,run_underlying C,sizeOf,typeInfo,J,Builtin.lenOf,Builtin.firstCells,H,storeCells]
    simp only[execOp,U,resolve,O,invoke,builtin,p,B,Sem.run_bind,Sem.run_pure,Result.andThen_ok,Qbt,MQ,Qb7,E,q,this]
   split at f
   ·rename_i k;rw[k]at j;injection f with f
    subst f;exact aP (v:=a.eval x) (F none 0 0 j (lH _)) h R rfl j
   ·rename_i d k;rw[k]at j;split at f
    ·rename_i X;injection f with f
     subst f;obtain⟨av,aa,E,L⟩:=bQ.slice j (by simp_all)
     grind [aP]
    ·cases f
   ·rename_i l k;rw[k]at j;split at f
    ·rename_i e' d M;injection f with f
     subst f;have j:g l=some (a.eval x):=j;obtain⟨v,Y,_,xs,⟨_,I⟩,_⟩:=h.bY l _ M
     grind [aP]
    ·cases f
   ·cases f
  ·cases f
 ·cases f
theorem XY {t:TypeId}{x:Operand}{O J:Option Operand}(s:ShOk S)(W:o.op= .slice t x O J none)(A:∀t B,T t=some B->TyOk P t B)(h:Hp S w0 N blk g al w)
  (H:∀x:Operand,(aI slot x).Rel S (aJ N blk g) w g (a.eval x)) (b:Yo T S blk t (aI slot x) (O.map (aI slot)) (J.map (aI slot))=some out) (R:kF out.pre) (V:Post S w0 N blk g al w fr out o.dst a K):o.wp P a w K Q:=by
 have u:=H x;unfold Yo at b;split at b
 ·cases b
 rename_i B X;split at b
 ·split at b
  ·rename_i l e L U;split at b
   ·cases b
   rename_i te M;have y:=jr (A _ _ X) U;have z:=jG (A _ _ M) w;split at b
   ·rename_i q aa;rw[aa]at u;have u:g q=some (a.eval x):=u;split at b
    ·rename_i e' d C;split at b
     ·rename_i m;simp only[iW]at m;have I:=Qa m.1;split at b
      ·rename_i hh p;split at b
       ·rename_i d' i;injection b with b
        subst b;obtain⟨F,E,D⟩:=R;obtain⟨G,Y,_,_⟩:=Hp.Dt s [q] blk oG h;have ab:[q].filterMap (jQ blk)=[(q,some (.ve d))]:=by simp[jQ,C,rwD]
        rw[ab]at G Y;obtain⟨v,f,c⟩:=G.bY q (.ve d) (by simp[iU,upd_same]);rw[u]at f;injection f with f
        subst f;have c:bQ S _ w d (a.eval x):=c;obtain⟨av,Z,r,j⟩:=bQ.slice' c (s.D7 _ _ _ _ i).1;rw[r]at c;have k:=CZ s c i ah ah;exact jA (Ht W y z r j H L p I F E D) (V _ w g (More.refl _) Y (G.weaken fun n hn=> .inl hn) k)
       ·cases b
      ·cases b
     ·cases b
    ·rename_i d C;split at b
     ·rename_i m;simp only[iW]at m;have I:=Qa m.1;split at b
      ·rename_i hh p;split at b
       ·rename_i d' i;injection b with b
        subst b;obtain⟨F,E,D⟩:=R;obtain⟨v,f,c⟩:=h.bY q (.ve d) C;rw[u]at f;injection f with f
        subst f;have c:bQ S _ w d (a.eval x):=c;obtain⟨av,Z,r,j⟩:=bQ.slice' c (s.D7 _ _ _ _ i).1;rw[r]at c;have k:=CZ s c i ah ah;exact aP (v:=_) (Ht W y z r j H L p I F E D) h V rfl k
       ·cases b
      ·cases b
     ·cases b
    ·cases b
   ·cases b
  ·cases b
 ·cases b
theorem ab9 {t e:TypeId}{x i q:Operand}{j s n c:Nat}{f:Option Addr}{d g:IntKind}{b:Int}(B:o.op= .slice t x none (some i) (some q))(l:P.underlying t=some (.slice e))(p:(sizeOf e).run P w= .ok j w)(z:a.eval x= .slice f n c)(r:n<=c)
  (C:a.eval i= .int d b) (A:a.eval q= .int g b) (u:j=s) (y:0<=b) (D:b<=n):(execOp a.eval o).run P w= .ok (.value (sliced f 0 b.toNat b.toNat s)) w:=by
 have m:P.elem t=e:=by simp[Program.elem,l]
 have h:P.underlying t=some (.slice (P.elem t)):=by grind
 have k:(execOp a.eval o).run P w=((Instr.slice t (.slice f n c) none (some (.int d b)) (some (.int g b))).run P w).andThen fun v w=> .ok (.value v) w:=by
  simp[execOp,B,z,C,A,run_sliceAt_slice w t _ _ _ _ h]
 rw[k,run_slice_hm w t _ _ _ h d g b b y (AA _) ah,m,p,<-u];rfl
theorem YN {t:TypeId}{x A:Operand}{I H:Option Operand}(j:ShOk S)(ho:o.op= .slice t x I H (some A))(F:∀t G,T t=some G->TyOk P t G)(h:Hp S w0 N blk g al w)
  (R:∀x:Operand,(aI slot x).Rel S (aJ N blk g) w g (a.eval x)) (b:ZC T S blk t (aI slot x) (I.map (aI slot)) (H.map (aI slot)) (aI slot A)=some out) (hp:kF out.pre) (hK:Post S w0 N blk g al w fr out o.dst a K):o.wp P a w K Q:=by
 have f:=R x;unfold ZC at b;split at b
 ·rename_i X r km m B hhi V;have B:I=none:=by simp_all
  obtain⟨C,rfl,Z⟩:∃h',H=some h'/\aI slot h'= .one (.lf (.int X r)):=by
   simp_all
  subst B;have Y:a.eval C= .int X r:=by have:=R C;rw[Z]at this;exact this
  have e2:a.eval A= .int km m:=by have:=R A;rw[V]at this;exact this
  split at b
  ·cases b
  rename_i G hty;split at b
  ·cases b
  rename_i e hel;split at b
  ·cases b
  rename_i te W;have D:=jr (F _ _ hty) hel;have E:=jG (F _ _ W) w;split at b
  ·rename_i d z;rw[z]at f;split at b
   ·rename_i s;simp only[iW]at s;have U:=Qa s.1;split at b
    ·rename_i d' c;injection b with b
     subst b;obtain⟨M,L,J⟩:=hp;subst L;have f:bQ S _ w d (a.eval x):=f;obtain⟨av,cap,u,k⟩:=bQ.slice' f (j.D7 _ _ _ _ c).1;rw[u]at f;have l:=(j.sub _ _ _ _ c (qR _) (show r.toNat<=S.len d by omega)).2.1;have y:=CZ j f c (qR _) (show r.toNat<=S.len d by omega);refine aP (v:=_) (ab9 ho D E u k Y e2 U M J) h hK rfl ?_;exact aiV j f c ah l
    ·cases b
   ·cases b
  ·rename_i q z;rw[z]at f;have f:g q=some (a.eval x):=f;split at b
   ·rename_i e' d hb;split at b
    ·rename_i s;simp only[iW]at s;have U:=Qa s.1;split at b
     ·rename_i d' c;injection b with b
      subst b;obtain⟨M,L,J⟩:=hp;subst L;obtain⟨O,k2,_,_⟩:=Hp.Dt j [q] blk oG h;have hfm:[q].filterMap (jQ blk)=[(q,some (.ve d))]:=by simp[jQ,hb,rwD]
      rw[hfm]at O k2;obtain⟨v,p,i⟩:=O.bY q (.ve d) (by simp[iU,upd_same]);rw[f]at p;injection p with p
      subst p;have i:bQ S _ w d (a.eval x):=i;obtain⟨av,cap,u,k⟩:=bQ.slice' i (j.D7 _ _ _ _ c).1;rw[u]at i;have l:=(j.sub _ _ _ _ c (qR _) (show r.toNat<=S.len d by omega)).2.1;obtain⟨a',e',y⟩:=aiV j i c (show r.toNat<=S.len d by omega) l;refine jA (ab9 ho D E u k Y e2 U M J) (hK _ w g (More.refl _) k2 (O.weaken fun n hn=> .inl hn) ?_);exact y
     ·cases b
    ·cases b
   ·cases b
  ·cases b
 ·cases b
theorem MS (t C e:TypeId)(i:TypeInfo)(z:Value)(a bytes:Nat)(H:P.underlying t=some (.slice e))(F:P.info? e=some i)(K:i.zero=some z)
  (l:i.size=a) (B:i.bytes=bytes) (A:z.cells.size=a) (L:0 < a)
  (x:Option Addr) (n:Nat) (f:List Value) (r:f.length=n*a) (y:∀h,x=some h->∀j u,f[j]? =some u->w.cell? (h.add j)=some u) (E:x=none->n=0)
  (h:Addr) (m c:Nat) (d:List Value) (D:d.length=m*a) (o:∀j u,d[j]? =some u->w.cell? (h.add j)=some u) (Q:∀u∈d,u.oneCell'=true) (U:0 < m)
  (s:n+m<=maxLen) (g:(n+m)*bytes<=140737488355328):
  ∃p v,(Builtin.append_ #[t,t] C #[.slice x n n, .slice (some h) m c]).run P w= .ok p v/\v.ownsRow 0 e a p (n+m) (f++d)/\w.grownBy v none/\p.ownBlock=some w.heap.size:=by
 cases x with
 | none=>
  obtain rfl:=E rfl;obtain rfl:f=[]:=Qci (by simpa using r);obtain⟨p,v,N,J,M,X,q⟩:=run_append_own_at (P:=P) w 0 t C e i z a bytes H F K l B A L (.slice none 0 0) 0 [] (World.ownsRow_nil w 0 e a) h m c d D o Q s g (qR _);refine⟨p,v,N,J,M,?_⟩;rcases q with q | q
  ·have V:p= .slice none 0 0:=by
    rcases J.2 with⟨e,_⟩ | ⟨b,W,T,e,_⟩
    ·exact e
    ·rw[e]at q;cases q
   grind
  ·exact q
 | some b=>
  subst l B
  have S:(f++d).length=(n+m)*i.size:=by grind
  have O:=run_append_grow (P:=P) w t C e i z H F K b n n f r (y b rfl) h m c d D o ah (by simp only[maxLen]at s;omega) (growslice_fits ah g);have I:=grownCap_ge w (n+m) n e;have G:grownCap w (n+m) n e<=maxLen:=grownCap_le_maxLen w (n+m) n e s;refine⟨_,_,O,⟨S, .inr ⟨w.heap.size,_,_,rfl,qR _,heap_alloc_new w.drew _,I,G,?_,?_⟩⟩,⟨rfl,rfl,rfl,by simp,fun k R _=>Go.heap_alloc_old w.drew _ R⟩,rfl⟩
  ·simp only[Array.size_append,List.size_toArray,size_zeroCells,A,r,D,<-Qdj]
   grind
  grind
theorem Uu {c:Call}{x y:Operand}(q:ShOk S)(ho:o.op= .call c)(hc:c.callee= .builtin .append)(hx':c.args.toList=[x,y])(J:∀t V,T t=some V->TyOk P t V)(h:Hp S w0 N blk g al w)(hfr:∀n,fr<=n->n < fr+64->¬al n)
  (hx:(aI slot x).Rel S (aJ N blk g) w g (a.eval x)) (hy:(aI slot y).Rel S (aJ N blk g) w g (a.eval y)) (f:P8 T S blk fr c.argTypes (aI slot x) (aI slot y)=some out) (hp:kF out.pre)
  (hK:Post S w0 N blk g al w fr out o.dst a K):o.wp P a w K Q:=by
 have I:c.args= #[x,y]:=by grind
 have O:∀m,More g (upd g fr (some m)):=fun m l v hl=>by
  rw[bI _ _ _ _ qbk];exact hl
 unfold P8 at f;split at f
 ·rename_i ex hex;rw[hex]at hx;split at f
  ·rename_i d1;split at f
   ·rename_i t t' htt;split at f
    ·rename_i W;have W:=Qa W;subst W;have hat:c.argTypes= #[t,t]:=by grind
     split at f
     ·cases f
     rename_i V hty;split at f
     ·cases f
     rename_i e hel;split at f
     ·cases f
     rename_i G hte;split at f
     ·cases f
     rename_i d2 hd2;have hsl:=jr (J _ _ hty) hel;obtain⟨i,z,hi,hz,q1,q2,q3⟩:=rM (J _ _ hte);split at f
     ·rename_i A;simp only[iW]at A;have e1:=Qa A.1;have e2:0 < G.size:=by simp_all
      have e3:=Qa A.2.2;split at f
      ·rename_i d Dy;injection f with f
       subst f;obtain⟨p1,X⟩:=hp;obtain⟨c1,c2,c3,c4,c5⟩:=q.cat _ _ _ Dy;have hzs:z.cells.size=G.size:=by grind
       obtain⟨av,cap,D,hv2,hl2,hc2,hn2,h12,E⟩:=Ew q h hy hd2 ah;obtain⟨bv,M,hd1⟩:=hx;obtain⟨bv',cap',p,R,hlo,hco,Z,_,s⟩:=G9 q hd1 (show 0 < S.size d1 by omega);rw[M]at R;injection R with f1 f2 f3
       subst f1;obtain⟨C,rfl⟩:∃C,av=some C:=by
        cases av with
        | none=>grind
        | some C=>grind
       obtain⟨m,w',r1,r2,r,r4⟩:=MS (P:=P) (w:=w) t o.type e i z G.size G.bytes hsl hi hz q1 q2 hzs e2 bv (S.len d1) p qP hco Z C (S.len d2) cap D qP (hc2 C rfl) h12 p1 (by have:=X.1;simp only[maxLen];omega) X.2;have U:(execOp a.eval o).run P w= .ok (.value m) w':=by
        simp only[execOp,ho,resolve,hc,invoke,builtin,I,hat,Sem.run_bind,Sem.run_pure,Result.andThen_ok,Qbt,MQ,Qb7,M,hv2,r1]
       have hB:Below w.heap.size w w':=⟨r.os,r.tape,r.output,r.size,fun k H=>r.block k H oG⟩;have BJ:∃a n c,m= .slice a n c:=by rcases r2.2 with⟨rfl,_⟩ | ⟨b,cp,cur,rfl,_⟩<;>exact⟨_,_,_,rfl⟩
       have B:∀b,dB m=some b->w.heap.size<=b:=by
        grind [tX]
       obtain⟨g1,g2,g3⟩:=h.add (l:=fr) (bk:= .row e d) (v:=m) hB (hfr fr (lH _) ah) B (fun M' H _=>by
        refine⟨⟨fun b hb=> .inl (zW h.below.size (B b hb)),⟨by have:=X.1;omega,q.akv _ _ _ ‹_›⟩⟩,p++D,?_,fun F j hi' hj=> ?_⟩
        ·grind
        ·rw[c3]at hi';have hxl:p.length=S.len d1*S.size d:=by rw[hlo,c1]
         by_cases L:F < S.len d1
         ·obtain⟨u,hu,Y⟩:=s F j L ah;rw[c4 F j L];refine⟨u,?_,q.data _ _ _ ah ah,?_⟩
          ·grind
          ·exact(Lf.Rel.keep Y H (O _))
         ·obtain⟨k,rfl⟩:∃k,F=S.len d1+k:=⟨F - S.len d1,by omega⟩;obtain⟨u,hu,Y⟩:=E k j ah ah;rw[c5 k j ah];refine⟨u,?_,q.data _ _ _ ah ah,Y.keep H (O _)⟩;rw[Qa6 qP,<-hu,hxl,Qdj,c2];congr 1;omega)
       exact jA U (hK _ _ _ g3 g2 (g1.weaken Po) (upd_same _ _ _))
      ·cases f
     ·cases f
    ·cases f
   ·cases f
  ·cases f
 ·cases f
theorem aci {src m:TypeId}{x:Operand}(O:ShOk S)(ho:o.op= .convert src m x)(p:∀t C,T t=some C->TyOk P t C)(h:Hp S w0 N blk g al w)
  (q:(aI slot x).Rel S (aJ N blk g) w g (a.eval x)) (b:adX T S src m (aI slot x)=some out) (hK:Post S w0 N blk g al w fr out o.dst a K):o.wp P a w K Q:=by
 unfold adX at b;split at b
 ·rename_i ts td z I;split at b
  ·cases b
  rename_i e J;split at b
  ·cases b
  rename_i te E;split at b
  ·rename_i d;simp only[iW]at d;split at b
   ·rename_i s L;rw[L]at q;obtain⟨q,hlen⟩:=q;split at b
    ·cases b
    rename_i d2 G;split at b
    ·rename_i f;injection b with b
     subst b;have f:=Qa f;obtain⟨dd,F,l⟩:=lK (p _ _ z);obtain⟨de,M,c⟩:=lK (p _ _ E);have u:P.underlying src=some .string:=by
      rw[Qa d.1]at l;cases dd<;>simp[kindOf]at l<;>first | exact F | (rename_i k;cases k<;>simp[qm]at l)
     have U:P.underlying e=some (.int .u8):=by
      rw[Qa d.2.1]at c;cases de<;>simp[kindOf]at c<;>(rename_i k;cases k<;>simp[qm]at c;exact M)
     have H:=jr (p _ _ I) J;have r:(execOp a.eval o).run P w= .ok (.value (.slice (some ⟨w.heap.size,0,none⟩) s.length (grownCap w s.length 0 e))) (Lib.bytesWorld w e ⟨s.toArray⟩):=by
      have v:(⟨s.toArray⟩:ByteArray).size=s.length:=by rfl
      have:=Lib.run_convert_string_bytes (P:=P) w src m e ⟨s.toArray⟩ u H U;rw[v]at this;simp[execOp,ho,q,this]
     have hB:Below w.heap.size w (Lib.bytesWorld w e ⟨s.toArray⟩):=⟨rfl,rfl,rfl,by rw[Lib.bytesWorld_size];omega,fun k hk=>Lib.bytesWorld_at_old w e _ k hk⟩;obtain⟨X,g2⟩:=h.grow hB;obtain⟨m1,B,Z⟩:=O.text _ _ _ G;refine jA r (hK _ _ g (More.refl _) g2 (X.weaken fun n hn=> .inl hn) ?_);show bQ S _ _ d2 _
     intro A W;have v:(⟨s.toArray⟩:ByteArray).size=s.length:=by rfl
     have V:¬aJ N blk g w.heap.size:=fun Y=>Qc3 _ (h.mlt Y)
     have y:=W w.heap.size (by rw[Lib.bytesWorld_size];omega) V;rw[<-B];refine zL.mk d2 (O.ann ah) (some ⟨w.heap.size,0,none⟩) _ (fun i j=> .int .u8 (s.getD i 0).toNat) (by rw[B];exact grownCap_ge w s.length 0 e) ah (fun i j D R=> ?_) (fun i j D R=> ?_) (fun i j d' D R he=> ?_)
     ·obtain rfl:j=0:=by omega
      refine⟨_,rfl,?_⟩;have d:=Lib.bytesWorld_cell w e ⟨s.toArray⟩ i (by rw[v];omega);rw[f,Qdk,Qba,show((⟨w.heap.size,0,none⟩:Addr).add i)=⟨w.heap.size,i,none⟩ by simp[Addr.add];exact Eq.symm];rw[show A.cell? ⟨w.heap.size,i,none⟩=(Lib.bytesWorld w e ⟨s.toArray⟩).cell? ⟨w.heap.size,i,none⟩ by simp only[World.cell?,y]];rw[d]
     ·obtain rfl:j=0:=by omega
      rw[Z i ah];rfl
     grind
    ·cases b
   ·cases b
  ·cases b
 ·cases b
theorem Zz {t:TypeId}(x:o.op= .alloc t)(k:∀t d,T t=some d->TyOk P t d)(h:Hp S w0 N blk g al w)(i:∀n,fr<=n->n < fr+64->¬al n)
  (c:YG T fr t=some out) (q:Post S w0 N blk g al w fr out o.dst a K):o.wp P a w K Q:=by
 unfold YG at c;split at c
 ·cases c
 rename_i d j;split at c
 ·rename_i f;injection c with c
  subst c;obtain⟨z,u,A⟩:=zi (k _ _ j) w;have m:d.zero=[.pointer none, .slice none 0 0]:=by
   unfold aAq at f
   grind
  have e:(execOp a.eval o).run P w= .ok (.value (.pointer (some ⟨w.heap.size,0,none⟩))) (w.alloc (.cells z.cells t)):=by
   simp[execOp,x,Instr.alloc,u,newVar,newRow,newObj,Sem.run]
  obtain⟨y,r,s⟩:=h.add (l:=fr) (bk:= .tc t [.val (.slice none 0 0)]) (v:= .pointer (some ⟨w.heap.size,0,none⟩)) ((Below.refl w.heap.size w).alloc (lH _) (.cells z.cells t)) (i fr (lH _) ah) (fun b p=>by simp[dB]at p;omega)
   (fun M' C _=>⟨w.heap.size,[.slice none 0 0],rfl, .inl h.below.size,⟨.pointer none,by
    have B:z.cells= #[.pointer none, .slice none 0 0]:=by grind
    grind [World.size_alloc,heap_alloc_new], .inl rfl⟩,rfl,trivial⟩)
  exact jA e (q _ _ _ s r (y.weaken Po) ⟨w.heap.size,upd_same _ _ _,rfl⟩)
 ·cases c
theorem acn {t:TypeId}{x:Operand}(E:o.op= .load t x)(r:∀t f,T t=some f->TyOk P t f)(h:Hp S w0 N blk g al w)(n:(aI slot x).Rel S (aJ N blk g) w g (a.eval x))
  (c:afH T blk t (aI slot x)=some out) (C:Post S w0 N blk g al w fr out o.dst a K):o.wp P a w K Q:=by
 unfold afH at c;split at c
 ·cases c
 rename_i f m;have j:=uK (r _ _ m) w;split at c
 ·rename_i l e q;rw[q]at n;obtain⟨b,G,B⟩:=n;split at c
  ·rename_i L cs z;obtain⟨I,d,J,D,rfl,_,⟨u0,s,_⟩,F⟩:=h.bY l _ z;rw[G]at d;injection d with d
   injection d with d
   injection d with d
   injection d with d
   subst d;split at c
   ·cases c
   rename_i p;split at c
   ·cases c
   rename_i e;split at c
   ·rename_i y A;injection c with c
    subst c;obtain⟨u,k,i⟩:=F.get e A;refine aP (v:=u) ?_ h C rfl i;have H:(u0::D)[e+1]? =some u:=by simpa using k
    simp[execOp,E,Instr.loadAt,Instr.sureAddr,B,loadVar,j,p,load,Sem.run,cell_of s,k]
   ·cases c
  ·cases c
 ·cases c
theorem XK {t:TypeId}{x y:Operand}(ho:o.op= .store t x y)(M:∀t j,T t=some j->TyOk P t j)(h:Hp S w0 N blk g al w)(I:(aI slot x).Rel S (aJ N blk g) w g (a.eval x))
  (A:(aI slot y).Rel S (aJ N blk g) w g (a.eval y)) (c:Za T blk t (aI slot x) (aI slot y)=some out) (Z:Post S w0 N blk g al w fr out o.dst a K):o.wp P a w K Q:=by
 unfold Za at c;split at c
 ·rename_i j l e u G L Ag;have E:=jG (M _ _ G) w;rw[L]at I;rw[Ag]at A;obtain⟨b,J,Y⟩:=I;split at c
  ·rename_i C cs v;split at c
   ·cases c
   rename_i e;split at c
   ·rename_i z;injection c with c
    subst c;simp only[iW,Qa5,Qce]at z;obtain⟨s,c2,c3,W⟩:=z;have s:=Qa s;obtain⟨v',d,b',vs,rfl,U,⟨u0,R,q⟩,F⟩:=h.bY l _ v;rw[J]at d;injection d with d
    injection d with d
    injection d with d
    injection d with d
    subst d;have f:(Sv.lf u:Sv D).cells.all Lf.storable=true:=by simp[Sv.cells,W]
    have m:=pG (u:= .lf u) h.refs (yV f) A;have p:=m.length;have r:(Sv.lf u:Sv D).cells.length=1:=rfl;obtain⟨w',k,hb',hn,X,V,q2,O⟩:=jZ (P:=P) b C (a.eval y).cells.toList w (u0::vs) (e+1) 0 R (by rw[uU,<-F.length,<-p,r];omega) (jq h.refs f m);have i:(execOp a.eval o).run P w= .ok .skip w':=by
     have n:(a.eval y).cells.size=j.size:=by grind
     simp[execOp,ho,Instr.storeAt,Instr.sureAddr,Y,storeVar,E,n,k]
    obtain⟨B,H⟩:=h.write (bk':= .tc C (putAt cs e [u])) v rfl rfl J rfl V q2 O X hn (fun hk=>by
     have h9:=(F.putAt m e).keep hk (More.refl _);refine⟨b,_,rfl,U,⟨u0,?_,q⟩,by simpa[Sv.cells]using h9⟩
     grind)
    exact Ic i (Z _ _ _ (More.refl _) H (B.weaken fun _ h=> .inl h) trivial)
   ·cases c
  ·cases c
 ·cases c
theorem awL {e:TypeId}{d:Ty}{i:TypeInfo}(h:TyOk P e d)(b:aqg d=true)(j:P.info? e=some i):i.zero=some (.int .u8 0):=by
 obtain⟨m,n,f,l,a,k,c,rfl⟩:=kW h;rw[j]at a;injection a with a
 subst a;rw[c];unfold aqg at b;dsimp only at b;split at b
 ·rename_i g;simp only[Qa5]at b;congr 1;cases f<;>first | exact(List.cons.inj g).1 | (simp[xw]at b)
 ·cases b
theorem aqy {e:Nat}{s:List UInt8}{d2:D}(b:ShOk S)(h:S.text e s=some d2)(j:S.size d2=1):S.len d2=s.length/\∀i,i < s.length->∃u,(Lib.strCells ⟨s.toArray⟩)[i]? =some u/\(S.cell d2 i 0).iT=true/\∀(M:Nat->Prop) (w:World) (g:Nat->Option Value),(S.cell d2 i 0).Rel S M w g u:=by
 obtain⟨_,f,d⟩:=b.text _ _ _ h;refine⟨f,fun i c=> ?_⟩;have a:=d i c;refine⟨.int .u8 (s.getD i 0).toNat,?_,b.data _ _ _ ah ah,fun M w g=> ?_⟩
 ·simp[Lib.strCells,List.getD,c]
 ·rw[a];rfl
theorem UJ {c:Call}{x y:Operand}(hS:ShOk S)(ho:o.op= .call c)(hc:c.callee= .builtin .append)(hx':c.args.toList=[x,y])(M:∀t ty,T t=some ty->TyOk P t ty)(h:Hp S w0 N blk g al w)(hfr:∀n,fr<=n->n < fr+64->¬al n)
  (L:(aI slot x).Rel S (aJ N blk g) w g (a.eval x)) (hy:(aI slot y).Rel S (aJ N blk g) w g (a.eval y)) (f:QQ T S blk fr c.argTypes (aI slot x) (aI slot y)=some out) (hp:kF out.pre)
  (hK:Post S w0 N blk g al w fr out o.dst a K):o.wp P a w K Q:=by
 have hargs:c.args= #[x,y]:=by grind
 have hmg:∀v',More g (upd g fr (some v')):=fun v' l v hl=>by
  rw[bI _ _ _ _ qbk];exact hl
 unfold QQ at f;split at f
 ·rename_i t J s htt Ag;have hat:c.argTypes= #[t,J]:=by grind
  rw[Ag]at hy;obtain⟨hyv,hyl⟩:a.eval y= .string ⟨s.toArray⟩/\s.length<=9223372036854775807:=hy;split at f
  ·rename_i ty ty' hty hty';split at f
   ·cases f
   rename_i e hel;split at f
   ·cases f
   rename_i te hte;have H:=jr (M _ _ hty) hel;obtain⟨i,z,U,hz,q1,q2,q3⟩:=rM (M _ _ hte);split at f
   ·rename_i hcc;simp only[iW]at hcc;obtain⟨c1,c2,c3,c4⟩:=hcc;have c2:=Qa c2;have c3:=Qa c3;have c4:=Qa c4;obtain⟨ds,B,aa⟩:=lK (M _ _ hty');have B:P.underlying J=some .string:=by
     rw[c4]at aa;cases ds<;>simp[kindOf]at aa<;>first | exact B | (rename_i k;cases k<;>simp[qm]at aa)
    have R:i.zero=some (.int .u8 0):=awL (M _ _ hte) c1 U;split at f
    ·cases f
    rename_i d2 hd2;split at f
    ·rename_i G;have G:=Qa G;obtain⟨ab,Y⟩:=aqy hS hd2 G;have hsz:(ByteArray.mk s.toArray).size=s.length:=by rfl
     have hnews:(Lib.strCells ⟨s.toArray⟩).length=s.length:=by rw[Lib.strCells_length,hsz]
     have run:∀(A:Value) (n:Nat) (C:List Value),a.eval x=A->w.ownsRow 0 e 1 A n C->bM (n+s.length) 1->
       ∃v' w',(execOp a.eval o).run P w= .ok (.value v') w'/\w'.ownsRow 0 e 1 v' (n+s.length) (C++Lib.strCells ⟨s.toArray⟩)/\w.grownBy w' A.ownBlock/\(v'.ownBlock=A.ownBlock\/v'.ownBlock=some w.heap.size\/v'.ownBlock=none):=by
      intro A n C D p hroom;obtain⟨r1,Z⟩:=hroom;obtain⟨v',w',q,h2,h3,h4⟩:=Lib.run_append_own_string (P:=P) (w:=w) 0 t J o.type e i H B U R ah ah A n C p ⟨s.toArray⟩ (by rw[hsz];simp only[maxLen];omega) qcm (qR _);rw[hsz]at h2;refine⟨v',w',?_,h2,h3,?_⟩
      ·simp only[execOp,ho,resolve,hc,invoke,builtin,hargs,hat,Sem.run_bind,Sem.run_pure,Result.andThen_ok,Qbt,MQ,Qb7,D,hyv,q]
      ·rcases p.2 with⟨rfl,rfl⟩ | ⟨b,O,E,rfl,hbg,hg',hnc,hcm,hcs,htake⟩
       ·obtain⟨v2,w2,g1,g2,g3,g4⟩:=Lib.run_append_own_string (P:=P) (w:=w) w.heap.size t J o.type e i H B U R ah ah (.slice none 0 0) 0 [] (World.ownsRow_nil w w.heap.size e 1) ⟨s.toArray⟩ (by rw[hsz];simp only[maxLen];omega) qcm (lH _);by_cases hm:s.length=0
        ·grind
        ·have I:=run_append_nil_string (P:=P) w t J o.type e i (.int .u8 0) H B U R ⟨s.toArray⟩ qcm qcm qP;rw[I]at q;injection q with q _
         exact .inr (.inl (by rw[<-q];rfl))
       ·have hcs':E.size=O:=by simpa using hcs
        by_cases W:n+(ByteArray.mk s.toArray).size<=O
        ·have I:=Lib.run_append_room_string (P:=P) w t J o.type e i H B U ah b n O E hg' ⟨s.toArray⟩ W ah;rw[I]at q;injection q with q _
         exact .inl (by rw[<-q];rfl)
        ·have hxl:C.length=n:=by grind
         have holds:∀j u,C[j]? =some u->w.cell? ((⟨b,0,none⟩:Addr).add j)=some u:=p.cells (g:=b) rfl;have I:=Lib.run_append_grow_string (P:=P) w t J o.type e i (.int .u8 0) H B U R ⟨b,0,none⟩ n O C qP holds ⟨s.toArray⟩ ah qcm (by rw[q2,c3];exact growslice_fits ah qcm);rw[I]at q;injection q with q _
         exact .inr (.inl (by rw[<-q];rfl))
     split at f
     ·rename_i X;injection f with f
      subst f;rw[X]at L;obtain⟨v',w',r1,Z,r,m⟩:=run (.slice none 0 0) 0 [] L (World.ownsRow_nil w 0 e 1) (by rw[JH];exact hp);have hB:Below w.heap.size w w':=⟨r.os,r.tape,r.output,r.size,fun k hk=>r.block k hk (by simp[Value.ownBlock])⟩;have BJ:∃a n c,v'= .slice a n c:=by rcases Z.2 with⟨rfl,_⟩ | ⟨b,cp,E,rfl,_⟩<;>exact⟨_,_,_,rfl⟩
      have V:∀b,dB v'=some b->w.heap.size<=b:=by
       intro b hb;rw[tX v' BJ]at m;rcases m with m | m | m
       ·rw[hb]at m;simp[Value.ownBlock]at m
       ·rw[hb]at m;injection m with m;omega
       ·rw[hb]at m;cases m
      obtain⟨g1,g2,g3⟩:=h.add (l:=fr) (bk:= .row e d2) (v:=v') hB (hfr fr (lH _) ah) V (fun M' hk _=>by
       refine⟨⟨fun b hb=> .inl (zW h.below.size (V b hb)),⟨by omega,hS.ann ah⟩⟩,Lib.strCells ⟨s.toArray⟩,?_,fun i' j hi' hj=> ?_⟩
       ·have:=Z;rw[JH,Qcl]at this;rw[G,ab];exact this
       ·rw[G]at hj⊢;obtain rfl:j=0:=by omega
        obtain⟨u,hu,hda,I⟩:=Y i' ah;exact⟨u,by simpa using hu,hda,I _ _ _⟩)
      exact jA r1 (hK _ _ _ g3 g2 (g1.weaken Po) (upd_same _ _ _))
     ·rename_i l X;rw[X]at L;have L:g l=some (a.eval x):=L;split at f
      ·rename_i e' d1 hb;split at f
       ·rename_i F;simp only[iW]at F;have hs1:=Qa F.2;have F:=Qa F.1;subst F;split at f
        ·rename_i d Dy;injection f with f
         subst f;obtain⟨c1',c2',c3',c4',c5'⟩:=hS.cat _ _ _ Dy;obtain⟨A,D,hm,C,p,hcell⟩:=h.bY l _ hb;rw[L]at D;injection D with D
         rw[hs1]at p;obtain⟨v',w',r1,Z,r,m⟩:=run A (S.len d1) C D p hp;have ac:∃a n c,A= .slice a n c:=by rcases p.2 with⟨rfl,_⟩ | ⟨b,cp,E,rfl,_⟩<;>exact⟨_,_,_,rfl⟩
         have BJ:∃a n c,v'= .slice a n c:=by rcases Z.2 with⟨rfl,_⟩ | ⟨b,cp,E,rfl,_⟩<;>exact⟨_,_,_,rfl⟩
         rw[tX v' BJ,tX A ac]at m;rw[tX A ac]at r;have hsd:S.size d=1:=by omega
         obtain⟨g1,g2,g3⟩:=h.move (l:=l) (fr:=fr) (bk':= .row e d) (v:=A) (v':=v') qce (D▸L) (hfr fr (lH _) ah) r.os r.tape r.output r.size (fun n hn hne=>r.block n hn fun e=>hne e.symm)
          (fun b hb'=>by
           grind)
          (fun M' hk _=>by
           refine⟨⟨fun b hb'=> ?_,⟨by rw[c3',ab];have:bM (S.len d1+s.length) 1:=hp;have:=this.1;omega,hS.ann ah⟩⟩,C++Lib.strCells ⟨s.toArray⟩,?_,fun i' j hi' hj=> ?_⟩
           ·rcases m with m | m | m
            ·grind
            ·rw[hb']at m;injection m with m;exact .inl (m▸h.below.size)
            grind
           ·grind
           ·rw[hsd]at hj⊢;obtain rfl:j=0:=by omega
            rw[c3',ab]at hi';have hxl:C.length=S.len d1:=by simpa using p.1
            by_cases hlt:i' < S.len d1
            ·obtain⟨u,hu,hda,I⟩:=hcell i' 0 hlt ah
             grind [Lf.Rel.keep]
            grind)
         exact jA r1 (hK _ _ _ g3 g2 (g1.weaken Po) (upd_same _ _ _))
        ·cases f
       ·cases f
      ·cases f
     ·cases f
    ·cases f
   ·cases f
  ·cases f
 ·cases f
theorem Hp.aJk (h:Hp S w0 N blk g al w){l b:Nat}{v:Value}(m:hot (blk l)=true)(x:g l=some v)(s:dB v=some b)(z:w'.os=w.os)(B:w'.tape=w.tape)(r:w'.output=w.output)(D:w'.heap.size=w.heap.size)
  (f:∀n,n≠b->w'.heap[n]? =w.heap[n]?):Hp S w0 N (upd blk l none) g al w'/\Keeps (aJ N blk g) w (aJ N (upd blk l none) g) w':=by
 have P:hot (upd blk l none l)=false:=by rw[upd_same];rfl
 have i:∀n,hot (upd blk l none n)=true->hot (blk n)=true:=fun n a=>by
  grind [bI]
 have A:aJ N blk g b:= .inr ⟨l,v,m,x,s⟩;obtain⟨I,C⟩:=h.mine m x s;have t:Keeps (aJ N blk g) w (aJ N (upd blk l none) g) w':=by
  refine⟨by omega,fun c _ o=>⟨?_,f c fun e=>o (e▸A)⟩⟩;rintro(a | ⟨n,u,M,J,K⟩)
  ·exact o (.inl a)
  ·exact o (.inr ⟨n,u,i n M,J,K⟩)
 refine⟨⟨⟨z.trans h.below.os,B.trans h.below.tape,r.trans h.below.output,by rw[D];exact h.below.size,fun k E F=> ?_⟩,h.hN,fun n G a=> ?_,fun n c H L d a p=>h.sep n c H L d (i n a) (i c p),h.al,h.refs,h.gl.keep t⟩,t⟩
 ·refine(f k fun e=> ?_).trans (h.below.block k E F);subst e;rcases C with q | q
  ·omega
  ·exact F q
 ·by_cases j:n=l
  ·subst j;rw[upd_same]at a;cases a
  ·rw[bI _ _ _ _ j]at a;obtain⟨u,y,O⟩:=h.bY n G a;refine⟨u,y,O.keep t (More.refl _) fun Q c p=>f c fun e=> ?_⟩;subst e;exact j (h.sep n l u v c qP m y x p s)
theorem MO {c:Call}{x:Operand}(y:o.op= .call c)(r:c.callee= .builtin .unsafeSliceData)(B:c.args.toList=[x])(h:Hp S w0 N blk g al w)(i:(aI slot x).Rel S (aJ N blk g) w g (a.eval x))
  (f:Ee S blk (aI slot x)=some out) (t:kF out.pre) (u:Post S w0 N blk g al w fr out o.dst a K):o.wp P a w K Q:=by
 have j:c.args= #[x]:=by grind
 unfold Ee at f;split at f
 ·rename_i l n;rw[n]at i;have i:g l=some (a.eval x):=i;split at f
  ·rename_i e d z;split at f
   ·injection f with f
    subst f;have t:0 < S.len d:=t;obtain⟨v,k,_,E,⟨_,q⟩,_⟩:=h.bY l _ z;rw[i]at k;injection k with k
    rcases q with⟨_,D⟩ | ⟨b,m,C,s,_,_,A,_⟩
    ·omega
    ·have p:a.eval x= .slice (some ⟨b,0,none⟩) (S.len d) m:=by rw[k,s]
     refine aP (v:= .pointer (some ⟨b,0*1+0,none⟩)) ?_ h u rfl ⟨b,S.len d,m,by rw[i,p],rfl⟩;simp only[execOp,y,resolve,r,invoke,builtin,j,Sem.run_bind,Sem.run_pure,Result.andThen_ok,Qbt,MQ,Qb7,p,Lib.run_unsafeSliceData_row _ _ _ _ _ _ (show m≠0 by omega)]
   ·cases f
  ·cases f
 ·rename_i n;rw[n]at i;have i:a.eval x= .slice none 0 0:=i;injection f with f
  subst f;refine aP (v:= .pointer none) ?_ h u rfl rfl;simp only[execOp,y,resolve,r,invoke,builtin,j,Sem.run_bind,Sem.run_pure,Result.andThen_ok,Qbt,MQ,Qb7,i,Lib.run_unsafeSliceData_nil]
 ·cases f
theorem GZ (w:World)(b n m:Nat):(w.freeze ⟨b,0,none⟩ n).os=w.os/\(w.freeze ⟨b,0,none⟩ n).tape=w.tape/\(w.freeze ⟨b,0,none⟩ n).output=w.output/\(w.freeze ⟨b,0,none⟩ n).heap.size=w.heap.size/\(m≠b->(w.freeze ⟨b,0,none⟩ n).heap[m]? =w.heap[m]?):=by
 unfold World.freeze
 grind
theorem MN {c:Call}{x y:Operand}(ho:o.op= .call c)(hc:c.callee= .builtin .unsafeString)(hx':c.args.toList=[x,y])(R:∀t X,T t=some X->TyOk P t X)(h:Hp S w0 N blk g al w)(s:(aI slot x).Rel S (aJ N blk g) w g (a.eval x))
  (p:(aI slot y).Rel S (aJ N blk g) w g (a.eval y)) (f:Ep T S blk c.argTypes (aI slot x) (aI slot y)=some out) (L:kF out.pre) (hK:Post S w0 N blk g al w fr out o.dst a K):o.wp P a w K Q:=by
 have D:c.args= #[x,y]:=by grind
 unfold Ep at f;split at f
 ·rename_i l n F Ag;rw[F]at s;rw[Ag]at p;have p:a.eval y= .int .i64 n:=p;obtain⟨b,n',cap',hg,Z⟩:=s;have Z:a.eval x= .pointer (some ⟨b,0,none⟩):=by simpa using Z
  split at f
  ·rename_i e d hb;split at f
   ·rename_i U;injection f with f
    subst f;simp only[iW]at U;obtain⟨A,M⟩:=U;have M:=Qa M;obtain⟨p1,p2,c2⟩:n=S.len d/\0 < n/\Yc S d (S.len d)=true:=L;subst p1;have p2:0 < S.len d:=by omega
    unfold ptrTo at A;split at A
    ·rename_i J I hts;have H:c.argTypes= #[J,I]:=by grind
     split at A
     ·rename_i X te hty hte;simp only[iW]at A;obtain⟨k1,k2,G⟩:=A;have k1:=Qa k1;have k2:=Qa k2;split at G
      ·rename_i e' e'' hmp;have G:=Qa G;subst G;have hpt:=alf (R _ _ hty) hmp k1;obtain⟨i,z,Y,hz,q1,q2,q3⟩:=rM (R _ _ hte);have E:P.cellsOf e=1:=by simp[Program.cellsOf,Y,q1,k2]
       obtain⟨v,r,hm,xs,B,C⟩:=h.bY l _ hb;rw[hg]at r;injection r with r
       rcases B.2 with⟨_,hn0⟩ | ⟨b',cap,cur,V,_,hh,hnc,hcm,hcs,htake⟩
       ·omega
       ·rw[V]at r;injection r with q hv2 hv3
        injection q with q
        injection q with q
        subst q;have hl:xs.length=S.len d*S.size d:=B.1;obtain⟨ns,hn1,hn2⟩:=Rz M (afL c2) hl (fun i j Y hj=>by obtain⟨u,h1,_,h3⟩:=C i j Y hj;exact⟨u,h1,h3⟩);have hlen:(bytesOf S d).length=S.len d:=by simp[bytesOf]
        have hcl:∀j x,(bytesOf S d)[j]? =some x->w.cell? ((⟨b,0,none⟩:Addr).add j)=some (.int .u8 x.toNat):=by
         intro j x hj;have W:j < S.len d:=by grind
         obtain⟨k,hk,hk0,hk1⟩:=amY c2 j W;obtain⟨u,hu,_,O⟩:=C j 0 W ah;rw[hk]at O;have O:u= .int .u8 k:=O;rw[M,Qdk,Qba,O]at hu;have s:x=UInt8.ofNat k.toNat:=by
          grind
         have hkx:(x.toNat:Int)=k:=by
          rw[s];have:k.toNat < 256:=by omega
          simp[Qdp,Qbv this];omega
         rw[hkx];exact B.cells (g:=b) (by rw[V];rfl) j _ hu
        have hrun:=Lib.run_unsafeString_row (P:=P) w J I o.type e hpt E b cur.size (by simp[World.shape?,hh]) (bytesOf S d) (fun e=>by grind) qP ah hcl;obtain⟨f1,f2,f3,f4,_⟩:=GZ w b (bytesOf S d).length 0;obtain⟨hp',hk'⟩:=h.aJk (w':=w.freeze ⟨b,0,none⟩ (bytesOf S d).length) qce hg rfl f1 f2 f3 f4 (fun m hm=>(GZ w b (bytesOf S d).length m).2.2.2.2 hm);refine jA (v:= .string ⟨(bytesOf S d).toArray⟩) ?_ (hK _ _ _ (More.refl _) hk' (hp'.weaken fun n hn=> .inl hn) ⟨rfl,by omega⟩);simp only[execOp,ho,resolve,hc,invoke,builtin,D,H,Sem.run_bind,Sem.run_pure,Result.andThen_ok,Qbt,MQ,Qb7,Z,p];simp_all
      ·cases G
     ·cases A
    ·cases A
   ·cases f
  ·cases f
 ·rename_i n F Ag;rw[F]at s;rw[Ag]at p;have s:a.eval x= .pointer none:=s;have p:a.eval y= .int .i64 n:=p;split at f
  ·rename_i J I hts;have H:c.argTypes= #[J,I]:=by grind
   injection f with f
   subst f;have L:n=0:=L;subst L;refine aP (v:= .string ⟨#[]⟩) ?_ h hK rfl ⟨rfl,by simp⟩;simp only[execOp,ho,resolve,hc,invoke,builtin,D,H,Sem.run_bind,Sem.run_pure,Result.andThen_ok,Qbt,MQ,Qb7,s,p,Lib.run_unsafeString_none];rfl
  ·cases f
 ·cases f
theorem abW (J:ShOk S){f:FuncId}{args:List (Sl D)}{vals:List Value}(T:∀f d,Γ f=some d->CtOk P S f d)(h:Hp S w0 N blk g al w)(O:∀n,fr<=n->n < fr+64->¬al n)
  (r:d_ S (aJ N blk g) w g args vals) (i:∀d,CtOk P S f d->(execOp a.eval o).run P w= .ok (.enter f vals.toArray) w) (c:VZ Γ f blk args fr=some out) (V:kF out.pre) (X:Post S w0 N blk g al w fr out o.dst a K):o.wp P a w K Q:=by
 unfold VZ at c;split at c
 ·cases c
 ·rename_i d H;have t:=T f d H;have i:=i d t;have G:(Calls P f vals.toArray w fun e w'=>∃v g',e= .returned v/\More g g'/\Keeps (aJ N blk g) w (aJ N (iU blk out.blks) g') w'/\Hp S w0 N (iU blk out.blks) g' (fun n=>al n\/(fr<=n/\n < fr+64)) w'/\
    out.val.Rel S (aJ N (iU blk out.blks) g') w' g' v)->o.wp P a w K Q:=by
   intro s;simp only[Oper.wp,i,Oper.upon_enter];refine s.mono ?_;rintro e w' ⟨v,g',rfl,p,Y,Z,U⟩;exact X v w' g' p Y Z U
  dsimp only at c;have L:=r.norm;generalize args.map Sl.norm=A at L c;cases p:IX d blk fr (A.map (Sl.view blk)) (mi [] (A.flatMap Sl.owns))with
  | some W=>
   rw[p]at c;simp only[zl,Og]at c;subst c;refine G (tK J t h O (fun ids bY R hv=> ?_) (fun l j=> ?_) (fun l j=> ?_) p V)
   ·refine d_.view J (jd:=mi [] (A.flatMap Sl.owns)) h ⟨fun b z=>(rW R b z).1,fun l j v b y k m z=> ?_⟩ (fun l j=>(lg _ _ _).2 (.inr j)) L;rcases(rW R b z).2 with q | ⟨I,E,⟨F,M,u,B⟩ | ⟨F,M,u,B⟩⟩
    ·exact h.adQ y k m q
    ·have:=h.sep l I v E b y F k u m B
     grind
    ·have:=h.sep l I v E b y M k u m B
     grind
   ·grind [lg,Xp]
   ·obtain⟨x,hx,C⟩:=Qa1.1 (((lg _ _ _).1 j).resolve_left oG);rcases ail (blk:=blk) C with q | q | q
    ·exact .inl q
    ·exact .inr (.inl q)
    ·exact .inr (.inr (Qa1.2 ⟨_,Qbf.2 ⟨x,hx,rfl⟩,q⟩))
  | none=>
   rw[p]at c;simp only[zl]at c
   grind [d_.less,tK,rW]
theorem abv (B:ShOk S){c:Call}{d:Operand}(D:o.op= .call c)(y:c.callee= .value d)(r:∀f i,Γ f=some i->CtOk P S f i)(h:Hp S w0 N blk g al w)(l:∀n,fr<=n->n < fr+64->¬al n)
  (j:∀t,(slot t).Rel S (aJ N blk g) w g (a.tmps.getD t undef)) (b:adU Γ blk fr (aI slot d) (c.args.toList.map (aI slot))=some out) (z:kF out.pre) (A:Post S w0 N blk g al w fr out o.dst a K):o.wp P a w K Q:=by
 have e:=mM j d;unfold adU at b;split at b
 ·rename_i f C s q;rw[q]at e;obtain⟨u,v,k⟩:∃u,a.eval d= .func (.func f) #[u] #[]/\J8 S (aJ N blk g) w C s u:=e;split at b
  ·rename_i x E;refine abW B (args:=x::c.args.toList.map (aI slot)) (vals:=u::c.args.toList.map a.eval) r h l ⟨abf E k,Jq j _⟩ (fun i p=> ?_) b z A;have m:=p.enters (u::c.args.toList.map a.eval).toArray w;simp only[execOp,D,resolve,y,Deferred.ofValue,v,Sem.run_bind,Sem.run_pure,Result.andThen_ok,invoke];have:(#[u]++c.args.map a.eval:Array Value)++ #[]=(u::c.args.toList.map a.eval).toArray:=by grind
   rw[this,m]
  ·cases b
 ·cases b
theorem Py (k:∀t r,T t=some r->TyOk P t r)(F:∀f A,Γ f=some A->CtOk P S f A)(z:ShOk S)(h:Hp S w0 N blk g al w)(p:∀n,fr<=n->n < fr+64->¬al n)
  (D:∀t,(slot t).Rel S (aJ N blk g) w g (a.tmps.getD t undef)) (b:awj T S Γ slot blk fr o.op=some out) (E:kF out.pre) (l:Post S w0 N blk g al w fr out o.dst a K):o.wp P a w K Q:=by
 have j:=mM D;unfold awj at b;split at b
 ·rename_i t d;exact Zz d k h p b l
 ·rename_i t x d;exact acn d k h (j x) b l
 ·grind [XK]
 ·grind [aaO]
 ·grind [Xu]
 ·rename_i t d;exact UB z d h p b l
 ·grind [XY]
 ·grind [YN]
 ·grind [XC]
 ·grind [F7]
 ·rename_i t x i v d;exact F7 z (.inr d) k h (j x) (j i) (j v) b l
 ·grind [aci,afN]
 ·rename_i t x d;exact am0 d k h (j x) b l
 ·grind [UG]
 ·grind [aeb]
 ·grind [alh]
 ·rename_i x d;split at b
  ·rename_i e B;split at b
   ·rename_i f H G;have q:=j x;rw[B]at q;injection b with b
    subst b;refine aP (v:=a.eval x) ?_ h l rfl q;obtain⟨u,C,_⟩:=q;simp[execOp,d,C]
   ·cases b
  ·cases b
 ·rename_i c d;split at b
  ·grind [abv]
  ·rename_i s;split at b
   ·rename_i x y m;split at b
    ·grind [Uw]
    grind [Uu,Ux,UJ]
   ·cases b
  ·grind [al6]
  ·grind [MO]
  ·rename_i s;split at b
   ·rename_i x y m;exact MN d s m k h (j x) (j y) b E l
   ·cases b
  ·cases b
 ·cases b
theorem aaP (L:∀t y,T t=some y->TyOk P t y)(J:∀f G,Γ f=some G->CtOk P S f G)(s:ShOk S)(h:Hp S w0 N blk g al w)(F:∀n,fr<=n->n < fr+64->¬al n)
  (B:∀t,(slot t).Rel S (aJ N blk g) w g (a.tmps.getD t undef)) (c:aeD T S Γ slot blk fr o.op=some out) (O:kF out.pre) (R:Post S w0 N blk g al w fr out o.dst a K):o.wp P a w K Q:=by
 unfold aeD at c;dsimp only at c;split at c
 ·rename_i M;simp only[iW,Qa3]at M;split at c
  ·rename_i d W;injection c with c
   subst c;have D:(oU slot o.op).Nodup:=nV _ _ List.nodup_nil;obtain⟨V,H,C,X⟩:=Hp.Dt s (oU slot o.op) blk D h;refine Py L J s V F (fun t=> ?_) W O (fun v w' g' m k E U=> ?_)
   ·unfold ajL;split
    ·rename_i r;have r:=fB.1 r;refine Sl.Rel.view (jd:=oU slot o.op) s h ⟨?_,fun l z v b A I i=> ?_⟩ (fun l z=>(lg _ _ _).2 (.inr (Qa1.2 ⟨t,r,z⟩))) (B t)
     ·rintro b (i | ⟨n,u,p,x,j⟩)
      ·exact .inl i
      ·exact .inr ⟨n,u,C n p,x,j⟩
     ·rintro(q | ⟨n,u,p,x,j⟩)
      ·exact h.adQ A I i q
      ·have:=h.sep l n v u b A (C n p) I x i j
       grind
    ·exact(B t).keep H (More.refl _)
   ·have e:iU blk ((oU slot o.op).filterMap (jQ blk)++d.blks)=iU (iU blk ((oU slot o.op).filterMap (jQ blk))) d.blks:=P9 _ _ _;refine R v w' g' m ?_ ?_ ?_
    ·rw[e];exact H.comp k
    ·rw[e];exact E
    ·rw[e];exact U
  ·cases c
 ·cases c
theorem qN.base {i:Bs}{c:Bk D}{v:Value}(h:qN S M w g w0 c v)(a:hot (some c)=true->∀b,dB v=some b->i.Mine b):qN S M w g i c v:=by
 cases c with
 | cells cs=>obtain⟨b,f,t,rfl,_,h⟩:=h;exact⟨b,f,t,rfl,a rfl b rfl,h⟩
 | row e d=>exact⟨⟨a rfl,h.1.2⟩,h.2⟩
 | ve d=>exact h
 | iter s p=>obtain⟨l,b,rfl,_,h⟩:=h;exact⟨l,b,rfl,a rfl b rfl,h⟩
 | map d=>obtain⟨m,b,k,n,o,j,rfl,_,h⟩:=h;exact⟨m,b,k,n,o,j,rfl,a rfl b rfl,h⟩
 | tc t cs=>obtain⟨b,f,rfl,_,h⟩:=h;exact⟨b,f,rfl,a rfl b rfl,h⟩
def Xof (a:Nat->Option (Bk D))(g:Nat->Option Value)(b:Nat):Prop:=∃l v,hot (a l)=true/\g l=some v/\dB v=some b
def QG (N:Nat->Prop)(c a:Nat->Option (Bk D))(g:Nat->Option Value)(b:Nat):Prop:=aJ N c g b/\¬Xof a g b
theorem Jv {L:List Nat}{l:Nat}{a:Bk D}(h:mJ L blk l=some a):blk l=some a/\l∈L:=by
 unfold mJ at h
 grind [fB]
theorem Bg {L:List Nat}{l:Nat}(h:hot (mJ L blk l)=true):hot (blk l)=true:=by
 obtain⟨c,b,a⟩:=iI h;rw[(Jv b).1];exact a
theorem nI {a:Type}{l:Nat}:∀{b:List (Nat×a)} {f:Nat->a},l∉b.map (·.1)->iU f b l=f l
 | [],_,_=>rfl
 | (k,v)::r,f,h=>by
  simp only[MQ,IP,not_or]at h;simp only[iU];rw[nI h.2,bI _ _ _ _ h.1]
theorem NJ {c:Type}{l:Nat}:∀{a:List (Nat×c)} {f b:Nat->c},l∈a.map (·.1)->iU f a l=iU b a l
 | (k,v)::r,f,b,h=>by
  simp only[iU];by_cases d:l∈r.map (·.1)
  ·exact NJ d
  grind [nI,upd_same]
theorem Hp.cut (h:Hp S w0 N blk g al w)(L:List Nat):aJ (QG N blk (mJ L blk) g) (mJ L blk) g=aJ N blk g/\Hp S ⟨w,Xof (mJ L blk) g⟩ (QG N blk (mJ L blk) g) (mJ L blk) g al w:=by
 have e:aJ (QG N blk (mJ L blk) g) (mJ L blk) g=aJ N blk g:=by
  funext b;refine propext ⟨?_,fun f=> ?_⟩
  ·rintro(f | ⟨l,v,t,r⟩)
   ·exact f.1
   ·exact .inr ⟨l,v,Bg t,r⟩
  ·by_cases k:Xof (mJ L blk) g b
   ·exact .inr k
   ·exact .inl ⟨f,k⟩
 refine⟨e,zK.refl _,fun b f=>⟨h.mlt f.1,f.2⟩,fun l m n=> ?_,fun a c o s d q p=>h.sep a c o s d (Bg q) (Bg p),h.al,h.refs,e.symm▸h.gl⟩;obtain⟨v,i,j⟩:=h.bY l m (Jv n).1;exact⟨v,i,e.symm▸j.base fun u b f=> .inr ⟨l,v,by grind,i,f⟩⟩
theorem Hp.aIR (h:Hp S w0 N blk g al w){L:List Nat}{f:List (Nat×Option (Bk D))}{I:Nat->Prop}(O:More g g')(k:Keeps (aJ N blk g) w (aJ (QG N blk (mJ L blk) g) (iU (mJ L blk) f) g') w')
  (n:Hp S ⟨w,Xof (mJ L blk) g⟩ (QG N blk (mJ L blk) g) (iU (mJ L blk) f) g' I w'):(∀b,aJ N (iU blk f) g' b->aJ (QG N blk (mJ L blk) g) (iU (mJ L blk) f) g' b)/\Hp S w0 N (iU blk f) g' I w':=by
 have z_:∀{l b v},hot (blk l)=true->g l=some v->dB v=some b->b < w.heap.size/\w0.Mine b:=fun d e m=>by
  obtain⟨t,_,x,j⟩:=h.at d e;exact j.lt x m
 have V:∀{b},Xof (mJ L blk) g b->w0.Mine b:=fun⟨l,v,d,e,m⟩=>(z_ (Bg d) e m).2
 have aa:∀{b},N b->¬Xof (mJ L blk) g b:=fun i W=>by
  rcases V W with d | d
  ·have:=(h.hN _ i).1;omega
  ·exact(h.hN _ i).2 d
 have o:∀{l v b},l∉f.map (·.1)->l∉L->hot (blk l)=true->g l=some v->dB v=some b->QG N blk (mJ L blk) g b:=fun d e m y B=>
  ⟨.inr ⟨_,_,m,y,B⟩,fun⟨R,M,k1,k2,k3⟩=>e (h.sep _ _ _ _ _ m (Bg k1) y k2 B k3▸(iI k1).elim fun _ q=>(Jv q.1).2)⟩
 have p:∀l,iU (mJ L blk) f l=iU blk f l\/(l∉f.map (·.1)/\l∉L/\iU blk f l=blk l):=fun l=>by
  by_cases d:l∈f.map (·.1)
  ·exact .inl (NJ d)
  ·rw[nI d,nI d];by_cases e:l∈L
   ·exact .inl (by unfold mJ;rw[fB.2 e];rfl)
   grind
 have s:∀{l v},hot (blk l)=true->g' l=some v->g l=some v:=fun d e=>by
  obtain⟨t,i,_⟩:=iI d;obtain⟨u,Y,_⟩:=h.bY _ t i;rw[O _ u Y]at e;rw[Y,e]
 have G:∀b,aJ N (iU blk f) g' b->aJ (QG N blk (mJ L blk) g) (iU (mJ L blk) f) g' b:=by
  rintro b (i | ⟨l,v,d,e,m⟩)
  ·exact .inl ⟨.inl i,aa i⟩
  ·rcases p l with q | ⟨P,U,K⟩
   ·exact .inr ⟨l,v,by grind,e,m⟩
   ·rw[K]at d;exact .inl (o P U d (s d e) m)
 have X:∀(w:World),Keeps (aJ (QG N blk (mJ L blk) g) (iU (mJ L blk) f) g') w (aJ N (iU blk f) g') w:=fun w=>⟨lH _,fun b _ hn=>⟨fun i=>hn (G b i),rfl⟩⟩
 refine⟨G,⟨n.below.os.trans h.below.os,n.below.tape.trans h.below.tape,n.below.output.trans h.below.output,zW h.below.size n.below.size,fun b d e=>(n.below.block b (Qbm d h.below.size) fun W=> ?_).trans (h.below.block b d e)⟩,h.hN,fun l t J=> ?_,
  fun a c Z vc b T Q H F E C=> ?_,n.al,n.refs,n.gl.keep (X w')⟩
 ·rcases V W with q | q
  ·omega
  ·exact e q
 ·rcases p l with q | ⟨P,U,K⟩
  ·obtain⟨v,z,j⟩:=n.bY l t (q.trans J);refine⟨v,z,(j.keep (X w') (More.refl _) fun _ _ _=>rfl).base fun x b i=> ?_⟩;rcases(j.lt x i).2 with r | r
   ·exact .inl (zW h.below.size r)
   ·exact V r
  ·rw[K]at J;obtain⟨v,z,j⟩:=h.bY l t J;refine⟨v,O _ _ z,(j.keep k O fun x b i=> ?_).keep (X w') (More.refl _) fun _ _ _=>rfl⟩;have A:=o P U qP z i;exact n.below.block b (h.mlt A.1) A.2
 ·
  have clash:∀{l R v M},l∉f.map (·.1)->l∉L->hot (blk l)=true->g' l=some v->dB v=some b->hot (iU (mJ L blk) f R)=true->g' R=some M->dB M=some b->False:=fun d e m y B h6 h7 h8=>by
   have A:=o d e m (s m y) B;obtain⟨t,_,x,j⟩:=n.at h6 h7;rcases(j.lt x h8).2 with r | r
   ·grind
   ·exact A.2 r
  rcases p a with qa | ⟨a1,a2,a3⟩<;>rcases p c with qc | ⟨c1,c2,c3⟩
  ·exact n.sep a c Z vc b qP qP H F E C
  ·grind
  ·grind
  ·rw[a3]at T;rw[c3]at Q;exact h.sep a c Z vc b T Q (s T H) (s Q F) E C
theorem agF (E:∀t j,T t=some j->TyOk P t j)(D:∀f s,Γ f=some s->CtOk P S f s)(J:ShOk S)(h:Hp S w0 N blk g al w)(C:∀n,fr<=n->n < fr+64->¬al n)
  (H:∀t,(slot t).Rel S (aJ N blk g) w g (a.tmps.getD t undef)) (c:Does T S Γ slot blk fr o.op out) (I:kF out.pre) (x:Post S w0 N blk g al w fr out o.dst a K):o.wp P a w K Q:=by
 obtain⟨e,A⟩:=h.cut (dR slot blk o.op);have l:∀t,(aeQ o.op slot t).Rel S (aJ (QG N blk (mJ (dR slot blk o.op) blk) g) (mJ (dR slot blk o.op) blk) g) w g (a.tmps.getD t undef):=fun t=>by
  unfold aeQ;cases ql t (uP o.op.operands.toList)with
  | true=>grind
  | false=>trivial
 have p:Post S ⟨w,Xof (mJ (dR slot blk o.op) blk) g⟩ (QG N blk (mJ (dR slot blk o.op) blk) g) (mJ (dR slot blk o.op) blk) g al w fr out o.dst a K:=fun v w' g' k d r y=>by
  rw[e]at d;obtain⟨u,z⟩:=h.aIR k d r;exact x v w' g' k ⟨d.size,fun b m i=>⟨fun q=>(d.same b m i).1 (u b q),(d.same b m i).2⟩⟩ z (y.keep ⟨lH _,fun b _ i=>⟨fun q=>i (u b q),rfl⟩⟩ (More.refl _))
 rcases c with c | ⟨b,F,G,B,rfl⟩
 ·unfold ayX aF9 at c;split at c
  ·grind [Py]
  ·split at c
   ·grind [aaP]
   ·unfold aHL at c
    grind [mM,amx,acR]
 ·exact afo A l B p
end
end Go.Vc
