/- Own engine: Vdd. -/
import Derived.Lib.ConvBytes
import Derived.Test.YtgdmjfkdbfafjaaGreatDoorEng4
import Derived.MapFrom
import Derived.Lib.AppendStr
import Derived.Lib.AppendZeros
import Derived.Lib.UnsafeStr
import Derived.Laws.BytesString
set_option linter.unusedVariables false
set_option linter.unusedSimpArgs false
namespace Go.Vc
open Go.RowKit
section
variable {D:Type}
def aDy (T:TypeId->Option Ty)(t:TypeId):Option (TypeId×Nat×Nat):=
 match T t with
 | none=>none
 | some a=>if a.lit then Qj T t else none
def alp (T:TypeId->Option Ty)(t:TypeId)(x i:Sl D):Option (Out D):=
 match aDy T t with
 | none=>none
 | some (e,n,a)=>(match x,i with
  | .one (.lf (.ptr l o)), .one (.lf (.int _ m))=>nP (some (dp (0<=m/\m < n))) (.ptr l (o+m.toNat*a))
  | _,_=>none)
def aeb (T:TypeId->Option Ty)(t:TypeId)(x i:Sl D):Option (Out D):=
 match aDy T t with
 | none=>none
 | some (e,n,a)=>(match T e with
  | none=>none
  | some b=>(match x,i with
   | .one (.agg cs), .one (.lf (.int _ m))=>
    if Nat.beq cs.length (n*a)then(if b.agg then some ⟨some (dp (0<=m/\m < n)), .one (.agg ((cs.drop (m.toNat*a)).take a)),[]⟩
    else(match cs[m.toNat*a]? with
     | some y=>nP (some (dp (0<=m/\m < n))) y
     | none=>none))else none
   | _,_=>none))
def V4 (S:Sh D)(t:TypeId)(a:Nat):Option (Out D):=
 match S.azD t with
 | some d=>some ⟨none, .one (.lf (.own a)),[(a,some (.map d))]⟩
 | none=>none
def aA3:Sl D->Option Pv
 | .one (.lf x)=>x.pv
 | _=>none
def mapOf (S:Sh D)(a:Nat->Option (Bk D))(t:TypeId):Sl D->Option (Mp D)
 | .one (.lf (.own l))=>(match a l with
  | some (.map d)=>S.mp d
  | some (.xZ d)=>S.mp d
  | _=>none)
 | .one (.lf (.dat d))=>S.mp d
 | .one (.lf (.val (.map none)))=>(match S.azD t with
  | some d=>S.mp d
  | none=>none)
 | _=>none
def aFw:Pv->Value->Bool
 | .bool a, .bool b=>a==b
 | .int k a, .int c b=>ZA k c && a==b
 | .str s, .string u=>s.isEmpty && Nat.beq u.data.size 0
 | _,_=>false
def aeR:List Pv->List Value->Bool
 | [],[]=>true
 | p::b,v::a=>aFw p v && aeR b a
 | _,_=>false
def Ul:List Pv->List Pv->Bool
 | [],[]=>true
 | p::b,q::a=>Nat.beq p.kind q.kind && Ul b a
 | _,_=>false
def UN (T:TypeId->Option Ty)(S:Sh D)(b:Nat->Option (Bk D))(t:TypeId)(x i:Sl D)(c:Bool):Option (Out D):=
 match T t with
 | none=>none
 | some a=>(match a.mp with
  | none=>none
  | some (h,g)=>(match T h,T g with
   | some f,some e=>(match mapOf S b t x,aA3 i with
    | some m,some k=>
     if Nat.beq a.kind 0 && Nat.beq k.kind f.kind && (Nat.beq m.kind f.kind && (m.agg==e.zag && aeR m.zero e.zero))then
      (match m.agg,m.get k with
      | true,d=>if c then some ⟨none, .x8 [.agg d, .lf (.bool (m.has k))],[]⟩else some ⟨none, .one (.agg d),[]⟩
      | false,[y]=>if c then some ⟨none, .x8 [.lf y, .lf (.bool (m.has k))],[]⟩else nP none y
      | _,_=>none)else none
    | _,_=>none)
   | _,_=>none))
def awl (a:Bool):Sl D->Option (List Pv)
 | .one (.lf x)=>if a then none else(match x.pv with
  | some p=>some [p]
  | none=>none)
 | .one (.agg b)=>if a then pvs b else none
 | _=>none
def H5 (T:TypeId->Option Ty)(S:Sh D)(b:Nat->Option (Bk D))(t:TypeId)(x i v:Sl D):Option (Out D):=
 match T t with
 | none=>none
 | some a=>(match a.mp with
  | none=>none
  | some (e,f)=>(match T e with
   | some c=>(match x,aA3 i with
    | .one (.lf (.own l)),some k=>(match b l with
     | some (.map d)=>(match S.mp d with
      | some m=>(match awl m.agg v with
       | some u=>if Nat.beq a.kind 0 && Nat.beq k.kind c.kind && (Nat.beq m.kind c.kind && Ul u m.zero)then some ⟨none, .one (.lf .any),[(l,some (.map (m.put k u)))]⟩else none
       | none=>none)
      | none=>none)
     | _=>none)
    | _,_=>none)
   | _=>none))
def aJ7:Lf D->Bool
 | .int .u8 _=>true
 | _=>false
def awQ:Lf D->Bool
 | .int .u8 k=>decide (0<=k) && decide (k < 256)
 | _=>false
def JQ (f:Nat->Bool):Nat->Bool
 | 0=>true
 | n+1=>f n && JQ f n
def aL9:Lf D->UInt8
 | .int .u8 n=>UInt8.ofNat n.toNat
 | _=>0
def Nj (S:Sh D)(d:D):Nat->Bool:=JQ fun i=>aJ7 (S.cell d i 0)
def aen (S:Sh D)(d:D):Nat->Bool:=JQ fun i=>awQ (S.cell d i 0)
def bytesOf (S:Sh D)(d:D):List UInt8:=(List.range (S.len d)).map fun i=>aL9 (S.cell d i 0)
def aaf (T:TypeId->Option Ty)(S:Sh D)(a:Nat->Option (Bk D))(src c:TypeId)(x:Sl D):Option (Out D):=
 match T src,T c with
 | some f,some g=>(match f.elem with
  | none=>none
  | some e=>(match T e with
   | none=>none
   | some b=>if Nat.beq g.kind 3 && (Nat.beq b.kind 24 && Nat.beq b.size 1)then(match x with
    | .one (.lf (.val (.slice none 0 0)))=>nP none (.str [])
    | x=>(match Nr a x with
     | some d=>if Nat.beq (S.size d) 1 then nP (some (dp (Nj S d (S.len d)=true))) (.str (bytesOf S d))else none
     | none=>none))else none))
 | _,_=>none
def akr (T:TypeId->Option Ty)(S:Sh D)(src b:TypeId)(x:Sl D):Option (Out D):=
 match T src,T b with
 | some c,some d=>(match d.elem with
  | none=>none
  | some e=>(match T e with
   | none=>none
   | some a=>if Nat.beq c.kind 3 && (Nat.beq a.kind 24 && Nat.beq a.size 1)then(match x with
    | .one (.lf (.str s))=>(match S.text e s with
     | none=>none
     | some d2=>if Nat.beq (S.size d2) 1 then nP none (.dat d2)else none)
    | _=>none)else none))
 | _,_=>none
def Lf.dl:Lf D->Option (Dl D)
 | .bool b=>some (.bool b)
 | .val (.bool b)=>some (.bool b)
 | .int k n=>some (.int k n)
 | .str s=>some (.str s)
 | .dat d=>some (.dat d)
 | .val (.slice none 0 0)=>some .aJq
 | _=>none
def dls:List (Lf D)->Option (List (Dl D))
 | []=>some []
 | x::a=>(match x.dl,dls a with
  | some p,some b=>some (p::b)
  | _,_=>none)
def Dl.lf:Dl D->Lf D
 | .bool b=> .bool b
 | .int k n=> .int k n
 | .str s=> .str s
 | .dat d=> .dat d
 | .aJq=> .val (.slice none 0 0)
def apR (b:Bool)(a:List (Dl D)):Option (Sl D):=
 match b,a with
 | false,[x]=>some (.one (.lf x.lf))
 | true,a=>some (.one (.agg (a.map Dl.lf)))
 | _,_=>none
def aoL:Sl D->Option (Bool×List (Dl D))
 | .one (.lf x)=>(match x.dl with
  | some p=>some (false,[p])
  | none=>none)
 | .one (.agg a)=>(match dls a with
  | some b=>some (true,b)
  | none=>none)
 | _=>none
def aGB (T:TypeId->Option Ty)(t:TypeId)(x:Sl D):Option (Out D):=
 match T t with
 | none=>none
 | some a=>if Nat.beq a.kind 0 then none else(match aoL x with
  | some (c,b)=>nP none (.xt (.ifd t c b))
  | none=>none)
def acN (a:Ty):Option (Sv D):=
 if a.agg then(if a.zag then some (.agg (a.zero.map zf))else none)else(match a.zero with
  | [z]=>if a.zag then none else some (.lf (zf z))
  | _=>none)
def aLF:Value->Bool
 | .slice _ _ _=>true
 | _=>false
def VD (T:TypeId->Option Ty)(t:TypeId)(x:Sl D)(b:Bool):Option (Out D):=
 match T t with
 | none=>none
 | some a=>if Nat.beq a.kind 0 then none else(match x with
  | .one (.lf (.xt (.ifd c e d)))=>(match apR e d with
   | some (.one u)=>(match b with
    | true=>if Nat.beq c t then some ⟨none, .x8 [u, .lf (.val (.bool true))],[]⟩else(match acN a with
     | some z=>some ⟨none, .x8 [z, .lf (.val (.bool false))],[]⟩
     | none=>none)
    | false=>if Nat.beq c t then some ⟨none, .one u,[]⟩else none)
   | _=>none)
  | .one (.lf (.Ze v))=>if a.zero.any aLF then(match v with
   | none=>(match b with
    | true=>(match acN a with
     | some z=>some ⟨none, .x8 [z, .lf (.val (.bool false))],[]⟩
     | none=>none)
    | false=>none)
   | some _=>none)else none
  | _=>none)
def aHj (f:FuncId)(x:Sl D):Option (Out D):=
 match aoL x with
 | some (b,a)=>nP none (.xt (.clo f b a))
 | none=>none
def acQ (e:FuncId->Option (Ct D))(a:Nat->Option (Bk D))(b:Nat)(f:Sl D)(args:List (Sl D)):Option (Out D):=
 match f with
 | .one (.lf (.xt (.clo f d c)))=>(match apR d c with
  | some x=>Lr e f a (x::args) b
  | none=>none)
 | _=>none
def U0 (T:TypeId->Option Ty)(S:Sh D)(f:Nat->Option (Bk D))(t:TypeId)(x:Sl D)(i g:Option (Sl D)):Option (Out D):=
 match T t with
 | none=>none
 | some c=>if c.lit then(match bnd 0 i,c.elem with
  | some l,some e=>(match T e with
   | none=>none
   | some a=>(match x with
    | .one (.lf (.own q))=>(match f q with
     | some (.row _ d)=>if Nat.beq a.size (S.size d) && (Nat.blt 0 a.size && !a.agg)then(match bnd (S.len d) g with
      | some h=>(match S.sub d l.toNat h.toNat with
       | some b=>some ⟨some (dp (0<=l/\l<=h/\h<=S.len d)), .one (.lf (.dat b)),[(q,some (.xZ d))]⟩
       | none=>none)
      | none=>none)else none
     | some (.xZ d)=>if Nat.beq a.size (S.size d) && (Nat.blt 0 a.size && !a.agg)then(match bnd (S.len d) g with
      | some h=>(match S.sub d l.toNat h.toNat with
       | some b=>some ⟨some (dp (0<=l/\l<=h/\h<=S.len d)), .one (.lf (.dat b)),[]⟩
       | none=>none)
      | none=>none)else none
     | _=>none)
    | _=>none))
  | _,_=>none)else none
def Bz (T:TypeId->Option Ty)(S:Sh D)(a:Nat->Option (Bk D))(c:Array TypeId)(x y:Sl D):Option (Out D):=
 match c.toList,y with
 | [t,f], .one (.lf (.val (.slice none 0 0)))=>if Nat.beq t f then(match T t with
  | none=>none
  | some b=>(match b.elem with
   | none=>none
   | some e=>(match T e with
    | none=>none
    | some g=>(match x with
     | .one (.lf (.val (.slice none 0 0)))=>nP none (.val (.slice none 0 0))
     | .one (.lf (.dat d))=>if Nat.blt 0 (S.size d)then nP none (.dat d)else none
     | .one (.lf (.own l))=>(match a l with
      | some (.row _ _)=>nP none (.own l)
      | _=>none)
     | _=>none))))else none
 | _,_=>none
def VC (T:TypeId->Option Ty)(S:Sh D)(b:Nat)(f:Array TypeId)(x y:Sl D):Option (Out D):=
 match f.toList,x,y with
 | [t,g], .one (.lf (.val (.slice none 0 0))), .one (.lf (.int _ n))=>(match T t,T g with
  | some c,some h=>(match apO h.kind,c.elem with
   | some _,some e=>(match T e with
    | some a=>if Nat.blt 0 a.size && Nat.beq a.zero.length a.size then(match S.zero e n.toNat (a.zero.map fun v=>(zf v).norm)with
     | some d=>some ⟨some (dp (0 < n/\n*a.bytes<=281474976710656/\n<=1099511627776)), .one (.lf (.own b)),[(b,some (.row e d))]⟩
     | none=>none)else none
    | none=>none)
   | _,_=>none)
  | _,_=>none)
 | _,_,_=>none
def aHN (T:TypeId->Option Ty)(b:Array TypeId)(x:Sl D):Option (Out D):=
 match b.toList,x with
 | [t], .one (.lf (.val (.slice none 0 0)))=>(match T t with
  | some a=>(match a.elem with
   | some _=>nP none (.int .i64 0)
   | none=>none)
  | none=>none)
 | _,_=>none
def S9 (T:TypeId->Option Ty)(S:Sh D)(c:Nat->Option (Bk D))(t:TypeId)(x:Sl D)(g i:Option (Sl D))(j:Sl D):Option (Out D):=
 match g,i,j with
 | none,some (.one (.lf (.int _ h))), .one (.lf (.int _ m))=>(match T t with
  | none=>none
  | some f=>(match f.elem with
   | none=>none
   | some e=>(match T e with
    | none=>none
    | some a=>(match x with
     | .one (.lf (.dat d))=>if Nat.beq a.size (S.size d) && Nat.blt 0 a.size then(match S.sub d 0 h.toNat with
      | some b=>nP (some (dp (0<=h/\h=m/\h<=S.len d))) (.xt (.clip b))
      | none=>none)else none
     | .one (.lf (.own q))=>(match c q with
      | some (.row _ d)=>if Nat.beq a.size (S.size d) && Nat.blt 0 a.size then(match S.sub d 0 h.toNat with
       | some b=>some ⟨some (dp (0<=h/\h=m/\h<=S.len d)), .one (.lf (.dat b)),[(q,some (.xZ d))]⟩
       | none=>none)else none
      | _=>none)
     | _=>none))))
 | _,_,_=>none
def BV (T:TypeId->Option Ty)(S:Sh D)(c:Nat->Option (Bk D))(b:Nat)(g:Array TypeId)(x y:Sl D):Option (Out D):=
 match x with
 | .one (.lf (.xt e))=>(match e with
  | .clip d1=>(match g.toList with
   | [t,h]=>if Nat.beq t h then(match T t with
    | none=>none
    | some f=>(match f.elem with
     | none=>none
     | some e=>(match T e with
      | none=>none
      | some a=>(match Nr c y with
       | none=>none
       | some d2=>if Nat.beq a.size (S.size d2) && (Nat.blt 0 a.size && Nat.beq a.zero.length a.size)then(match S.cat d1 d2 with
        | some d=>some ⟨some (dp (0 < S.len d2/\bZ (S.len d1+S.len d2) a.bytes)), .one (.lf (.own b)),[(b,some (.row e d))]⟩
        | none=>none)else none))))else none
   | _=>none)
  | _=>none)
 | _=>none
def aw0 (T:TypeId->Option Ty)(S:Sh D)(b:BinOp)(t:TypeId)(x y:Sl D):Option (Out D):=
 match T t with
 | none=>none
 | some a=>if S.run && a.lit then(match a.elem,x,y with
  | some _, .one (.lf (.dat d)), .one (.lf (.val (.slice none 0 0)))=>if Nat.blt 0 (S.len d) && Nat.blt 0 (S.size d)then(match b with
   | .eql=>nP none (.val (.bool false))
   | .neq=>nP none (.val (.bool true))
   | _=>none)else none
  | _,_,_=>none)else none
def aFf (a:Ty):Bool:=
 match a.zero with
 | [.pointer none, .slice none 0 0]=>a.lit && a.agg && Nat.beq a.kind 5
 | _=>false
def aeH (T:TypeId->Option Ty)(a:Nat)(t:TypeId):Option (Out D):=
 match T t with
 | none=>none
 | some b=>if aFf b then some ⟨none, .one (.lf (.ptr a 0)),[(a,some (.tc t [.val (.slice none 0 0)]))]⟩else none
def aem (T:TypeId->Option Ty)(a:Nat->Option (Bk D))(t:TypeId)(x:Sl D):Option (Out D):=
 match T t with
 | none=>none
 | some b=>(match x with
  | .one (.lf (.ptr l o))=>(match a l with
   | some (.tc _ cs)=>if b.agg then none else(match o with
    | 0=>none
    | o+1=>(match cs[o]? with
     | some y=>nP none y
     | none=>none))
   | _=>none)
  | _=>none)
def TW (T:TypeId->Option Ty)(b:Nat->Option (Bk D))(t:TypeId)(x y:Sl D):Option (Out D):=
 match T t,x,y with
 | some a, .one (.lf (.ptr l o)), .one (.lf u)=>(match b l with
  | some (.tc c cs)=>(match o with
   | 0=>none
   | o+1=>if Nat.beq a.size 1 && (!a.agg && (Nat.blt o cs.length && u.storable))then some ⟨none, .one (.lf .any),[(l,some (.tc c (putAt cs o [u])))]⟩else none)
  | _=>none)
 | _,_,_=>none
def axz (a:Ty):Bool:=
 match a.zero with
 | [.int .u8 0]=> !a.zag
 | _=>false
def Ce (T:TypeId->Option Ty)(S:Sh D)(c:Nat->Option (Bk D))(a:Nat)(h:Array TypeId)(x y:Sl D):Option (Out D):=
 match h.toList,y with
 | [t,j], .one (.lf (.str s))=>(match T t,T j with
  | some g,some f=>(match g.elem with
   | none=>none
   | some e=>(match T e with
    | none=>none
    | some b=>if axz b && (Nat.beq b.size 1 && (Nat.beq b.bytes 1 && Nat.beq f.kind 3))then(match S.text e s with
     | none=>none
     | some d2=>if Nat.beq (S.size d2) 1 then(match x with
      | .one (.lf (.val (.slice none 0 0)))=>some ⟨some (dp (bZ s.length 1)), .one (.lf (.own a)),[(a,some (.row e d2))]⟩
      | .one (.lf (.own l))=>(match c l with
       | some (.row i d1)=>if Nat.beq e i && Nat.beq (S.size d1) 1 then(match S.cat d1 d2 with
        | some d=>some ⟨some (dp (bZ (S.len d1+s.length) 1)), .one (.lf (.own a)),[(l,none),(a,some (.row e d))]⟩
        | none=>none)else none
       | _=>none)
      | _=>none)else none)else none))
  | _,_=>none)
 | _,_=>none
def DI (S:Sh D)(a:Nat->Option (Bk D))(x:Sl D):Option (Out D):=
 match x with
 | .one (.lf (.own l))=>(match a l with
  | some (.row _ d)=>if Nat.beq (S.size d) 1 then nP (some (dp (0 < S.len d))) (.opt l 0 0 1)else none
  | _=>none)
 | .one (.lf (.val (.slice none 0 0)))=>nP none (.val (.pointer none))
 | _=>none
def ptrTo (T:TypeId->Option Ty)(b:Array TypeId)(e:TypeId):Bool:=
 match b.toList with
 | [f,_]=>(match T f,T e with
  | some a,some d=>Nat.beq a.kind 6 && (Nat.beq d.size 1 && (match a.mp with
   | some (c,_)=>Nat.beq e c
   | none=>false))
  | _,_=>false)
 | _=>false
def D7 (T:TypeId->Option Ty)(S:Sh D)(a:Nat->Option (Bk D))(b:Array TypeId)(x y:Sl D):Option (Out D):=
 match x,y with
 | .one (.lf (.opt l 0 0 1)), .one (.lf (.int .i64 n))=>(match a l with
  | some (.row e d)=>if ptrTo T b e && Nat.beq (S.size d) 1 then some ⟨some (dp (n=S.len d/\0 < n/\aen S d (S.len d)=true)), .one (.lf (.str (bytesOf S d))),[(l,none)]⟩else none
  | _=>none)
 | .one (.lf (.val (.pointer none))), .one (.lf (.int .i64 n))=>(match b.toList with
  | [_,_]=>nP (some (dp (n=0))) (.str [])
  | _=>none)
 | _,_=>none
def y_ (T:TypeId->Option Ty)(S:Sh D)(r:FuncId->Option (Ct D))(d:Nat->Sl D)(g:Nat->Option (Bk D))(j:Nat)(l:Op):Option (Out D):=
 match l with
 | .alloc t=>aeH T j t
 | .load t x=>aem T g t (aN d x)
 | .store t x y=>TW T g t (aN d x) (aN d y)
 | .indexAddr t x i=>alp T t (aN d x) (aN d i)
 | .index t x i=>aeb T t (aN d x) (aN d i)
 | .makeMap t none=>V4 S t j
 | .slice t x n o none=>U0 T S g t (aN d x) (n.map (aN d)) (o.map (aN d))
 | .slice t x n o (some s)=>S9 T S g t (aN d x) (n.map (aN d)) (o.map (aN d)) (aN d s)
 | .lookup t x i m=>UN T S g t (aN d x) (aN d i) m
 | .mapUpdate t x i v=>H5 T S g t (aN d x) (aN d i) (aN d v)
 | .insert t x i v=>H5 T S g t (aN d x) (aN d i) (aN d v)
 | .convert a b x=>(match aaf T S g a b (aN d x)with
  | some h=>some h
  | none=>akr T S a b (aN d x))
 | .makeInterface t x=>aGB T t (aN d x)
 | .typeAssert x _ t m=>VD T t (aN d x) m
 | .binOp l t x y _=>aw0 T S l t (aN d x) (aN d y)
 | .makeFunc (.func f) first k=>(match first.toList,k.toList with
  | [x],[]=>aHj f (aN d x)
  | _,_=>none)
 | .nilCheck x=>(match aN d x with
  | .one (.lf (.xt e))=>(match e with
   | .clo f p q=>nP none (.xt (.clo f p q))
   | _=>none)
  | _=>none)
 | .call c=>(match c.callee with
  | .value f=>acQ r g j (aN d f) (c.args.toList.map (aN d))
  | .builtin .append=>(match c.args.toList with
   | [x,y]=>(match VC T S j c.argTypes (aN d x) (aN d y)with
    | some h=>some h
    | none=>(match Bz T S g c.argTypes (aN d x) (aN d y)with
     | some h=>some h
     | none=>(match BV T S g j c.argTypes (aN d x) (aN d y)with
      | some h=>some h
      | none=>Ce T S g j c.argTypes (aN d x) (aN d y))))
   | _=>none)
  | .builtin .cap=>(match c.args.toList with
   | [x]=>aHN T c.argTypes (aN d x)
   | _=>none)
  | .builtin .unsafeSliceData=>(match c.args.toList with
   | [x]=>DI S g (aN d x)
   | _=>none)
  | .builtin .unsafeString=>(match c.args.toList with
   | [x,y]=>D7 T S g c.argTypes (aN d x) (aN d y)
   | _=>none)
  | _=>none)
 | _=>none
def Gq:Op->Bool
 | .makeInterface _ _=>true
 | .makeFunc _ _ _=>true
 | _=>false
def PS (T:TypeId->Option Ty)(S:Sh D)(g:FuncId->Option (Ct D))(b:Nat->Sl D)(a:Nat->Option (Bk D))(f:Nat)(d:Op):Option (Out D):=
 let e:=jl b d
 if Gq d && e.all (fun l=>isRow (a l))then
  (match y_ T S g (Ei (rM d.operands.toList) b a) (mM a (e.filterMap (jM a))) f d with
  | some c=>some ⟨c.pre,c.val,e.filterMap (jM a)++c.blks⟩
  | none=>none)
 else none
def arD (T:TypeId->Option Ty)(S:Sh D)(e:FuncId->Option (Ct D))(a:Nat->Sl D)(b:Nat->Option (Bk D))(d:Nat)(f:Op):Option (Out D):=
 match y_ T S e a b d f with
 | some c=>some c
 | none=>(match PS T S e a b d f with
  | some c=>some c
  | none=>asF T S e a b d f)
def Does (T:TypeId->Option Ty)(S:Sh D)(i:FuncId->Option (Ct D))(a:Nat->Sl D)(c:Nat->Option (Bk D))(h:Nat)(g:Op)(d:Out D):Prop:=
 arD T S i a c h g=some d\/∃b e f,Yh a c g=some (b,e,f)/\d=bif b then e else f
end
section
variable {D:Type}{P:Program}{S:Sh D}{T:TypeId->Option Ty}{Γ:FuncId->Option (Ct D)}{M M' N:Nat->Prop}{w w':World}{w0:Bs}{g g':Nat->Option Value}{blk blk':Nat->Option (Bk D)}{al:Nat->Prop}
 {a:Act} {o:Oper} {K:Act->World->Prop} {Q:Exit->Act->World->Prop} {slot dE:Nat->Sl D} {out:Out D} {fr:Nat}
theorem Z5 (d:∀t a,T t=some a->gW P t a){t e:TypeId}{n b:Nat}(h:aDy T t=some (e,n,b)):∃a c,T t=some a/\T e=some c/\c.size=b/\0 < b/\a.size=n*b/\a.agg=true/\P.underlying t=some (.array n e)/\gW P t a/\gW P e c:=by
 unfold aDy at h;split at h
 ·cases h
 ·split at h
  ·exact zx d h
  ·cases h
theorem ahd {t:TypeId}{x d:Operand}(H:o.op= .indexAddr t x d)(s:∀t i,T t=some i->gW P t i)(h:Hp S w0 N blk g al w)(y:(aN slot x).Rel S (bi N blk g) w g (a.eval x))
  (j:(aN slot d).Rel S (bi N blk g) w g (a.eval d)) (c:alp T t (aN slot x) (aN slot d)=some out) (E:nJ out.pre) (G:Post S w0 N blk g al w fr out o.dst a K):o.wp P a w K Q:=by
 unfold alp at c;split at c
 ·cases c
 ·rename_i e n B f;obtain⟨i,V,O,R,u,U,W,L,C,M,F⟩:=Z5 s f;have z:=lG F w;split at c
  ·rename_i l r k m q p;rw[q]at y;rw[p]at j;simp only[Sl.Rel,Sv.Rel,Lf.Rel]at j;obtain⟨b,I,D⟩:=y;injection c with c
   subst c;obtain⟨J,A⟩:=E;refine bz (v:= .pointer (some ⟨b,r+m.toNat*B,none⟩)) ?_ h G rfl ⟨b,I,rfl⟩;simp[execOp,H,Instr.indexAt,Instr.sureAddr,j,asIntOf,run_underlying C,D,J,A,z,u,l_]
  ·cases c
theorem bu.at {g:Nat->Option Value}{a:List (Lf D)}{b:List Value}(h:bu S M w g a b){i:Nat}{x:Lf D}(c:a[i]? =some x):∃u,b[i]? =some u/\x.Rel S M w g u:=bu.get i h c
theorem bu.drop' {g:Nat->Option Value}:∀(n:Nat) {a:List (Lf D)} {b:List Value},bu S M w g a b->bu S M w g (a.drop n) (b.drop n)
 | 0,_,_,h=>h
 | n+1,[],[],_=>trivial
 | n+1,x::a,v::b,h=>bu.drop' n h.2
theorem bu.take' {g:Nat->Option Value}:∀(n:Nat) {a:List (Lf D)} {b:List Value},bu S M w g a b->bu S M w g (a.take n) (b.take n)
 | 0,_,_,h=>trivial
 | n+1,[],[],_=>trivial
 | n+1,x::a,v::b,h=>⟨h.1,bu.take' n h.2⟩
theorem ac0 {t:TypeId}{x f:Operand}(O:o.op= .index t x f)(F:∀t s,T t=some s->gW P t s)(h:Hp S w0 N blk g al w)(L:(aN slot x).Rel S (bi N blk g) w g (a.eval x))
  (i:(aN slot f).Rel S (bi N blk g) w g (a.eval f)) (b:aeb T t (aN slot x) (aN slot f)=some out) (H:nJ out.pre) (J:Post S w0 N blk g al w fr out o.dst a K):o.wp P a w K Q:=by
 unfold aeb at b;split at b
 ·cases b
 ·rename_i e n c q;obtain⟨s,te,Z,M,p,h0,ZO,X,D,Y,I⟩:=Z5 F q;rw[M]at b;dsimp only at b;have l:=lG I w;have j:=yF I w;split at b
  ·rename_i cs k m C B;rw[C]at L;rw[B]at i;simp only[Sl.Rel,Sv.Rel,Lf.Rel]at i;obtain⟨z,G,R⟩:=L;split at b
   rotate_left
   ·cases b
   split at b
   ·rename_i d;injection b with b
    subst b;obtain⟨A,r⟩:=H;refine bz (v:= .agg ((z.drop (m.toNat*c)).take c).toArray) ?_ h J rfl ⟨_,rfl,(R.drop' _).take' _⟩;have V:z.toArray.extract (m.toNat*c) (m.toNat*c+c)=((z.drop (m.toNat*c)).take c).toArray:=by
     grind
    simp[execOp,O,Instr.index,i,asIntOf,run_underlying D,G,A,r,part,j,d,l,p,V]
   ·rename_i d;split at b
    ·rename_i y W;injection b with b
     subst b;obtain⟨A,r⟩:=H;obtain⟨u,U,E⟩:=R.at W;refine bz (v:=u) ?_ h J rfl E;simp[execOp,O,Instr.index,i,asIntOf,run_underlying D,G,A,r,part,j,d,l,p,U]
    ·cases b
  ·cases b
theorem ZH {t:TypeId}(x:jE S)(s:o.op= .makeMap t none)(h:Hp S w0 N blk g al w)(f:∀n,fr<=n->n < fr+64->¬al n)(c:V4 S t fr=some out)(j:Post S w0 N blk g al w fr out o.dst a K):o.wp P a w K Q:=by
 unfold V4 at c;split at c
 ·rename_i d y;injection c with c
  subst c;obtain⟨m,u,i⟩:=x.aFt _ _ y;have e:(execOp a.eval o).run P w= .ok (.value (.map (some w.heap.size))) (w.alloc (.map #[] 0)):=by
   simp[execOp,s,Instr.makeMap,newObj,Sem.run]
  obtain⟨q,r,k⟩:=h.add (l:=fr) (bk:= .map d) (v:= .map (some w.heap.size)) ((Below.refl w.heap.size w).alloc (nO _) (.map #[] 0)) (f fr (nO _) au) (fun b p=>by simp[fJ]at p;omega)
   (fun M' z _=>⟨m,w.heap.size,#[],0,u,by grind,rfl, .inl h.below.size,heap_alloc_new w _,by rw[i];rfl⟩)
  exact l9 e (j _ _ _ k r (q.weaken Yz) (upd_same _ _ _))
 ·cases c
theorem Pv.beq_eq {p q:Pv}(h:Pv.beq p q=true):p=q:=by
 cases p<;>cases q<;>simp_all [Pv.beq,ZA]
theorem aeI {t:TypeId}{ty:Ty}{p:Pv}{d:TypeDesc}(e:kindOf d=ty.kind)(a:Nat.beq p.kind ty.kind=true):MapKept.IsKey d p.val:=by
 have a:=Qa a;rw[<-e]at a;cases p with
 | bool b=>cases d<;>simp[Pv.kind,kindOf]at a<;>first | trivial | (rename_i k;cases k<;>simp[uH]at a)
 | str s=>cases d<;>simp[Pv.kind,kindOf]at a<;>first | trivial | (rename_i k;cases k<;>simp[uH]at a)
 | int k n=>cases d<;>simp[Pv.kind,kindOf]at a<;>first | (rename_i c;cases k<;>cases c<;>first | rfl | simp[uH]at a) | (cases k<;>simp[uH]at a)
theorem aBM {d:TypeDesc}{p q:Pv}(b:MapKept.IsKey d p.val)(a:MapKept.IsKey d q.val):Instr.sameNow d p.val q.val=some (Pv.beq p q):=by
 cases p<;>cases q<;>cases d<;>simp_all [MapKept.IsKey,Instr.sameNow,Pv.val,Pv.beq,ZA]
 ·rename_i s u;rw[Qbr,MapKept.bytes_beq,Qb6]
  grind
def DX {V:Type}(k:Pv):List (Pv×V)->Option (Nat×V)
 | []=>none
 | p::r=>if Pv.beq k p.1 then some (0,p.2)else(DX k r).map fun q=>(q.1+1,q.2)
theorem O5 {V:Type}(k:Pv):∀a:List (Pv×V),Am k a=(DX k a).map (·.2)
 | []=>rfl
 | p::r=>by
  unfold Am DX;split
  ·rfl
  ·rw[O5 k r];cases DX k r<;>rfl
theorem aij {V:Type}{k:Pv}:∀{b:List (Pv×V)} {q:Nat×V},DX k b=some q->∃p∈b,p.2=q.2
 | [],q,a=>by cases a
 | p::r,q,a=>by
  unfold DX at a;split at a
  ·grind
  ·cases c:DX k r with
   | none=>grind
   | some g=>
    rw[c]at a;injection a with a
    subst a;obtain⟨d,e,f⟩:=aij c
    grind
theorem U9 {V:Type}{f:V->Value}{d:TypeDesc}{k:Pv}(g:MapKept.IsKey d k.val):∀(b:List MapEntry) (a:List (Pv×V)) (i:Nat),b.map (fun e=>(e.key,e.val))=a.map (fun p=>(p.1.val,f p.2))->(∀p∈a,MapKept.IsKey d p.1.val)->
  Instr.findNow d k.val b i=some ((DX k a).map fun q=>(i+q.1,f q.2))
 | [],[],_,_,_=>rfl
 | e::b,p::a,i,h,c=>by
  simp only[Kq,Qc5,Qbg]at h;unfold Instr.findNow DX;rw[h.1.1,aBM g (c p qb)];cases l:Pv.beq k p.1 with
  | true=>simp[h.1.2]
  | false=>
   simp only[U9 g b a (i+1) h.2 fun q j=>c q (by simp[j])];cases DX k a with
   | none=>simp
   | some q=>simp;omega
 | [],_::_,_,h,_=>by simp at h
 | _::_,[],_,h,_=>by simp at h
theorem Oz {V:Type}{k:Pv}{v:V}:∀{a:List (Pv×V)},DX k a=none->XH k v a=a++[(k,v)]
 | [],_=>rfl
 | p::r,h=>by
  unfold DX at h;unfold XH;split at h
  ·cases h
  ·rename_i b;rw[yc b,Oz qbt];rfl
theorem abX {V:Type}{k:Pv}{v:V}:∀{a:List (Pv×V)} {j:Nat} {u:V},DX k a=some (j,u)->∃p,a[j]? =some p/\p.1=k/\XH k v a=a.set j (k,v)
 | [],_,_,h=>by cases h
 | p::r,j,u,h=>by
  unfold DX at h;unfold XH;split at h
  ·rename_i c;injection h with h
   injection h with b e
   subst b;have:=Pv.beq_eq c
   grind
  ·rename_i c;cases d:DX k r with
   | none=>grind
   | some q=>
    rw[d]at h;simp only[YJ,P7,Qbg]at h;obtain⟨rfl,rfl⟩:=h;obtain⟨g,b,e,f⟩:=abX (v:=v) (j:=q.1) (u:=q.2) d
    grind
theorem afk {x:Sl D}{p:Pv}{v:Value}{M:Nat->Prop}{g:Nat->Option Value}(h:aA3 x=some p)(a:x.Rel S M w g v):v=p.val/\p.fits:=by
 unfold aA3 at h;split at h
 ·exact WB h a
 ·cases h
theorem arz {b:Bool}{x:Sl D}{c:List Pv}{v:Value}{M:Nat->Prop}{g:Nat->Option Value}(h:awl b x=some c)(f:x.Rel S M w g v):v=ui b c/\∀p∈c,p.fits:=by
 unfold awl at h;split at h
 ·split at h
  ·cases h
  ·rename_i a;have a:b=false:=by simpa using a
   subst a;split at h
   ·rename_i p j;injection h with h
    subst h;obtain⟨d,e⟩:=WB j f;exact⟨d,fun x k=>by grind⟩
   ·cases h
 ·split at h
  ·rename_i a;subst a;obtain⟨l,rfl,i⟩:=f;obtain⟨d,e⟩:=Uc h i;exact⟨by rw[d];rfl,e⟩
  ·cases h
 ·cases h
theorem aav {t:TypeId}{a:Ty}{k v:TypeId}(h:gW P t a)(c:a.mp=some (k,v))(b:a.kind=0):P.underlying t=some (.map k v):=by
 obtain⟨i,d,z,e,_,f,_,rfl⟩:=nU h;dsimp only at c b;cases d<;>simp[anr,kindOf]at c b
 grind
theorem apV {t:TypeId}{a:Ty}{k v:TypeId}(h:gW P t a)(c:a.mp=some (k,v))(b:a.kind=6):P.underlying t=some (.pointer k):=by
 obtain⟨i,d,z,e,_,f,_,rfl⟩:=nU h;dsimp only at c b;cases d<;>simp[anr,kindOf]at c b
 grind
theorem Pv.Y9 {p:Pv}{M:Nat->Prop}{g:Nat->Option Value}(a:p.fits):(Pv.lf (D:=D) p).Rel S M w g p.val:=by
 cases p with
 | bool b=>rfl
 | int k n=>rfl
 | str s=>exact⟨rfl,a⟩
theorem Pv.ao3 {M:Nat->Prop}{g:Nat->Option Value}:∀{a:List Pv},(∀p∈a,p.fits)->bu S M w g (a.map (Pv.lf (D:=D))) (a.map Pv.val)
 | [],_=>trivial
 | p::a,h=>⟨Pv.Y9 (h p qb),Pv.ao3 fun q b=>h q (by simp[b])⟩
theorem aAK {p:Pv}{v:Value}(h:aFw p v=true):v=p.val/\p.fits:=by
 unfold aFw at h;split at h
 ·simp at h;subst h;exact⟨rfl,trivial⟩
 ·simp only[ZA,kW,Qb6]at h;obtain⟨rfl,rfl⟩:=h;exact⟨rfl,trivial⟩
 ·rename_i s u;simp only[kW,List.isEmpty_iff]at h;obtain⟨rfl,a⟩:=h;have a:=Qa a;have:u.data= #[]:=Array.eq_empty_of_size_eq_zero a;refine⟨?_,by simp[Pv.fits]⟩;show Value.string u=Value.string ⟨#[]⟩
  rw[<-this]
 ·cases h
theorem abM:∀{a:List Pv} {b:List Value},aeR a b=true->b=a.map Pv.val/\∀p∈a,p.fits
 | [],[],_=>⟨rfl,fun p c=>by simp at c⟩
 | p::a,v::b,h=>by
  simp only[aeR,kW]at h;obtain⟨e,g⟩:=aAK h.1;obtain⟨d,f⟩:=abM h.2
  grind
 | [],_::_,h=>by cases h
 | _::_,[],h=>by cases h
theorem XX:∀{b a:List Pv},Ul b a=true->b.map Pv.kind=a.map Pv.kind
 | [],[],_=>rfl
 | p::b,q::a,h=>by
  simp only[Ul,kW]at h;simp[Qa h.1,XX h.2]
 | [],_::_,h=>by cases h
 | _::_,[],h=>by cases h
theorem aGe (f:jE S)(h:Hp S w0 N blk g al w){t:TypeId}{x:Sl D}{v:Value}{m:Mp D}(a:mapOf S blk t x=some m)(e:x.Rel S (bi N blk g) w g v):aDR S m/\axP w m.agg m.kvs v:=by
 unfold mapOf at a;split at a
 ·rename_i l;have e:g l=some v:=e;split at a
  ·rename_i d i;obtain⟨u,b,o,r,s,n,c,q,rfl,_,z,A⟩:=h.dW l _ i;rw[a]at c;injection c with c
   subst c;rw[e]at b;injection b with b
   exact⟨(f.A7 _ _ a).2.2,q, .inr ⟨r,s,n,b,z,A⟩⟩
  ·rename_i d i;obtain⟨u,b,j⟩:=h.dW l _ i;rw[e]at b;injection b with b
   subst b;exact⟨(f.A7 _ _ a).2.2,dN.map j a⟩
  ·cases a
 ·exact⟨(f.A7 _ _ a).2.2,dN.map e a⟩
 ·split at a
  ·rename_i d j;obtain⟨o,c,k⟩:=f.aFt _ _ j;rw[a]at c;injection c with c
   subst c;refine⟨(f.A7 _ _ a).2.2,?_⟩;rw[k];exact⟨fun p y=>by simp at y, .inl ⟨e,rfl⟩⟩
  ·cases a
 ·cases a
theorem aeM {t:TypeId}{x I:Operand}{E:Bool}(hS:jE S)(ho:o.op= .lookup t x I E)(M:∀t ty,T t=some ty->gW P t ty)(h:Hp S w0 N blk g al w)(hx:(aN slot x).Rel S (bi N blk g) w g (a.eval x))
  (hi:(aN slot I).Rel S (bi N blk g) w g (a.eval I)) (b:UN T S blk t (aN slot x) (aN slot I) E=some out) (hK:Post S w0 N blk g al w fr out o.dst a K):o.wp P a w K Q:=by
 unfold UN at b;split at b
 ·cases b
 rename_i ty hty;split at b
 ·cases b
 rename_i R vt hmp;split at b
 ·rename_i tk tv htk htv;split at b
  ·rename_i m k hmo hk;split at b
   ·rename_i hc;simp only[kW,Qb6]at hc;obtain⟨⟨c0,c1⟩,c2,U,c4⟩:=hc;have zk:=aav (M _ _ hty) hmp (Qa c0);obtain⟨d,hd,aa⟩:=oJ (M _ _ htk);have H:=aeI (t:=R) (ty:=tk) aa c1;obtain⟨ac,hkf⟩:=afk hk hi;obtain⟨L,hfits,hmap⟩:=aGe hS h hmo hx;have c2':=Qa c2;have ad:∀p∈m.kvs,MapKept.IsKey d p.1.val:=fun p i=>aeI (t:=R) (ty:=tk) aa (by rw[L.keys p i];exact c2)
    have X:k.kind=m.kind:=by simp_all
    have C:=L.has k X;have j:=L.get k X;obtain⟨z,hz,hzc,F⟩:=akq (M _ _ htv) w;obtain⟨G,z2⟩:=abM c4;have hzv:∀p,m.get k=m.zero.map Pv.lf->(m.agg=true\/m.zero=[p])->z=ui m.agg m.zero:=by
     intro p _ i;rw[<-hzc]at G;cases s:m.agg with
     | true=>
      rw[s]at U;rw[<-U]at F;cases z<;>first | (simp[AP]at F;done) | skip
      rename_i cs;simp only[Value.cells]at G;show Value.agg cs=Value.agg (m.zero.map Pv.val).toArray
      rw[<-G]
     | false=>
      rw[s]at U i;rw[<-U]at F;have i:=i.resolve_left qb;rw[i]at G⊢;cases z<;>first | (simp[AP]at F;done) | (simp[Value.cells]at G;exact G)
    have run:∀(f:List Pv),(Am k m.kvs).getD m.zero=f->(m.agg=true\/∃p,f=[p])->(Instr.lookup t (a.eval x) (a.eval I) E).run P w= .ok (if E then .tuple #[ui m.agg f, .bool (m.has k)]else ui m.agg f) w/\∀p∈f,p.fits:=by
     intro f c i;have O:∀(u:Array MapEntry),u.toList.map (fun e=>(e.key,e.val))=m.kvs.map (fun p=>(p.1.val,ui m.agg p.2))->((do
       Instr.checkKey u.isEmpty 10000 R k.val
       let (v,ok')<-match<-Instr.findKey R k.val u.toList with
        | some (_,v)=>pure (v,true)
        | none=>pure (<-zeroValue vt,false)
       pure (if E then .tuple #[v, .bool ok']else v)):Sem Value).run P w= .ok (if E then .tuple #[ui m.agg f, .bool (m.has k)]else ui m.agg f) w:=by
      intro u he;have hf:(Instr.findKey R k.val u.toList).run P w= .ok ((DX k m.kvs).map fun q=>(0+q.1,ui m.agg q.2)) w:=MapKept.run_findKey hd (U9 H u.toList m.kvs 0 he ad);have hck:=MapKept.run_checkKey (P:=P) (w:=w) hd H u.isEmpty 9999;rw[O5]at C c j;cases W:DX k m.kvs with
      | some q=>
       simp_all
      | none=>
       rw[W]at hf C c j;simp only[Qcc,Option.getD_none,Option.isSome_none]at c C j;have hzz:z=ui m.agg m.zero:=by
        rcases i with i | ⟨p,i⟩
        ·exact hzv (.bool false) j (.inl i)
        grind
       simp_all
     refine⟨?_,?_⟩
     ·rcases hmap with⟨hv,hnil⟩ | ⟨r,u,n,hv,hh,he⟩
      ·have V:=O #[] (by rw[hnil];rfl);rw[<-V,hv,ac];simp[Instr.lookup,run_underlying zk];rfl
      ·have V:=O u he;rw[<-V,hv,ac];simp[Instr.lookup,run_underlying zk,MapKept.run_getObj_map hh];rfl
     ·rw[O5]at c;cases W:DX k m.kvs with
      | some q=>
       rw[W]at c;obtain⟨p,h1,V⟩:=aij W
       grind
      | none=>
       grind
    have Y:∀(y:Sv D) (f:List Pv),(Am k m.kvs).getD m.zero=f->(m.agg=true\/∃p,f=[p])->((∀p∈f,p.fits)->y.Rel S (bi N blk g) w g (ui m.agg f))->
      (if E then some (⟨none, .x8 [y, .lf (.bool (m.has k))],[]⟩:Out D)else some ⟨none, .one y,[]⟩)=some out->o.wp P a w K Q:=by
     intro y f c i hy l;obtain⟨A,B⟩:=run f c i;have ab:=hy B;split at l
     ·rename_i J;injection l with l
      subst l;rw[yY J]at A;refine bz (v:= .tuple #[ui m.agg f, .bool (m.has k)]) ?_ h hK rfl ⟨[_,_],rfl,ab,rfl,trivial⟩;simp[execOp,ho,A]
     ·rename_i J;injection l with l
      subst l;rw[yc J]at A;refine bz (v:=ui m.agg f) ?_ h hK rfl ab;simp[execOp,ho,A]
    split at b
    ·rename_i s;refine Y (.agg (m.get k)) _ rfl (.inl s) (fun B=> ?_) b;rw[s,j];exact⟨_,rfl,Pv.ao3 B⟩
    ·rename_i y s Z;rw[j]at Z;have c:∃p,(Am k m.kvs).getD m.zero=[p]:=by
      cases hl:(Am k m.kvs).getD m.zero with
      | nil=>grind
      | cons p r=>
       simp_all
     obtain⟨p,c⟩:=c;rw[c]at Z;have hye:y=Pv.lf p:=by grind
     subst hye;refine Y (.lf (Pv.lf p)) [p] c (.inr ⟨p,rfl⟩) (fun B=> ?_) b;rw[s];exact Pv.Y9 (B p qb)
    ·cases b
   ·cases b
  ·cases b
 ·cases b
theorem NM {t:TypeId}{x E y:Operand}(hS:jE S)(J:o.op= .mapUpdate t x E y\/o.op= .insert t x E y)(R:∀t ty,T t=some ty->gW P t ty)(h:Hp S w0 N blk g al w)(G:(aN slot x).Rel S (bi N blk g) w g (a.eval x))
  (hi:(aN slot E).Rel S (bi N blk g) w g (a.eval E)) (hy:(aN slot y).Rel S (bi N blk g) w g (a.eval y)) (b:H5 T S blk t (aN slot x) (aN slot E) (aN slot y)=some out) (hK:Post S w0 N blk g al w fr out o.dst a K):o.wp P a w K Q:=by
 unfold H5 at b;split at b
 ·cases b
 rename_i ty hty;split at b
 ·cases b
 rename_i kt vt hmp;split at b
 rotate_left
 ·cases b
 rename_i tk htk;split at b
 rotate_left
 ·cases b
 rename_i l k hex hk;rw[hex]at G;have G:g l=some (a.eval x):=G;split at b
 rotate_left
 ·cases b
 rename_i d0 hb;split at b
 rotate_left
 ·cases b
 rename_i m X;split at b
 rotate_left
 ·cases b
 rename_i u hu;split at b
 rotate_left
 ·cases b
 rename_i hc;injection b with b
 subst b;simp only[kW]at hc;obtain⟨⟨c0,c1⟩,c2,c3⟩:=hc;have zk:=aav (R _ _ hty) hmp (Qa c0);obtain⟨d,hd,V⟩:=oJ (R _ _ htk);have B:=aeI (t:=kt) (ty:=tk) V c1;have O:=(hS.A7 _ _ X).2.2;have Y:∀p∈m.kvs,MapKept.IsKey d p.1.val:=fun p hp=>aeI (t:=kt) (ty:=tk) V (by rw[O.keys p hp];exact c2)
 have D:k.kind=m.kind:=by simp_all
 obtain⟨m',hm',aMH,aN2⟩:=O.put k u D (XX c3);obtain⟨aD8,hkf⟩:=afk hk hi;obtain⟨huv,huf⟩:=arz hu hy;obtain⟨v',f,m2,r,c,n,C,hf,rfl,Jb,F,I⟩:=h.dW l _ hb;rw[X]at C;injection C with C
 subst C;rw[G]at f;injection f with f
 have z:=MapKept.run_findKey (P:=P) (w:=w) hd (U9 B c.toList m.kvs 0 I Y);have W:=MapKept.run_checkKey (P:=P) (w:=w) hd B false 9999;have L:∀(s:Array MapEntry) (H:Nat),(Instr.mapUpdate t (.map (some r)) k.val (ui m.agg u)).run P w= .ok () {w with heap:=w.heap.setIfInBounds r (.map s H)}->s.toList.map (fun e=>(e.key,e.val))=(XH k u m.kvs).map (fun p=>(p.1.val,ui m.agg p.2))->(∀p∈XH k u m.kvs,p.1.fits/\∀x∈p.2,x.fits)->o.wp P a w K Q:=by
  intro s H Z he' hf';obtain⟨q1,q2⟩:=MapKept.heap_set (o':=Obj.map s H) F;obtain⟨M,hk'⟩:=h.write (w':={w with heap:=w.heap.setIfInBounds r (.map s H)}) (bk':= .map (m.put k u)) hb rfl rfl G (by rw[f];rfl) rfl rfl rfl qb (fun m hm=>q2 m hm)
   (fun _=>⟨m',r,s,H,hm',by rw[aMH];exact hf',f,Jb,q1,by grind⟩)
  refine MW ?_ (hK _ _ _ (More.refl _) hk' (M.weaken fun _ h=> .inl h) trivial);rcases J with J | J<;>simp[execOp,J,f,aD8,huv,Z]
 cases A:DX k m.kvs with
 | none=>
  rw[A]at z;refine L (c.push {key:=k.val,val:=ui m.agg u,born:=n}) (n+1) ?_ ?_ ?_
  ·simp only[Qcc]at z;simp[Instr.mapUpdate,run_underlying zk,MapKept.run_getObj_map F,W,z,MapKept.run_setObj_map _ F]
  ·rw[Oz A];simp[I]
  ·rw[Oz A];intro p hp
   grind
 | some q=>
  rw[A]at z;obtain⟨p,hp1,hp2,U⟩:=abX (v:=u) (j:=q.1) (u:=q.2) A;have hlen:c.toList.length=m.kvs.length:=by have:=XQ List.length I;grind
  have hql:q.1 < c.size:=by
   grind
  have hej:c[q.1]? =some c[q.1]:=Array.getElem?_eq_getElem hql;have D:c[q.1].key=k.val:=by
   have h1:(c.toList.map (fun e=>(e.key,e.val)))[q.1]? =(m.kvs.map fun p=>(p.1.val,ui m.agg p.2))[q.1]? :=by rw[I]
   grind
  refine L (c.modify q.1 fun e=>{e with key:=k.val,val:=ui m.agg u}) n ?_ ?_ ?_
  ·simp only[YJ,Dw]at z;simp[Instr.mapUpdate,run_underlying zk,MapKept.run_getObj_map F,W,z,hej,D,MapKept.run_keyThatStays B,MapKept.run_setObj_map _ F]
  ·rw[U];refine List.ext_getElem? fun i=> ?_;have h1:(c.toList.map (fun e=>(e.key,e.val)))[i]? =(m.kvs.map fun p=>(p.1.val,ui m.agg p.2))[i]? :=by rw[I]
   grind
  ·rw[U];intro p' M
   grind
theorem ai3 (a:List Int):∀(b:ByteArray),a.foldl (fun r n=>r.push (UInt8.ofNat n.toNat)) b=⟨(b.data.toList++a.map fun n=>UInt8.ofNat n.toNat).toArray⟩:=by
 induction a with
 | nil=>intro b;simp
 | cons n a c=>
  simp_all
theorem acw {f:Nat->Bool}:∀{n:Nat},JQ f n=true->∀i,i < n->f i=true
 | 0,_,i,a=>by omega
 | n+1,h,i,a=>by
  simp only[JQ,kW]at h;by_cases e:i=n
  ·grind
  ·exact acw h.2 i au
theorem afA {d:D}{n:Nat}(h:Nj S d n=true)(i:Nat)(a:i < n):∃k,S.cell d i 0= .int .u8 k:=by
 have:=acw h i a;unfold aJ7 at this
 grind
theorem ap_ {d:D}{n:Nat}(h:aen S d n=true)(i:Nat)(a:i < n):∃k,S.cell d i 0= .int .u8 k/\0<=k/\k < 256:=by
 have:=acw h i a;unfold awQ at this
 grind
theorem abS {f g:Nat->Bool}(h:∀i,f i=true->g i=true):∀{n:Nat},JQ f n=true->JQ g n=true
 | 0,_=>rfl
 | n+1,a=>by
  simp only[JQ,kW]at a⊢;exact⟨h n a.1,abS h a.2⟩
theorem ako {d:D}{n:Nat}(h:aen S d n=true):Nj S d n=true:=
 abS (fun i a=>by
  unfold awQ at a;split at a
  ·rename_i k b;rw[b];rfl
  ·cases a) h
theorem Vd {d:D}{a:List Value}{M:Nat->Prop}{g:Nat->Option Value}(h:S.size d=1)(o:Nj S d (S.len d)=true)(p:a.length=S.len d*S.size d)
  (q:∀i j,i < S.len d->j < S.size d->∃u,a[i*S.size d+j]? =some u/\(S.cell d i j).Rel S M w g u):∃l:List Int,a=l.map (Value.int .u8)/\l.map (fun n=>UInt8.ofNat n.toNat)=bytesOf S d:=by
 rw[h,Qdz]at p;have f:∀i,i < S.len d->∃k,S.cell d i 0= .int .u8 k/\a[i]? =some (.int .u8 k):=fun i b=>by
  obtain⟨k,c⟩:=afA o i b;obtain⟨u,m,e⟩:=q i 0 b au;rw[c]at e;rw[h,Qdz,UX]at m;have e:u= .int .u8 k:=e
  grind
 refine⟨(List.range (S.len d)).map fun i=>match S.cell d i 0 with
  | .int .u8 n=>n
  | _=>0,?_,?_⟩
 ·refine List.ext_getElem? fun i=> ?_
  grind
 ·unfold bytesOf;rw[Qc3];refine Qbb fun i b=> ?_;obtain⟨k,c,_⟩:=f i (Qca.1 b);simp[c,aL9]
theorem akL {t j:TypeId}{x:Operand}(hS:jE S)(ho:o.op= .convert t j x)(y:∀t Y,T t=some Y->gW P t Y)(h:Hp S w0 N blk g al w)(f:(aN slot x).Rel S (bi N blk g) w g (a.eval x))
  (b:aaf T S blk t j (aN slot x)=some out) (J:nJ out.pre) (U:Post S w0 N blk g al w fr out o.dst a K):o.wp P a w K Q:=by
 unfold aaf at b;split at b
 ·rename_i ts td hts V;split at b
  ·cases b
  rename_i e W;split at b
  ·cases b
  rename_i te hte;have C:=lY (y _ _ hts) W;split at b
  ·rename_i B;simp only[kW]at B;obtain⟨I,H,c3⟩:=B;have I:=Qa I;have H:=Qa H;obtain⟨dd,m,p⟩:=oJ (y _ _ V);obtain⟨de,n,q⟩:=oJ (y _ _ hte);have m:P.underlying j=some .string:=by
    rw[I]at p;cases dd<;>simp[kindOf]at p<;>first | exact m | (rename_i k;cases k<;>simp[uH]at p)
   have n:P.underlying e=some (.int .u8):=by
    rw[H]at q;cases de<;>simp[kindOf]at q<;>(rename_i k;cases k<;>simp[uH]at q;exact n)
   split at b
   ·rename_i i;rw[i]at f;have f:a.eval x= .slice none 0 0:=f;injection b with b
    subst b;refine bz (v:= .string ⟨#[]⟩) ?_ h U rfl ⟨rfl,by simp⟩;simp only[execOp,ho,f,Sem.run_bind,run_convert_bytes_string w t j e none 0 0 C n m];rfl
   ·split at b
    ·rename_i d c;split at b
     ·rename_i B;have R:=Qa B;injection b with b
      subst b;obtain⟨F,s,G,hv,X,hmem,A,hone,z⟩:=Jk hS h f c au;obtain⟨Z,M,hn2⟩:=Vd R J X z;have hlen:(bytesOf S d).length=S.len d:=by simp[bytesOf]
      have hle:S.len d<=9223372036854775807:=by
       unfold Nr at c;split at c
       ·rename_i d' i;injection c with c
        subst c;rw[i]at f;exact dN.alY f
       ·rename_i l i;rw[i]at f;have f:g l=some (a.eval x):=f;split at c
        ·rename_i e' d' r;injection c with c
         subst c;obtain⟨_,_,D,_⟩:=h.dW l _ r;exact D.2.1
        ·rename_i d' r;injection c with c
         subst c;obtain⟨_,_,D⟩:=h.dW l _ r;exact dN.alY D
        ·cases c
       ·cases c
      refine bz (v:= .string ⟨(bytesOf S d).toArray⟩) ?_ h U rfl ⟨rfl,by omega⟩;have O:=run_convert_bytes_string w t j e F (S.len d) s C n m;have r:(Conv.bytesToString (.slice F (S.len d) s)).run P w= .ok (.string ⟨(bytesOf S d).toArray⟩) w:=by
       cases F with
       | none=>
        have h0:=A rfl;have:bytesOf S d=[]:=Qc1 au;rw[this];rfl
       | some E=>
        have L:(loadCells E (S.len d)).run P w= .ok (Z.map (Value.int .u8)).toArray w:=by
         have:=run_loadCells (P:=P) (w:=w) E G 0 #[] (fun k u hk=>by grind);rw[X,R,Qdz]at this;simpa[loadCells,M]using this
        rw[run_bytesToString w E (S.len d) s Z L,ai3,hn2];simp
      simp only[execOp,ho,hv,Sem.run_bind,O,r,Result.andThen_ok,Sem.run_pure]
     ·cases b
    ·cases b
  ·cases b
 ·cases b
theorem ayw {x:Lf D}{p:Dl D}{v:Value}{M:Nat->Prop}{g:Nat->Option Value}(h:x.dl=some p)(a:x.Rel S M w g v):p.Rel S M w v:=by
 unfold Lf.dl at h;split at h<;>first | (injection h with h;subst h;exact a) | cases h
theorem an3 {M:Nat->Prop}{g:Nat->Option Value}:∀{b:List (Lf D)} {a:List (Dl D)} {c:List Value},dls b=some a->bu S M w g b c->vW S M w a c
 | [],a,[],h,_=>by simp[dls]at h;subst h;trivial
 | x::b,a,v::c,h,d=>by
  unfold dls at h;split at h
  ·rename_i p i e f;injection h with h
   subst h;exact⟨ayw e d.1,an3 f d.2⟩
  ·cases h
theorem aar {M:Nat->Prop}{g:Nat->Option Value}{x:Sl D}{f:Bool}{e:List (Dl D)}{v:Value}(h:aoL x=some (f,e))(a:x.Rel S M w g v):Qm S M w f e v:=by
 unfold aoL at h;split at h
 ·split at h
  ·rename_i p d;injection h with h
   injection h with b c
   subst b c;exact ayw d a
  ·cases h
 ·split at h
  ·rename_i k d;injection h with h
   injection h with b c
   subst b c;obtain⟨i,j,a⟩:=a;exact⟨i,j,an3 d a⟩
  ·cases h
 ·cases h
theorem Dl.Y9 {M:Nat->Prop}{g:Nat->Option Value}{p:Dl D}{v:Value}(h:p.Rel S M w v):p.lf.Rel S M w g v:=by
 cases p<;>exact h
theorem aw9 {M:Nat->Prop}{g:Nat->Option Value}:∀{a:List (Dl D)} {b:List Value},vW S M w a b->bu S M w g (a.map Dl.lf) b
 | [],[],_=>trivial
 | p::a,v::b,h=>⟨Dl.Y9 h.1,aw9 h.2⟩
theorem agf {M:Nat->Prop}{g:Nat->Option Value}{c:Bool}{b:List (Dl D)}{x:Sl D}{v:Value}(h:apR c b=some x)(a:Qm S M w c b v):x.Rel S M w g v:=by
 unfold apR at h;split at h
 ·injection h with h
  subst h;exact Dl.Y9 a
 ·injection h with h
  subst h;obtain⟨d,e,a⟩:=a;exact⟨d,e,aw9 a⟩
 ·cases h
theorem aqa {t:TypeId}{x:Operand}(m:o.op= .makeInterface t x)(j:∀t c,T t=some c->gW P t c)(h:Hp S w0 N blk g al w)(l:(aN slot x).Rel S (bi N blk g) w g (a.eval x))
  (b:aGB T t (aN slot x)=some out) (k:Post S w0 N blk g al w fr out o.dst a K):o.wp P a w K Q:=by
 unfold aGB at b;split at b
 ·cases b
 ·rename_i c i;split at b
  ·cases b
  ·rename_i d;have d:c.kind≠0:=fun e=>d qcx
   have f:=run_makeInterface (P:=P) w t (a.eval x) (zH (j _ _ i) d);split at b
   ·rename_i q p n;injection b with b
    subst b;refine bz (v:= .iface t (a.eval x)) ?_ h k rfl ⟨_,rfl,aar n l⟩;simp[execOp,m,f]
   ·cases b
theorem WF {P:Program}{t:TypeId}{e:Ty}{z:Sv D}{M:Nat->Prop}{g:Nat->Option Value}(h:gW P t e)(a:acN e=some z)(w:World):∃u,(zeroValue t).run P w= .ok u w/\z.Rel S M w g u:=by
 obtain⟨u,i,f,d⟩:=akq h w;refine⟨u,i,?_⟩;unfold acN at a;split at a
 ·split at a
  ·rename_i b;injection a with a
   subst a;rw[b]at d;cases u<;>simp[AP]at d
   rename_i cs;refine⟨cs.toList,by simp,?_⟩;have:cs.toList=e.zero:=by rw[<-f];rfl
   rw[this];exact uk _
  ·cases a
 ·split at a
  ·rename_i j c;split at a
   ·cases a
   ·rename_i b;injection a with a
    subst a;have b:e.zag=false:=by simpa using b
    rw[b]at d;rw[<-f]at c;have:u=j:=by cases u<;>first | (simp[Value.cells]at c;exact c) | (simp[AP]at d)
    subst this;exact BK _
  ·cases a
theorem Zz {t O:TypeId}{x:Operand}{H:Bool}(C:o.op= .typeAssert x O t H)(k:∀t A,T t=some A->gW P t A)(h:Hp S w0 N blk g al w)(B:(aN slot x).Rel S (bi N blk g) w g (a.eval x))
  (b:VD T t (aN slot x) H=some out) (s:Post S w0 N blk g al w fr out o.dst a K):o.wp P a w K Q:=by
 unfold VD at b;split at b
 ·cases b
 rename_i A q;split at b
 ·cases b
 rename_i E;have E:A.kind≠0:=fun e=>E qcx
 have i:=zH (k _ _ q) E;unfold Program.concrete at i;split at b
 ·rename_i I J L j;rw[j]at B;obtain⟨u,l,G⟩:∃u,a.eval x= .iface I u/\Qm S (bi N blk g) w J L u:=B;split at b
  ·rename_i y R;have D:y.Rel S (bi N blk g) w g u:=agf (x:= .one y) R G;cases f:P.underlying t with
   | none=>grind
   | some d=>
    rw[f]at i;split at b
    ·split at b
     ·rename_i c;have c:=Qa c;subst c;injection b with b
      subst b;refine bz (v:= .tuple #[u, .bool true]) ?_ h s rfl ⟨[u, .bool true],rfl,D,rfl,trivial⟩;cases d<;>first | (cases i;done) | simp[execOp,C,Instr.typeAssert,run_underlying f,l]
     ·rename_i m;have m:¬I=t:=fun e=>m (by rw[e];simp)
      split at b
      ·rename_i z F;injection b with b
       subst b;obtain⟨r,n,p⟩:=WF (S:=S) (M:=bi N blk g) (g:=g) (k _ _ q) F w;refine bz (v:= .tuple #[r, .bool false]) ?_ h s rfl ⟨[r, .bool false],rfl,p,rfl,trivial⟩;cases d<;>first | (cases i;done) | simp[execOp,C,Instr.typeAssert,run_underlying f,l,m,n]
      ·cases b
    ·split at b
     ·rename_i c;have c:=Qa c;subst c;injection b with b
      subst b;refine bz (v:=u) ?_ h s rfl D;cases d<;>first | (cases i;done) | simp[execOp,C,Instr.typeAssert,run_underlying f,l]
     ·cases b
  ·cases b
 ·rename_i v j;split at b
  ·split at b
   ·rw[j]at B;have l:a.eval x= .nilIface:=B.1;split at b
    ·split at b
     ·rename_i z F;injection b with b
      subst b;obtain⟨r,n,p⟩:=WF (S:=S) (M:=bi N blk g) (g:=g) (k _ _ q) F w;cases f:P.underlying t with
      | none=>grind
      | some d=>
       rw[f]at i;refine bz (v:= .tuple #[r, .bool false]) ?_ h s rfl ⟨[r, .bool false],rfl,p,rfl,trivial⟩;cases d<;>first | (cases i;done) | simp[execOp,C,Instr.typeAssert,run_underlying f,l,n]
     ·cases b
    ·cases b
   ·cases b
  ·cases b
 ·cases b
theorem aqH {f:FuncId}{first caps:Array Operand}{x:Operand}(i:o.op= .makeFunc (.func f) first caps)(m:first.toList=[x])(p:caps.toList=[])(h:Hp S w0 N blk g al w)(d:(aN slot x).Rel S (bi N blk g) w g (a.eval x))
  (b:aHj f (aN slot x)=some out) (c:Post S w0 N blk g al w fr out o.dst a K):o.wp P a w K Q:=by
 unfold aHj at b;split at b
 ·rename_i n l k;injection b with b
  subst b;have e:first= #[x]:=by grind
  have j:caps= #[]:=by grind
  refine bz (v:= .func (.func f) #[a.eval x] #[]) ?_ h c rfl ⟨_,rfl,aar k d⟩;simp[execOp,i,Instr.makeFunc,e,j]
 ·cases b
theorem ai9 {op:BinOp}{t E:TypeId}{x y:Operand}(A:o.op= .binOp op t x y E)(r:∀t n,T t=some n->gW P t n)(h:Hp S w0 N blk g al w)(c:(aN slot x).Rel S (bi N blk g) w g (a.eval x))
  (i:(aN slot y).Rel S (bi N blk g) w g (a.eval y)) (b:aw0 T S op t (aN slot x) (aN slot y)=some out) (s:Post S w0 N blk g al w fr out o.dst a K):o.wp P a w K Q:=by
 unfold aw0 at b;split at b
 ·cases b
 rename_i n z;split at b
 ·split at b
  ·rename_i e d C q B;split at b
   ·rename_i p;simp only[kW,Qcv]at p;have j:=lY (r _ _ z) C;rw[q]at c;rw[B]at i;have c:dN S (bi N blk g) w d (a.eval x):=c;have i:a.eval y= .slice none 0 0:=i;obtain⟨F,f,m,D⟩:=dN.slice c au;rw[m]at c;obtain⟨l,rfl⟩:=dN.Cm c p.1 p.2;have k:=fun w=>mP (P:=P) (w:=w) (op:=op) (t:=t) (x:=x) (y:=y) (u:= .slice (some l) (S.len d) f) (v:= .slice none 0 0) rfl qb
    split at b
    ·injection b with b;subst b
     refine bz (v:= .bool false) ?_ h s rfl rfl;simp[execOp,A,m,i,k,Lib.run_eql_slice_nil w t e (some l) (S.len d) f 0 0 j]
    ·injection b with b;subst b
     refine bz (v:= .bool true) ?_ h s rfl rfl;simp[execOp,A,m,i,k,run_neq_slice_nil_any w t e (some l) (S.len d) f 0 0 j]
    ·cases b
   ·cases b
  ·cases b
 ·cases b
theorem ao8 {c:Call}{x:Operand}(r:o.op= .call c)(s:c.callee= .builtin .cap)(u:c.args.toList=[x])(l:∀t i,T t=some i->gW P t i)(h:Hp S w0 N blk g al w)(f:(aN slot x).Rel S (bi N blk g) w g (a.eval x))
  (b:aHN T c.argTypes (aN slot x)=some out) (q:Post S w0 N blk g al w fr out o.dst a K):o.wp P a w K Q:=by
 have d:c.args= #[x]:=by grind
 unfold aHN at b;split at b
 ·rename_i t y j;have k:c.argTypes= #[t]:=by grind
  rw[j]at f;have f:a.eval x= .slice none 0 0:=f;split at b
  ·rename_i i p;split at b
   ·rename_i e n;have m:=lY (l _ _ p) n;injection b with b
    subst b;refine bz (v:= .int .i64 0) ?_ h q rfl rfl;simp[execOp,r,resolve,s,invoke,builtin,d,k,f,Builtin.cap_,run_underlying m,goInt]
   ·cases b
  ·cases b
 ·cases b
theorem Zx {c:Call}{x y:Operand}(R:jE S)(ho:o.op= .call c)(hc:c.callee= .builtin .append)(hx':c.args.toList=[x,y])(B:∀t V,T t=some V->gW P t V)(h:Hp S w0 N blk g al w)(hfr:∀n,fr<=n->n < fr+64->¬al n)
  (E:(aN slot x).Rel S (bi N blk g) w g (a.eval x)) (G:(aN slot y).Rel S (bi N blk g) w g (a.eval y)) (f:VC T S fr c.argTypes (aN slot x) (aN slot y)=some out) (hp:nJ out.pre) (hK:Post S w0 N blk g al w fr out o.dst a K):o.wp P a w K Q:=by
 have D:c.args= #[x,y]:=by grind
 unfold VC at f;split at f
 ·rename_i t M k n htt ac Ew;have hat:c.argTypes= #[t,M]:=by grind
  rw[ac]at E;rw[Ew]at G;have E:a.eval x= .slice none 0 0:=E;have G:a.eval y= .int k n:=G;split at f
  ·rename_i V ti ad ab;split at f
   ·rename_i Y e u hel;split at f
    ·rename_i C hte;have hsl:=lY (B _ _ ad) hel;obtain⟨i,z,hi,hz,q1,q2,q3⟩:=sJ (B _ _ hte);obtain⟨dd,U,hkd⟩:=oJ (B _ _ ab);have U:P.underlying M=some (.int Y):=by
      rw[<-hkd]at u;cases dd<;>simp[kindOf,apO]at u
      rw[U,aax u]
     split at f
     ·rename_i J;simp only[kW]at J;have e2:0 < C.size:=by simp_all
      have e3:=Qa J.2;have p:z.cells.size=C.size:=by grind
      split at f
      ·rename_i d I;injection f with f
       subst f;obtain⟨p1,p2,p3⟩:0 < n/\n*C.bytes<=281474976710656/\n<=1099511627776:=hp;obtain⟨r,z2,Z⟩:=R.zero _ _ _ _ I;have q:S.size d=C.size:=by grind
       obtain⟨m,rfl⟩:∃m:Nat,n=(m:Int):=⟨n.toNat,by omega⟩;have s:m*i.bytes<=281474976710656:=by
        grind
       have W:=Lib.run_append_nil_zeros (P:=P) w t M o.type e i z k Y hsl U hi hz m au au au s;have F:(execOp a.eval o).run P w= .ok (.value (.slice (some ⟨w.heap.size,0,none⟩) m (grownCap w m 0 e))) (w.drew.alloc (.cells (Builtin.zeroCells z.cells m++Builtin.zeroCells z.cells (grownCap w m 0 e - m)) e)):=by
        simp only[execOp,ho,resolve,hc,invoke,builtin,D,hat,Sem.run_bind,Sem.run_pure,Result.andThen_ok,Qb8,Kq,Qcj,E,G,W]
       have hge:=grownCap_ge w m 0 e;have hcm:grownCap w m 0 e<=maxLen:=grownCap_le_maxLen w m 0 e (by simp only[maxLen];omega);have hB:Below w.heap.size w (w.drew.alloc (.cells (Builtin.zeroCells z.cells m++Builtin.zeroCells z.cells (grownCap w m 0 e - m)) e)):=⟨rfl,rfl,rfl,by simp,fun k hk=>Go.heap_alloc_old w.drew _ hk⟩;simp only[xw]at r z2 Z;obtain⟨g1,g2,g3⟩:=h.add (l:=fr) (bk:= .row e d) (v:= .slice (some ⟨w.heap.size,0,none⟩) m (grownCap w m 0 e)) hB (hfr fr (nO _) au) (fun b s=>by simp[fJ]at s;omega)
        (fun M' hk _=>by
         refine⟨⟨fun b s=> .inl ?_,by rw[r];omega,R.afi _ _ _ _ I⟩,(Builtin.zeroCells z.cells m).toList,⟨?_, .inr ⟨w.heap.size,grownCap w m 0 e,_,by rw[r],ve _,heap_alloc_new w.drew _,by omega,hcm,?_,?_⟩⟩,fun i' j A H=> ?_⟩
         ·simp only[fJ,P7]at s;have:=h.below.size;omega
         ·rw[Qbf,size_zeroCells,p,r,q]
         ·simp only[Qc9,size_zeroCells,p,q,<-Qbl]
          grind
         ·rw[Qci,List.take_left' (by rw[Qbf,size_zeroCells,p,r,q])]
         ·rw[r]at A;obtain⟨x0,L,aa⟩:=Z i' j A H;have hlt:=tu A H;have hjz:j < z.cells.size:=by omega
          have X:C.zero[j]? =some z.cells[j]:=by grind
          refine⟨z.cells[j],?_,R.data _ _ _ au H,aa.rel ?_⟩
          ·have O:(i'*S.size d+j) % z.cells.size=j:=by rw[p,<-q,Qcl,Qd1,Qcm H]
           rw[Pz rf,O];simp[hjz]
          ·simp only[Qbq,X,YJ,P7]at L;rw[<-L];exact(BK _).norm)
       exact l9 F (hK _ _ _ g3 g2 (g1.weaken Yz) (upd_same _ _ _))
      ·cases f
     ·cases f
    ·cases f
   ·cases f
  ·cases f
 ·cases f
theorem Zv {c:Call}{x y:Operand}(ho:o.op= .call c)(hc:c.callee= .builtin .append)(hx':c.args.toList=[x,y])(A:∀t G,T t=some G->gW P t G)(h:Hp S w0 N blk g al w)
  (j:(aN slot x).Rel S (bi N blk g) w g (a.eval x)) (u:(aN slot y).Rel S (bi N blk g) w g (a.eval y)) (f:Bz T S blk c.argTypes (aN slot x) (aN slot y)=some out) (s:Post S w0 N blk g al w fr out o.dst a K):o.wp P a w K Q:=by
 have r:c.args= #[x,y]:=by grind
 unfold Bz at f;split at f
 ·rename_i t t' htt W;split at f
  ·rename_i C;have C:=Qa C;subst C;have J:c.argTypes= #[t,t]:=by grind
   rw[W]at u;have u:a.eval y= .slice none 0 0:=u;split at f
   ·cases f
   rename_i G U;split at f
   ·cases f
   rename_i e R;split at f
   ·cases f
   rename_i te V;have O:=lY (A _ _ U) R;obtain⟨i,z,hi,hz,q1,q2,q3⟩:=sJ (A _ _ V);have p:∀(b:Option Addr) (n q:Nat),a.eval x= .slice b n q->n<=q->(execOp a.eval o).run P w= .ok (.value (a.eval x)) w:=by
    intro b n q E H;have:(Builtin.append_ #[t,t] o.type #[.slice b n q, .slice none 0 0]).run P w= .ok (.slice b n q) w:=by
     cases b<;>simp[Builtin.append_,run_underlying O,sizeOf,typeInfo,hi,Builtin.lenOf,Builtin.firstCells,H,storeCells]
    simp only[execOp,ho,resolve,hc,invoke,builtin,r,J,Sem.run_bind,Sem.run_pure,Result.andThen_ok,Qb8,Kq,Qcj,E,u,this]
   split at f
   ·rename_i k;rw[k]at j;injection f with f
    subst f;exact bz (v:=a.eval x) (p none 0 0 j (nO _)) h s rfl j
   ·rename_i d k;rw[k]at j;split at f
    ·rename_i hzz;injection f with f
     subst f;obtain⟨Y,L,E,B⟩:=dN.slice j (by simp_all);exact bz (v:=a.eval x) (p Y _ L E B) h s rfl j
    ·cases f
   ·rename_i l k;rw[k]at j;split at f
    ·rename_i e' d Z;injection f with f
     subst f;have j:g l=some (a.eval x):=j;obtain⟨v,m,_,xs,⟨_,F⟩,_⟩:=h.dW l _ Z;rw[j]at m;injection m with m
     rcases F with⟨X,hn0⟩ | ⟨b,D,cur,I,_,_,M,_⟩
     ·exact bz (v:=a.eval x) (p none 0 0 (by rw[m,X]) (nO _)) h s rfl j
     ·exact bz (v:=a.eval x) (p _ _ D (by rw[m,I]) M) h s rfl j
    ·cases f
   ·cases f
  ·cases f
 ·cases f
theorem adn {t:TypeId}{x:Operand}{R Z:Option Operand}(r:jE S)(Y:o.op= .slice t x R Z none)(y:∀t F,T t=some F->gW P t F)(h:Hp S w0 N blk g al w)
  (B:∀x:Operand,(aN slot x).Rel S (bi N blk g) w g (a.eval x)) (b:U0 T S blk t (aN slot x) (R.map (aN slot)) (Z.map (aN slot))=some out) (M:nJ out.pre) (O:Post S w0 N blk g al w fr out o.dst a K):o.wp P a w K Q:=by
 have s:=B x;unfold U0 at b;split at b
 ·cases b
 rename_i F W;split at b
 ·split at b
  ·rename_i l e U V;split at b
   ·cases b
   rename_i te X;have z:=lY (y _ _ W) V;have A:=lG (y _ _ X) w;split at b
   ·rename_i q J;rw[J]at s;have s:g q=some (a.eval x):=s;split at b
    ·rename_i e' d E;split at b
     ·rename_i u;simp only[kW]at u;have G:=Qa u.1;split at b
      ·rename_i hh m;split at b
       ·rename_i d' i;injection b with b
        subst b;obtain⟨I,C,D⟩:=M;obtain⟨H,k2,_,_⟩:=Hp.Iq r [q] blk qb h;have aa:[q].filterMap (jM blk)=[(q,some (.xZ d))]:=by simp[jM,E,rwD]
        rw[aa]at H k2;obtain⟨v,f,c⟩:=H.dW q (.xZ d) (by simp[mM,upd_same]);rw[s]at f;injection f with f
        subst f;have c:dN S _ w d (a.eval x):=c;obtain⟨av,L,p,j⟩:=dN.slice' c (r.Jc _ _ _ _ i).1;rw[p]at c;have k:=Gt r c i au au;exact l9 (LQ Y z A p j B U m G I C D) (O _ w g (More.refl _) k2 (H.weaken fun n hn=> .inl hn) k)
       ·cases b
      ·cases b
     ·cases b
    ·rename_i d E;split at b
     ·rename_i u;simp only[kW]at u;have G:=Qa u.1;split at b
      ·rename_i hh m;split at b
       ·rename_i d' i;injection b with b
        subst b;obtain⟨I,C,D⟩:=M;obtain⟨v,f,c⟩:=h.dW q (.xZ d) E;rw[s]at f;injection f with f
        subst f;have c:dN S _ w d (a.eval x):=c;obtain⟨av,L,p,j⟩:=dN.slice' c (r.Jc _ _ _ _ i).1;rw[p]at c;have k:=Gt r c i au au;exact bz (v:=_) (LQ Y z A p j B U m G I C D) h O rfl k
       ·cases b
      ·cases b
     ·cases b
    ·cases b
   ·cases b
  ·cases b
 ·cases b
theorem afJ {t e:TypeId}{x q i:Operand}{h s n c:Nat}{f:Option Addr}{g d:IntKind}{b:Int}(A:o.op= .slice t x none (some q) (some i))(j:P.underlying t=some (.slice e))(p:(sizeOf e).run P w= .ok h w)(u:a.eval x= .slice f n c)(r:n<=c)
  (z:a.eval q= .int g b) (B:a.eval i= .int d b) (y:h=s) (C:0<=b) (D:b<=n):(execOp a.eval o).run P w= .ok (.value (sliced f 0 b.toNat b.toNat s)) w:=by
 have m:P.elem t=e:=by simp[Program.elem,j]
 have l:P.underlying t=some (.slice (P.elem t)):=by grind
 have k:(execOp a.eval o).run P w=((Instr.slice t (.slice f n c) none (some (.int g b)) (some (.int d b))).run P w).andThen fun v w=> .ok (.value v) w:=by
  simp[execOp,A,u,z,B,run_sliceAt_slice w t _ _ _ _ l]
 rw[k,run_slice_hm w t _ _ _ l g d b b C (MS _) au,m,p,<-y];rfl
theorem ado {t:TypeId}{x A:Operand}{J O:Option Operand}(j:jE S)(ho:o.op= .slice t x J O (some A))(D:∀t L,T t=some L->gW P t L)(h:Hp S w0 N blk g al w)
  (G:∀x:Operand,(aN slot x).Rel S (bi N blk g) w g (a.eval x)) (b:S9 T S blk t (aN slot x) (J.map (aN slot)) (O.map (aN slot)) (aN slot A)=some out) (X:nJ out.pre) (hK:Post S w0 N blk g al w fr out o.dst a K):o.wp P a w K Q:=by
 have f:=G x;unfold S9 at b;split at b
 ·rename_i V r km m C hhi hmx;have C:J=none:=by simp_all
  obtain⟨B,rfl,Y⟩:∃Z,O=some Z/\aN slot Z= .one (.lf (.int V r)):=by
   simp_all
  subst C;have e1:a.eval B= .int V r:=by have:=G B;rw[Y]at this;exact this
  have e2:a.eval A= .int km m:=by have:=G A;rw[hmx]at this;exact this
  split at b
  ·cases b
  rename_i L hty;split at b
  ·cases b
  rename_i e hel;split at b
  ·cases b
  rename_i te hte;have E:=lY (D _ _ hty) hel;have F:=lG (D _ _ hte) w;split at b
  ·rename_i d u;rw[u]at f;split at b
   ·rename_i z;simp only[kW]at z;have M:=Qa z.1;split at b
    ·rename_i d' c;injection b with b
     subst b;obtain⟨U,H,I⟩:=X;subst H;have f:dN S _ w d (a.eval x):=f;obtain⟨av,W,y,k⟩:=dN.slice' f (j.Jc _ _ _ _ c).1;rw[y]at f;have l:=(j.sub _ _ _ _ c (ve _) (show r.toNat<=S.len d by omega)).2.1;have s:=Gt j f c (ve _) (show r.toNat<=S.len d by omega);refine bz (v:=_) (afJ ho E F y k e1 e2 M U I) h hK rfl ?_;exact amM j f c au l
    ·cases b
   ·cases b
  ·rename_i q u;rw[u]at f;have f:g q=some (a.eval x):=f;split at b
   ·rename_i e' d hb;split at b
    ·rename_i z;simp only[kW]at z;have M:=Qa z.1;split at b
     ·rename_i d' c;injection b with b
      subst b;obtain⟨U,H,I⟩:=X;subst H;obtain⟨R,k2,_,_⟩:=Hp.Iq j [q] blk qb h;have hfm:[q].filterMap (jM blk)=[(q,some (.xZ d))]:=by simp[jM,hb,rwD]
      rw[hfm]at R k2;obtain⟨v,p,i⟩:=R.dW q (.xZ d) (by simp[mM,upd_same]);rw[f]at p;injection p with p
      subst p;have i:dN S _ w d (a.eval x):=i;obtain⟨av,W,y,k⟩:=dN.slice' i (j.Jc _ _ _ _ c).1;rw[y]at i;have l:=(j.sub _ _ _ _ c (ve _) (show r.toNat<=S.len d by omega)).2.1;obtain⟨a',e',s⟩:=amM j i c (show r.toNat<=S.len d by omega) l;refine l9 (afJ ho E F y k e1 e2 M U I) (hK _ w g (More.refl _) k2 (R.weaken fun n hn=> .inl hn) ?_);exact s
     ·cases b
    ·cases b
   ·cases b
  ·cases b
 ·cases b
theorem SL (t D e:TypeId)(i:TypeInfo)(z:Value)(a bytes:Nat)(F:P.underlying t=some (.slice e))(L:P.info? e=some i)(G:i.zero=some z)
  (o:i.size=a) (B:i.bytes=bytes) (A:z.cells.size=a) (J:0 < a)
  (y:Option Addr) (n:Nat) (f:List Value) (r:f.length=n*a) (x:∀h,y=some h->∀j u,f[j]? =some u->w.cell? (h.add j)=some u) (H:y=none->n=0)
  (h:Addr) (m c:Nat) (d:List Value) (C:d.length=m*a) (l:∀j u,d[j]? =some u->w.cell? (h.add j)=some u) (Q:∀u∈d,u.oneCell'=true) (U:0 < m)
  (v:n+m<=maxLen) (g:(n+m)*bytes<=140737488355328):
  ∃q s,(Builtin.append_ #[t,t] D #[.slice y n n, .slice (some h) m c]).run P w= .ok q s/\s.ownsRow 0 e a q (n+m) (f++d)/\w.grownBy s none/\q.ownBlock=some w.heap.size:=by
 cases y with
 | none=>
  obtain rfl:=H rfl;obtain rfl:f=[]:=Qc1 (by simpa using r);obtain⟨q,s,R,K,N,W,p⟩:=run_append_own_at (P:=P) w 0 t D e i z a bytes F L G o B A J (.slice none 0 0) 0 [] (World.ownsRow_nil w 0 e a) h m c d C l Q v g (ve _);refine⟨q,s,R,K,N,?_⟩;rcases p with p | p
  ·have V:q= .slice none 0 0:=by
    rcases K.2 with⟨e,_⟩ | ⟨b,X,T,e,_⟩
    ·exact e
    ·rw[e]at p;cases p
   grind
  ·exact p
 | some b=>
  subst o B
  have O:(f++d).length=(n+m)*i.size:=by grind
  have S:=run_append_grow (P:=P) w t D e i z F L G b n n f r (x b rfl) h m c d C l au (by simp only[maxLen]at v;omega) (growslice_fits au g);have E:=grownCap_ge w (n+m) n e;have I:grownCap w (n+m) n e<=maxLen:=grownCap_le_maxLen w (n+m) n e v;refine⟨_,_,S,⟨O, .inr ⟨w.heap.size,_,_,rfl,ve _,heap_alloc_new w.drew _,E,I,?_,?_⟩⟩,⟨rfl,rfl,rfl,by simp,fun k M _=>Go.heap_alloc_old w.drew _ M⟩,rfl⟩
  ·simp only[Qc9,List.size_toArray,size_zeroCells,A,r,C,<-Qbl]
   grind
  grind
theorem Zr {c:Call}{x y:Operand}(q:jE S)(ho:o.op= .call c)(hc:c.callee= .builtin .append)(hx':c.args.toList=[x,y])(M:∀t X,T t=some X->gW P t X)(h:Hp S w0 N blk g al w)(hfr:∀n,fr<=n->n < fr+64->¬al n)
  (hx:(aN slot x).Rel S (bi N blk g) w g (a.eval x)) (hy:(aN slot y).Rel S (bi N blk g) w g (a.eval y)) (f:BV T S blk fr c.argTypes (aN slot x) (aN slot y)=some out) (hp:nJ out.pre)
  (hK:Post S w0 N blk g al w fr out o.dst a K):o.wp P a w K Q:=by
 have G:c.args= #[x,y]:=by grind
 have L:∀m,More g (upd g fr (some m)):=fun m l v hl=>by
  rw[df _ _ _ _ qbl];exact hl
 unfold BV at f;split at f
 ·rename_i ex hex;rw[hex]at hx;split at f
  ·rename_i d1;split at f
   ·rename_i t t' htt;split at f
    ·rename_i V;have V:=Qa V;subst V;have hat:c.argTypes= #[t,t]:=by grind
     split at f
     ·cases f
     rename_i X hty;split at f
     ·cases f
     rename_i e hel;split at f
     ·cases f
     rename_i I hte;split at f
     ·cases f
     rename_i d2 Z;have hsl:=lY (M _ _ hty) hel;obtain⟨i,z,hi,hz,q1,q2,q3⟩:=sJ (M _ _ hte);split at f
     ·rename_i s;simp only[kW]at s;have e1:=Qa s.1;have e2:0 < I.size:=by simp_all
      have e3:=Qa s.2.2;split at f
      ·rename_i d IB;injection f with f
       subst f;obtain⟨p1,W⟩:=hp;obtain⟨c1,c2,c3,c4,c5⟩:=q.cat _ _ _ IB;have hzs:z.cells.size=I.size:=by grind
       obtain⟨av,cap,C,hv2,hl2,hc2,hn2,h12,B⟩:=Jk q h hy Z au;obtain⟨bv,O,hd1⟩:=hx;obtain⟨bv',cap',p,J,hlo,hco,hbn,_,A⟩:=Ll q hd1 (show 0 < S.size d1 by omega);rw[O]at J;injection J with f1 f2 f3
       subst f1;obtain⟨E,rfl⟩:∃E,av=some E:=by
        cases av with
        | none=>grind
        | some E=>grind
       obtain⟨m,w',r1,r2,r,r4⟩:=SL (P:=P) (w:=w) t o.type e i z I.size I.bytes hsl hi hz q1 q2 hzs e2 bv (S.len d1) p rf hco hbn E (S.len d2) cap C rf (hc2 E rfl) h12 p1 (by have:=W.1;simp only[maxLen];omega) W.2;have Y:(execOp a.eval o).run P w= .ok (.value m) w':=by
        simp only[execOp,ho,resolve,hc,invoke,builtin,G,hat,Sem.run_bind,Sem.run_pure,Result.andThen_ok,Qb8,Kq,Qcj,O,hv2,r1]
       have hB:Below w.heap.size w w':=⟨r.os,r.tape,r.output,r.size,fun k H=>r.block k H qb⟩;have Cj:∃a n c,m= .slice a n c:=by rcases r2.2 with⟨rfl,_⟩ | ⟨b,cp,cur,rfl,_⟩<;>exact⟨_,_,_,rfl⟩
       have F:∀b,fJ m=some b->w.heap.size<=b:=by
        intro b hb;rw[qH m Cj]at r4
        grind
       obtain⟨g1,g2,g3⟩:=h.add (l:=fr) (bk:= .row e d) (v:=m) hB (hfr fr (nO _) au) F (fun M' H _=>by
        refine⟨⟨fun b hb=> .inl (yI h.below.size (F b hb)),⟨by have:=W.1;omega,q.Y_ _ _ _ ‹_›⟩⟩,p++C,?_,fun D j hi' hj=> ?_⟩
        ·grind
        ·rw[c3]at hi';have hxl:p.length=S.len d1*S.size d:=by rw[hlo,c1]
         by_cases R:D < S.len d1
         ·obtain⟨u,hu,U⟩:=A D j R au;rw[c4 D j R];refine⟨u,?_,q.data _ _ _ au au,?_⟩
          ·grind
          ·exact(Lf.Rel.keep U H (L _))
         ·obtain⟨k,rfl⟩:∃k,D=S.len d1+k:=⟨D - S.len d1,by omega⟩;obtain⟨u,hu,U⟩:=B k j au au;rw[c5 k j au];refine⟨u,?_,q.data _ _ _ au au,U.keep H (L _)⟩;rw[Qbd rf,<-hu,hxl,Qbl,c2];congr 1;omega)
       exact l9 Y (hK _ _ _ g3 g2 (g1.weaken Yz) (upd_same _ _ _))
      ·cases f
     ·cases f
    ·cases f
   ·cases f
  ·cases f
 ·cases f
theorem afR {src m:TypeId}{x:Operand}(D:jE S)(ho:o.op= .convert src m x)(l:∀t J,T t=some J->gW P t J)(h:Hp S w0 N blk g al w)
  (q:(aN slot x).Rel S (bi N blk g) w g (a.eval x)) (b:akr T S src m (aN slot x)=some out) (hK:Post S w0 N blk g al w fr out o.dst a K):o.wp P a w K Q:=by
 unfold akr at b;split at b
 ·rename_i ts td M G;split at b
  ·cases b
  rename_i e I;split at b
  ·cases b
  rename_i te O;split at b
  ·rename_i p;simp only[kW]at p;split at b
   ·rename_i s B;rw[B]at q;obtain⟨q,aa⟩:=q;split at b
    ·cases b
    rename_i d2 A;split at b
    ·rename_i c;injection b with b
     subst b;have c:=Qa c;obtain⟨dd,C,d⟩:=oJ (l _ _ M);obtain⟨de,V,f⟩:=oJ (l _ _ O);have r:P.underlying src=some .string:=by
      rw[Qa p.1]at d;cases dd<;>simp[kindOf]at d<;>first | exact C | (rename_i k;cases k<;>simp[uH]at d)
     have H:P.underlying e=some (.int .u8):=by
      rw[Qa p.2.1]at f;cases de<;>simp[kindOf]at f<;>(rename_i k;cases k<;>simp[uH]at f;exact V)
     have F:=lY (l _ _ G) I;have v:(execOp a.eval o).run P w= .ok (.value (.slice (some ⟨w.heap.size,0,none⟩) s.length (grownCap w s.length 0 e))) (Lib.bytesWorld w e ⟨s.toArray⟩):=by
      have u:(⟨s.toArray⟩:ByteArray).size=s.length:=by rfl
      have:=Lib.run_convert_string_bytes (P:=P) w src m e ⟨s.toArray⟩ r F H;rw[u]at this;simp[execOp,ho,q,this]
     have hB:Below w.heap.size w (Lib.bytesWorld w e ⟨s.toArray⟩):=⟨rfl,rfl,rfl,by rw[Lib.bytesWorld_size];omega,fun k X=>Lib.bytesWorld_at_old w e _ k X⟩;obtain⟨W,Y⟩:=h.grow hB;obtain⟨m1,E,m3⟩:=D.text _ _ _ A;refine l9 v (hK _ _ g (More.refl _) Y (W.weaken fun n hn=> .inl hn) ?_);show dN S _ _ d2 _
     intro z hw;have u:(⟨s.toArray⟩:ByteArray).size=s.length:=by rfl
     have R:¬bi N blk g w.heap.size:=fun Z=>Nat.lt_irrefl _ (h.mlt Z)
     have y:=hw w.heap.size (by rw[Lib.bytesWorld_size];omega) R;rw[<-E];refine Cf.mk d2 (D.asb au) (some ⟨w.heap.size,0,none⟩) _ (fun i j=> .int .u8 (s.getD i 0).toNat) (by rw[E];exact grownCap_ge w s.length 0 e) au (fun i j U L=> ?_) (fun i j U L=> ?_) (fun i j d' U L he=> ?_)
     ·obtain rfl:j=0:=by omega
      refine⟨_,rfl,?_⟩;have p:=Lib.bytesWorld_cell w e ⟨s.toArray⟩ i (by rw[u];omega);rw[c,Qdz,UX,show((⟨w.heap.size,0,none⟩:Addr).add i)=⟨w.heap.size,i,none⟩ by simp[Addr.add];exact Eq.symm];rw[show z.cell? ⟨w.heap.size,i,none⟩=(Lib.bytesWorld w e ⟨s.toArray⟩).cell? ⟨w.heap.size,i,none⟩ by simp only[World.cell?,y]];rw[p]
     ·obtain rfl:j=0:=by omega
      rw[m3 i au];rfl
     grind
    ·cases b
   ·cases b
  ·cases b
 ·cases b
theorem ac3 {t:TypeId}(A:o.op= .alloc t)(f:∀t d,T t=some d->gW P t d)(h:Hp S w0 N blk g al w)(i:∀n,fr<=n->n < fr+64->¬al n)
  (c:aeH T fr t=some out) (s:Post S w0 N blk g al w fr out o.dst a K):o.wp P a w K Q:=by
 unfold aeH at c;split at c
 ·cases c
 rename_i d j;split at c
 ·rename_i k;injection c with c
  subst c;obtain⟨z,r,B⟩:=D6 (f _ _ j) w;have p:d.zero=[.pointer none, .slice none 0 0]:=by
   unfold aFf at k
   grind
  have e:(execOp a.eval o).run P w= .ok (.value (.pointer (some ⟨w.heap.size,0,none⟩))) (w.alloc (.cells z.cells t)):=by
   simp[execOp,A,Instr.alloc,r,newVar,newRow,newObj,Sem.run]
  obtain⟨y,u,x⟩:=h.add (l:=fr) (bk:= .tc t [.val (.slice none 0 0)]) (v:= .pointer (some ⟨w.heap.size,0,none⟩)) ((Below.refl w.heap.size w).alloc (nO _) (.cells z.cells t)) (i fr (nO _) au) (fun b q=>by simp[fJ]at q;omega)
   (fun M' C _=>⟨w.heap.size,[.slice none 0 0],rfl, .inl h.below.size,⟨.pointer none,by
    have m:z.cells= #[.pointer none, .slice none 0 0]:=by grind
    rw[m];simpa using heap_alloc_new w (.cells #[.pointer none, .slice none 0 0] t), .inl rfl⟩,rfl,trivial⟩)
  exact l9 e (s _ _ _ x u (y.weaken Yz) ⟨w.heap.size,upd_same _ _ _,rfl⟩)
 ·cases c
theorem aia {t:TypeId}{x:Operand}(D:o.op= .load t x)(p:∀t j,T t=some j->gW P t j)(h:Hp S w0 N blk g al w)(q:(aN slot x).Rel S (bi N blk g) w g (a.eval x))
  (c:aem T blk t (aN slot x)=some out) (A:Post S w0 N blk g al w fr out o.dst a K):o.wp P a w K Q:=by
 unfold aem at c;split at c
 ·cases c
 rename_i j r;have i:=yF (p _ _ r) w;split at c
 ·rename_i l e m;rw[m]at q;obtain⟨b,E,z⟩:=q;split at c
  ·rename_i J cs s;obtain⟨I,d,L,F,rfl,_,⟨u0,B,_⟩,G⟩:=h.dW l _ s;rw[E]at d;injection d with d
   injection d with d
   injection d with d
   injection d with d
   subst d;split at c
   ·cases c
   rename_i n;split at c
   ·cases c
   rename_i e;split at c
   ·rename_i y C;injection c with c
    subst c;obtain⟨u,k,f⟩:=G.get e C;refine bz (v:=u) ?_ h A rfl f;have H:(u0::F)[e+1]? =some u:=by simpa using k
    simp[execOp,D,Instr.loadAt,Instr.sureAddr,z,loadVar,i,n,load,Sem.run,cell_of B,k]
   ·cases c
  ·cases c
 ·cases c
theorem ae1 {t:TypeId}{x y:Operand}(ho:o.op= .store t x y)(v:∀t j,T t=some j->gW P t j)(h:Hp S w0 N blk g al w)(G:(aN slot x).Rel S (bi N blk g) w g (a.eval x))
  (E:(aN slot y).Rel S (bi N blk g) w g (a.eval y)) (c:TW T blk t (aN slot x) (aN slot y)=some out) (hK:Post S w0 N blk g al w fr out o.dst a K):o.wp P a w K Q:=by
 unfold TW at c;split at c
 ·rename_i j l e u H q O;have F:=lG (v _ _ H) w;rw[q]at G;rw[O]at E;obtain⟨b,J,Z⟩:=G;split at c
  ·rename_i C cs s;split at c
   ·cases c
   rename_i e;split at c
   ·rename_i z;injection c with c
    subst c;simp only[kW,Qa7,Qcv]at z;obtain⟨I,c2,c3,c4⟩:=z;have I:=Qa I;obtain⟨v',d,b',vs,rfl,W,⟨u0,hh,r⟩,L⟩:=h.dW l _ s;rw[J]at d;injection d with d
    injection d with d
    injection d with d
    injection d with d
    subst d;have f:(Sv.lf u:Sv D).cells.all Lf.storable=true:=by simp[Sv.cells,c4]
    have k:=t_ (u:= .lf u) h.refs (Dp f) E;have m:=k.length;have A:(Sv.lf u:Sv D).cells.length=1:=rfl;obtain⟨w',p,hb',Y,X,q1,V,q3⟩:=lN (P:=P) b C (a.eval y).cells.toList w (u0::vs) (e+1) 0 hh (by rw[yG,<-L.length,<-m,A];omega) (lD h.refs f k);have i:(execOp a.eval o).run P w= .ok .skip w':=by
     have n:(a.eval y).cells.size=j.size:=by grind
     simp[execOp,ho,Instr.storeAt,Instr.sureAddr,Z,storeVar,F,n,p]
    obtain⟨B,M⟩:=h.write (bk':= .tc C (putAt cs e [u])) s rfl rfl J rfl q1 V q3 X Y (fun U=>by
     have R:=(L.putAt k e).keep U (More.refl _);refine⟨b,_,rfl,W,⟨u0,?_,r⟩,by simpa[Sv.cells]using R⟩
     grind)
    exact MW i (hK _ _ _ (More.refl _) M (B.weaken fun _ h=> .inl h) trivial)
   ·cases c
  ·cases c
 ·cases c
theorem aAk {e:TypeId}{d:Ty}{i:TypeInfo}(h:gW P e d)(b:axz d=true)(j:P.info? e=some i):i.zero=some (.int .u8 0):=by
 obtain⟨n,m,f,l,a,k,c,rfl⟩:=nU h;rw[j]at a;injection a with a
 subst a;rw[c];unfold axz at b;dsimp only at b;split at b
 ·rename_i g;simp only[Qa7]at b;congr 1;cases f<;>first | exact(List.cons.inj g).1 | (simp[AP]at b)
 ·cases b
theorem axR {e:Nat}{s:List UInt8}{d2:D}(c:jE S)(h:S.text e s=some d2)(j:S.size d2=1):S.len d2=s.length/\∀i,i < s.length->∃u,(Lib.strCells ⟨s.toArray⟩)[i]? =some u/\(S.cell d2 i 0).kF=true/\∀(M:Nat->Prop) (w:World) (g:Nat->Option Value),(S.cell d2 i 0).Rel S M w g u:=by
 obtain⟨_,f,d⟩:=c.text _ _ _ h;refine⟨f,fun i b=> ?_⟩;have a:=d i b;refine⟨.int .u8 (s.getD i 0).toNat,?_,c.data _ _ _ au au,fun M w g=> ?_⟩
 ·simp[Lib.strCells,List.getD,b]
 ·rw[a];rfl
theorem Zm {c:Call}{x y:Operand}(hS:jE S)(ho:o.op= .call c)(hc:c.callee= .builtin .append)(hx':c.args.toList=[x,y])(O:∀t ty,T t=some ty->gW P t ty)(h:Hp S w0 N blk g al w)(hfr:∀n,fr<=n->n < fr+64->¬al n)
  (L:(aN slot x).Rel S (bi N blk g) w g (a.eval x)) (hy:(aN slot y).Rel S (bi N blk g) w g (a.eval y)) (f:Ce T S blk fr c.argTypes (aN slot x) (aN slot y)=some out) (hp:nJ out.pre)
  (hK:Post S w0 N blk g al w fr out o.dst a K):o.wp P a w K Q:=by
 have an:c.args= #[x,y]:=by grind
 have hmg:∀v',More g (upd g fr (some v')):=fun v' l v hl=>by
  rw[df _ _ _ _ qbl];exact hl
 unfold Ce at f;split at f
 ·rename_i t J s htt Ew;have hat:c.argTypes= #[t,J]:=by grind
  rw[Ew]at hy;obtain⟨hyv,hyl⟩:a.eval y= .string ⟨s.toArray⟩/\s.length<=9223372036854775807:=hy;split at f
  ·rename_i ty ty' hty hty';split at f
   ·cases f
   rename_i e hel;split at f
   ·cases f
   rename_i te hte;have I:=lY (O _ _ hty) hel;obtain⟨i,z,U,hz,q1,q2,q3⟩:=sJ (O _ _ hte);split at f
   ·rename_i hcc;simp only[kW]at hcc;obtain⟨c1,c2,c3,c4⟩:=hcc;have c2:=Qa c2;have c3:=Qa c3;have c4:=Qa c4;obtain⟨ds,C,aa⟩:=oJ (O _ _ hty');have C:P.underlying J=some .string:=by
     rw[c4]at aa;cases ds<;>simp[kindOf]at aa<;>first | exact C | (rename_i k;cases k<;>simp[uH]at aa)
    have M:i.zero=some (.int .u8 0):=aAk (O _ _ hte) c1 U;split at f
    ·cases f
    rename_i d2 hd2;split at f
    ·rename_i G;have G:=Qa G;obtain⟨ab,W⟩:=axR hS hd2 G;have hsz:(ByteArray.mk s.toArray).size=s.length:=by rfl
     have hnews:(Lib.strCells ⟨s.toArray⟩).length=s.length:=by rw[Lib.strCells_length,hsz]
     have run:∀(A:Value) (n:Nat) (B:List Value),a.eval x=A->w.ownsRow 0 e 1 A n B->bZ (n+s.length) 1->
       ∃v' w',(execOp a.eval o).run P w= .ok (.value v') w'/\w'.ownsRow 0 e 1 v' (n+s.length) (B++Lib.strCells ⟨s.toArray⟩)/\w.grownBy w' A.ownBlock/\(v'.ownBlock=A.ownBlock\/v'.ownBlock=some w.heap.size\/v'.ownBlock=none):=by
      intro A n B D p hroom;obtain⟨r1,Z⟩:=hroom;obtain⟨v',w',q,h2,h3,h4⟩:=Lib.run_append_own_string (P:=P) (w:=w) 0 t J o.type e i I C U M au au A n B p ⟨s.toArray⟩ (by rw[hsz];simp only[maxLen];omega) qcs (ve _);rw[hsz]at h2;refine⟨v',w',?_,h2,h3,?_⟩
      ·simp only[execOp,ho,resolve,hc,invoke,builtin,an,hat,Sem.run_bind,Sem.run_pure,Result.andThen_ok,Qb8,Kq,Qcj,D,hyv,q]
      ·rcases p.2 with⟨rfl,rfl⟩ | ⟨b,R,H,rfl,hbg,hg',hnc,hcm,hcs,htake⟩
       ·obtain⟨v2,w2,g1,g2,g3,g4⟩:=Lib.run_append_own_string (P:=P) (w:=w) w.heap.size t J o.type e i I C U M au au (.slice none 0 0) 0 [] (World.ownsRow_nil w w.heap.size e 1) ⟨s.toArray⟩ (by rw[hsz];simp only[maxLen];omega) qcs (nO _);by_cases hm:s.length=0
        ·grind
        ·have E:=run_append_nil_string (P:=P) w t J o.type e i (.int .u8 0) I C U M ⟨s.toArray⟩ qcs qcs rf;rw[E]at q;injection q with q _
         exact .inr (.inl (by rw[<-q];rfl))
       ·have hcs':H.size=R:=by simpa using hcs
        by_cases V:n+(ByteArray.mk s.toArray).size<=R
        ·have E:=Lib.run_append_room_string (P:=P) w t J o.type e i I C U au b n R H hg' ⟨s.toArray⟩ V au;rw[E]at q;injection q with q _
         exact .inl (by rw[<-q];rfl)
        ·have hxl:B.length=n:=by grind
         have am:∀j u,B[j]? =some u->w.cell? ((⟨b,0,none⟩:Addr).add j)=some u:=p.cells (g:=b) rfl;have E:=Lib.run_append_grow_string (P:=P) w t J o.type e i (.int .u8 0) I C U M ⟨b,0,none⟩ n R B rf am ⟨s.toArray⟩ au qcs (by rw[q2,c3];exact growslice_fits au qcs);rw[E]at q;injection q with q _
         exact .inr (.inl (by rw[<-q];rfl))
     split at f
     ·rename_i X;injection f with f
      subst f;rw[X]at L;obtain⟨v',w',r1,Z,r,m⟩:=run (.slice none 0 0) 0 [] L (World.ownsRow_nil w 0 e 1) (by rw[Dw];exact hp);have hB:Below w.heap.size w w':=⟨r.os,r.tape,r.output,r.size,fun k hk=>r.block k hk (by simp[Value.ownBlock])⟩;have Cj:∃a n c,v'= .slice a n c:=by rcases Z.2 with⟨rfl,_⟩ | ⟨b,cp,H,rfl,_⟩<;>exact⟨_,_,_,rfl⟩
      have ag:∀b,fJ v'=some b->w.heap.size<=b:=by
       intro b hb;rw[qH v' Cj]at m;rcases m with m | m | m
       ·rw[hb]at m;simp[Value.ownBlock]at m
       ·rw[hb]at m;injection m with m;omega
       ·rw[hb]at m;cases m
      obtain⟨g1,g2,g3⟩:=h.add (l:=fr) (bk:= .row e d2) (v:=v') hB (hfr fr (nO _) au) ag (fun M' hk _=>by
       refine⟨⟨fun b hb=> .inl (yI h.below.size (ag b hb)),⟨by omega,hS.asb au⟩⟩,Lib.strCells ⟨s.toArray⟩,?_,fun Y j hi' hj=> ?_⟩
       ·have:=Z;rw[Dw,Qch]at this;rw[G,ab];exact this
       ·rw[G]at hj⊢;obtain rfl:j=0:=by omega
        obtain⟨u,hu,ad,E⟩:=W Y au;exact⟨u,by simpa using hu,ad,E _ _ _⟩)
      exact l9 r1 (hK _ _ _ g3 g2 (g1.weaken Yz) (upd_same _ _ _))
     ·rename_i l X;rw[X]at L;have L:g l=some (a.eval x):=L;split at f
      ·rename_i e' d1 hb;split at f
       ·rename_i F;simp only[kW]at F;have hs1:=Qa F.2;have F:=Qa F.1;subst F;split at f
        ·rename_i d IB;injection f with f
         subst f;obtain⟨c1',c2',c3',c4',c5'⟩:=hS.cat _ _ _ IB;obtain⟨A,D,hm,B,p,hcell⟩:=h.dW l _ hb;rw[L]at D;injection D with D
         rw[hs1]at p;obtain⟨v',w',r1,Z,r,m⟩:=run A (S.len d1) B D p hp;have ac:∃a n c,A= .slice a n c:=by rcases p.2 with⟨rfl,_⟩ | ⟨b,cp,H,rfl,_⟩<;>exact⟨_,_,_,rfl⟩
         have Cj:∃a n c,v'= .slice a n c:=by rcases Z.2 with⟨rfl,_⟩ | ⟨b,cp,H,rfl,_⟩<;>exact⟨_,_,_,rfl⟩
         rw[qH v' Cj,qH A ac]at m;rw[qH A ac]at r;have hsd:S.size d=1:=by omega
         obtain⟨g1,g2,g3⟩:=h.move (l:=l) (fr:=fr) (bk':= .row e d) (v:=A) (v':=v') qck (D▸L) (hfr fr (nO _) au) r.os r.tape r.output r.size (fun n hn hne=>r.block n hn fun e=>hne e.symm)
          (fun b hb'=>by
           grind)
          (fun M' hk _=>by
           refine⟨⟨fun b hb'=> ?_,⟨by rw[c3',ab];have:bZ (S.len d1+s.length) 1:=hp;have:=this.1;omega,hS.asb au⟩⟩,B++Lib.strCells ⟨s.toArray⟩,?_,fun Y j hi' hj=> ?_⟩
           ·rcases m with m | m | m
            ·grind
            ·rw[hb']at m;injection m with m;exact .inl (m▸h.below.size)
            grind
           ·grind
           ·rw[hsd]at hj⊢;obtain rfl:j=0:=by omega
            rw[c3',ab]at hi';have hxl:B.length=S.len d1:=by simpa using p.1
            by_cases hlt:Y < S.len d1
            ·obtain⟨u,hu,ad,E⟩:=hcell Y 0 hlt au;rw[c4' Y 0 hlt];refine⟨u,?_,ad,E.keep hk (hmg _)⟩
             grind
            grind)
         exact l9 r1 (hK _ _ _ g3 g2 (g1.weaken Yz) (upd_same _ _ _))
        ·cases f
       ·cases f
      ·cases f
     ·cases f
    ·cases f
   ·cases f
  ·cases f
 ·cases f
theorem Hp.aNA (h:Hp S w0 N blk g al w){l b:Nat}{v:Value}(r:hot (blk l)=true)(t:g l=some v)(p:fJ v=some b)(B:w'.os=w.os)(A:w'.tape=w.tape)(s:w'.output=w.output)(D:w'.heap.size=w.heap.size)
  (f:∀n,n≠b->w'.heap[n]? =w.heap[n]?):Hp S w0 N (upd blk l none) g al w'/\Keeps (bi N blk g) w (bi N (upd blk l none) g) w':=by
 have Q:hot (upd blk l none l)=false:=by rw[upd_same];rfl
 have i:∀n,hot (upd blk l none n)=true->hot (blk n)=true:=fun n a=>by
  by_cases G:n=l
  ·grind
  ·rwa [df _ _ _ _ G]at a
 have z:bi N blk g b:= .inr ⟨l,v,r,t,p⟩;obtain⟨K,E⟩:=h.mine r t p;have m:Keeps (bi N blk g) w (bi N (upd blk l none) g) w':=by
  refine⟨by omega,fun c _ o=>⟨?_,f c fun e=>o (e▸z)⟩⟩;rintro(a | ⟨n,u,M,P,L⟩)
  ·exact o (.inl a)
  ·exact o (.inr ⟨n,u,i n M,P,L⟩)
 refine⟨⟨⟨B.trans h.below.os,A.trans h.below.tape,s.trans h.below.output,by rw[D];exact h.below.size,fun k C F=> ?_⟩,h.hN,fun n J a=> ?_,fun n c O H d a x=>h.sep n c O H d (i n a) (i c x),h.al,h.refs,h.gl.keep m⟩,m⟩
 ·refine(f k fun e=> ?_).trans (h.below.block k C F);subst e;rcases E with q | q
  ·omega
  ·exact F q
 ·by_cases j:n=l
  ·subst j;rw[upd_same]at a;cases a
  ·rw[df _ _ _ _ j]at a;obtain⟨u,y,I⟩:=h.dW n J a;refine⟨u,y,I.keep m (More.refl _) fun R c x=>f c fun e=> ?_⟩;subst e;exact j (h.sep n l u v c rf r y t x p)
theorem SQ {c:Call}{x:Operand}(u:o.op= .call c)(y:c.callee= .builtin .unsafeSliceData)(A:c.args.toList=[x])(h:Hp S w0 N blk g al w)(i:(aN slot x).Rel S (bi N blk g) w g (a.eval x))
  (f:DI S blk (aN slot x)=some out) (s:nJ out.pre) (t:Post S w0 N blk g al w fr out o.dst a K):o.wp P a w K Q:=by
 have k:c.args= #[x]:=by grind
 unfold DI at f;split at f
 ·rename_i l m;rw[m]at i;have i:g l=some (a.eval x):=i;split at f
  ·rename_i e d z;split at f
   ·injection f with f
    subst f;have s:0 < S.len d:=s;obtain⟨v,j,_,E,⟨_,q⟩,_⟩:=h.dW l _ z;rw[i]at j;injection j with j
    rcases q with⟨_,D⟩ | ⟨b,n,B,r,_,_,C,_⟩
    ·omega
    ·have p:a.eval x= .slice (some ⟨b,0,none⟩) (S.len d) n:=by rw[j,r]
     refine bz (v:= .pointer (some ⟨b,0*1+0,none⟩)) ?_ h t rfl ⟨b,S.len d,n,by rw[i,p],rfl⟩;simp only[execOp,u,resolve,y,invoke,builtin,k,Sem.run_bind,Sem.run_pure,Result.andThen_ok,Qb8,Kq,Qcj,p,Lib.run_unsafeSliceData_row _ _ _ _ _ _ (show n≠0 by omega)]
   ·cases f
  ·cases f
 ·rename_i m;rw[m]at i;have i:a.eval x= .slice none 0 0:=i;injection f with f
  subst f;refine bz (v:= .pointer none) ?_ h t rfl rfl;simp only[execOp,u,resolve,y,invoke,builtin,k,Sem.run_bind,Sem.run_pure,Result.andThen_ok,Qb8,Kq,Qcj,i,Lib.run_unsafeSliceData_nil]
 ·cases f
theorem NW (w:World)(b n m:Nat):(w.freeze ⟨b,0,none⟩ n).os=w.os/\(w.freeze ⟨b,0,none⟩ n).tape=w.tape/\(w.freeze ⟨b,0,none⟩ n).output=w.output/\(w.freeze ⟨b,0,none⟩ n).heap.size=w.heap.size/\(m≠b->(w.freeze ⟨b,0,none⟩ n).heap[m]? =w.heap[m]?):=by
 unfold World.freeze
 grind
theorem SN {c:Call}{x y:Operand}(ho:o.op= .call c)(hc:c.callee= .builtin .unsafeString)(hx':c.args.toList=[x,y])(W:∀t Z,T t=some Z->gW P t Z)(h:Hp S w0 N blk g al w)(q:(aN slot x).Rel S (bi N blk g) w g (a.eval x))
  (s:(aN slot y).Rel S (bi N blk g) w g (a.eval y)) (f:D7 T S blk c.argTypes (aN slot x) (aN slot y)=some out) (O:nJ out.pre) (hK:Post S w0 N blk g al w fr out o.dst a K):o.wp P a w K Q:=by
 have C:c.args= #[x,y]:=by grind
 unfold D7 at f;split at f
 ·rename_i l n E Ew;rw[E]at q;rw[Ew]at s;have s:a.eval y= .int .i64 n:=s;obtain⟨b,n',cap',hg,X⟩:=q;have X:a.eval x= .pointer (some ⟨b,0,none⟩):=by simpa using X
  split at f
  ·rename_i e d hb;split at f
   ·rename_i U;injection f with f
    subst f;simp only[kW]at U;obtain⟨A,I⟩:=U;have I:=Qa I;obtain⟨p1,p2,c2⟩:n=S.len d/\0 < n/\aen S d (S.len d)=true:=O;subst p1;have p2:0 < S.len d:=by omega
    unfold ptrTo at A;split at A
    ·rename_i J M hts;have F:c.argTypes= #[J,M]:=by grind
     split at A
     ·rename_i Z te hty hte;simp only[kW]at A;obtain⟨Y,k2,G⟩:=A;have Y:=Qa Y;have k2:=Qa k2;split at G
      ·rename_i e' e'' hmp;have G:=Qa G;subst G;have hpt:=apV (W _ _ hty) hmp Y;obtain⟨i,z,hi,hz,q1,q2,q3⟩:=sJ (W _ _ hte);have H:P.cellsOf e=1:=by simp[Program.cellsOf,hi,q1,k2]
       obtain⟨v,p,hm,xs,B,D⟩:=h.dW l _ hb;rw[hg]at p;injection p with p
       rcases B.2 with⟨_,hn0⟩ | ⟨b',cap,cur,V,_,hh,hnc,hcm,hcs,htake⟩
       ·omega
       ·rw[V]at p;injection p with r hv2 hv3
        injection r with r
        injection r with r
        subst r;have hl:xs.length=S.len d*S.size d:=B.1;obtain⟨ns,hn1,hn2⟩:=Vd I (ako c2) hl (fun i j hi hj=>by obtain⟨u,h1,_,h3⟩:=D i j hi hj;exact⟨u,h1,h3⟩);have hlen:(bytesOf S d).length=S.len d:=by simp[bytesOf]
        have hcl:∀j x,(bytesOf S d)[j]? =some x->w.cell? ((⟨b,0,none⟩:Addr).add j)=some (.int .u8 x.toNat):=by
         intro j x hj;have R:j < S.len d:=by grind
         obtain⟨k,hk,hk0,hk1⟩:=ap_ c2 j R;obtain⟨u,hu,_,L⟩:=D j 0 R au;rw[hk]at L;have L:u= .int .u8 k:=L;rw[I,Qdz,UX,L]at hu;have q:x=UInt8.ofNat k.toNat:=by
          grind
         have hkx:(x.toNat:Int)=k:=by
          rw[q];have:k.toNat < 256:=by omega
          simp[UInt8.toNat_ofNat',Qcm this];omega
         rw[hkx];exact B.cells (g:=b) (by rw[V];rfl) j _ hu
        have hrun:=Lib.run_unsafeString_row (P:=P) w J M o.type e hpt H b cur.size (by simp[World.shape?,hh]) (bytesOf S d) (fun e=>by grind) rf au hcl;obtain⟨f1,f2,f3,f4,_⟩:=NW w b (bytesOf S d).length 0;obtain⟨hp',hk'⟩:=h.aNA (w':=w.freeze ⟨b,0,none⟩ (bytesOf S d).length) qck hg rfl f1 f2 f3 f4 (fun m hm=>(NW w b (bytesOf S d).length m).2.2.2.2 hm);refine l9 (v:= .string ⟨(bytesOf S d).toArray⟩) ?_ (hK _ _ _ (More.refl _) hk' (hp'.weaken fun n hn=> .inl hn) ⟨rfl,by omega⟩);simp only[execOp,ho,resolve,hc,invoke,builtin,C,F,Sem.run_bind,Sem.run_pure,Result.andThen_ok,Qb8,Kq,Qcj,X,s];simp_all
      ·cases G
     ·cases A
    ·cases A
   ·cases f
  ·cases f
 ·rename_i n E Ew;rw[E]at q;rw[Ew]at s;have q:a.eval x= .pointer none:=q;have s:a.eval y= .int .i64 n:=s;split at f
  ·rename_i J M hts;have F:c.argTypes= #[J,M]:=by grind
   injection f with f
   subst f;have O:n=0:=O;subst O;refine bz (v:= .string ⟨#[]⟩) ?_ h hK rfl ⟨rfl,by simp⟩;simp only[execOp,ho,resolve,hc,invoke,builtin,C,F,Sem.run_bind,Sem.run_pure,Result.andThen_ok,Qb8,Kq,Qcj,q,s,Lib.run_unsafeString_none];rfl
  ·cases f
 ·cases f
theorem agR (F:jE S){f:FuncId}{args:List (Sl D)}{vals:List Value}(M:∀f i,Γ f=some i->gZ P S f i)(h:Hp S w0 N blk g al w)(B:∀n,fr<=n->n < fr+64->¬al n)
  (y:iY S (bi N blk g) w g args vals) (j:∀i,gZ P S f i->(execOp a.eval o).run P w= .ok (.enter f vals.toArray) w) (c:Lr Γ f blk args fr=some out) (O:nJ out.pre) (Y:Post S w0 N blk g al w fr out o.dst a K):o.wp P a w K Q:=by
 unfold Lr at c;split at c
 ·cases c
 ·rename_i i R;have p:=M f i R;have j:=j i p;have A:(Calls P f vals.toArray w fun e w'=>∃v g',e= .returned v/\More g g'/\Keeps (bi N blk g) w (bi N (mM blk out.blks) g') w'/\Hp S w0 N (mM blk out.blks) g' (fun n=>al n\/(fr<=n/\n < fr+64)) w'/\
    out.val.Rel S (bi N (mM blk out.blks) g') w' g' v)->o.wp P a w K Q:=by
   intro t;simp only[Oper.wp,j,Oper.upon_enter];refine t.mono ?_;rintro e w' ⟨v,g',rfl,s,Z,h3,X⟩;exact Y v w' g' s Z h3 X
  dsimp only at c;have u:=y.norm;generalize args.map Sl.norm=E at u c;cases s:DY i blk fr (E.map (Sl.view blk)) (nM [] (E.flatMap Sl.owns))with
  | some V=>
   rw[s]at c;simp only[Dz,P7]at c;subst c;refine A (xy F p h B (fun ids dW z W=> ?_) (fun l d=> ?_) (fun l d=> ?_) s O)
   ·refine iY.view F (jU:=nM [] (E.flatMap Sl.owns)) h ⟨fun b k=>(wG z b k).1,fun l d v b G r m k=> ?_⟩ (fun l d=>(fU _ _ _).2 (.inr d)) u;rcases(wG z b k).2 with q | ⟨U,L,⟨T,J,H,C⟩ | ⟨T,J,H,C⟩⟩
    ·exact h.aiH G r m q
    ·have:=h.sep l U v L b G T r H m C
     grind
    ·have:=h.sep l U v L b G J r H m C
     grind
   ·exact aef u (((fU _ _ _).1 d).resolve_left qb)
   ·obtain⟨x,hx,I⟩:=zA.1 (((fU _ _ _).1 d).resolve_left qb);rcases amo (blk:=blk) I with q | q | q
    ·exact .inl q
    ·exact .inr (.inl q)
    ·exact .inr (.inr (zA.2 ⟨_,MN.2 ⟨x,hx,rfl⟩,q⟩))
  | none=>
   rw[s]at c;simp only[Dz]at c;exact A (xy (jU:=[]) F p h B (fun ids dW z W=>u.less fun b k=>(wG z b k).1) (fun l d=>by simp at d) (fun l d=>by simp at d) c O)
theorem ahv (A:jE S){c:Call}{d:Operand}(D:o.op= .call c)(E:c.callee= .value d)(m:∀f i,Γ f=some i->gZ P S f i)(h:Hp S w0 N blk g al w)(p:∀n,fr<=n->n < fr+64->¬al n)
  (k:∀t,(slot t).Rel S (bi N blk g) w g (a.tmps.getD t undef)) (b:acQ Γ blk fr (aN slot d) (c.args.toList.map (aN slot))=some out) (z:nJ out.pre) (B:Post S w0 N blk g al w fr out o.dst a K):o.wp P a w K Q:=by
 have e:=qh k d;unfold acQ at b;split at b
 ·rename_i f v y l;rw[l]at e;obtain⟨u,s,j⟩:∃u,a.eval d= .func (.func f) #[u] #[]/\Qm S (bi N blk g) w v y u:=e;split at b
  ·rename_i x C;refine agR A (args:=x::c.args.toList.map (aN slot)) (vals:=u::c.args.toList.map a.eval) m h p ⟨agf C j,OW k _⟩ (fun i q=> ?_) b z B;have r:=q.enters (u::c.args.toList.map a.eval).toArray w;simp only[execOp,D,resolve,E,Deferred.ofValue,s,Sem.run_bind,Sem.run_pure,Result.andThen_ok,invoke];have:(#[u]++c.args.map a.eval:Array Value)++ #[]=(u::c.args.toList.map a.eval).toArray:=by grind
   rw[this,r]
  ·cases b
 ·cases b
theorem Xw (l:∀t G,T t=some G->gW P t G)(F:∀f E,Γ f=some E->gZ P S f E)(q:jE S)(h:Hp S w0 N blk g al w)(A:∀n,fr<=n->n < fr+64->¬al n)
  (C:∀t,(slot t).Rel S (bi N blk g) w g (a.tmps.getD t undef)) (b:y_ T S Γ slot blk fr o.op=some out) (s:nJ out.pre) (p:Post S w0 N blk g al w fr out o.dst a K):o.wp P a w K Q:=by
 have k:=qh C;unfold y_ at b;split at b
 ·rename_i t j;exact ac3 j l h A b p
 ·rename_i t x j;exact aia j l h (k x) b p
 ·rename_i t x y j;exact ae1 j l h (k x) (k y) b p
 ·rename_i t x i j;exact ahd j l h (k x) (k i) b s p
 ·rename_i t x i j;exact ac0 j l h (k x) (k i) b s p
 ·rename_i t j;exact ZH q j h A b p
 ·rename_i t x L O j;exact adn q j l h k b s p
 ·rename_i t x L O W j;exact ado q j l h k b s p
 ·rename_i t x i J j;exact aeM q j l h (k x) (k i) b p
 ·rename_i t x i v j;exact NM q (.inl j) l h (k x) (k i) (k v) b p
 ·rename_i t x i v j;exact NM q (.inr j) l h (k x) (k i) (k v) b p
 ·rename_i t d x j;split at b
  ·rename_i B z;injection b with b
   subst b;exact akL q j l h (k x) z s p
  ·exact afR q j l h (k x) b p
 ·rename_i t x j;exact aqa j l h (k x) b p
 ·rename_i x Y t J j;exact Zz j l h (k x) b p
 ·rename_i X t x y Z j;exact ai9 j l h (k x) (k y) b p
 ·rename_i f first I j
  split at b
  ·rename_i x M R;exact aqH j M R h (k x) b p
  ·cases b
 ·rename_i x j;split at b
  ·rename_i e D;split at b
   ·rename_i f U V;have z:=k x;rw[D]at z;injection b with b
    subst b;refine bz (v:=a.eval x) ?_ h p rfl z;obtain⟨u,H,_⟩:=z;simp[execOp,j,H]
   ·cases b
  ·cases b
 ·rename_i c j;split at b
  ·rename_i f r;exact ahv q j r F h A C b s p
  ·rename_i r;split at b
   ·rename_i x y m;split at b
    ·rename_i B z;injection b with b
     subst b;exact Zx q j r m l h A (k x) (k y) z s p
    split at b
    ·rename_i B z;injection b with b
     subst b;exact Zv j r m l h (k x) (k y) z p
    split at b
    ·rename_i B z;injection b with b
     subst b;exact Zr q j r m l h A (k x) (k y) z s p
    ·exact Zm q j r m l h A (k x) (k y) b s p
   ·cases b
  ·rename_i r;split at b
   ·rename_i x m;exact ao8 j r m l h (k x) b p
   ·cases b
  ·rename_i r;split at b
   ·rename_i x m;exact SQ j r m h (k x) b s p
   ·cases b
  ·rename_i r;split at b
   ·rename_i x y m;exact SN j r m l h (k x) (k y) b s p
   ·cases b
  ·cases b
 ·cases b
theorem ahw (C:∀t J,T t=some J->gW P t J)(D:∀f A,Γ f=some A->gZ P S f A)(r:jE S)(h:Hp S w0 N blk g al w)(E:∀n,fr<=n->n < fr+64->¬al n)
  (z:∀t,(slot t).Rel S (bi N blk g) w g (a.tmps.getD t undef)) (c:PS T S Γ slot blk fr o.op=some out) (M:nJ out.pre) (O:Post S w0 N blk g al w fr out o.dst a K):o.wp P a w K Q:=by
 unfold PS at c;dsimp only at c;split at c
 ·rename_i V;simp only[kW,Qa2]at V;split at c
  ·rename_i d R;injection c with c
   subst c;have F:(jl slot o.op).Nodup:=rG _ _ Qd3;obtain⟨U,y,B,X⟩:=Hp.Iq r (jl slot o.op) blk F h;refine Xw C D r U E (fun t=> ?_) R M (fun v w' g' m k G W=> ?_)
   ·unfold Ei;split
    ·rename_i p;have p:=iL.1 p;refine Sl.Rel.view (jU:=jl slot o.op) r h ⟨?_,fun l I v b H L i=> ?_⟩ (fun l I=>(fU _ _ _).2 (.inr (zA.2 ⟨t,p,I⟩))) (z t)
     ·rintro b (i | ⟨n,u,s,j,x⟩)
      ·exact .inl i
      ·exact .inr ⟨n,u,B n s,j,x⟩
     ·rintro(q | ⟨n,u,s,j,x⟩)
      ·exact h.aiH H L i q
      ·have:=h.sep l n v u b H (B n s) L j i x
       grind
    ·exact(z t).keep y (More.refl _)
   ·have e:mM blk ((jl slot o.op).filterMap (jM blk)++d.blks)=mM (mM blk ((jl slot o.op).filterMap (jM blk))) d.blks:=W_ _ _ _;refine O v w' g' m ?_ ?_ ?_
    ·rw[e];exact y.comp k
    ·rw[e];exact G
    ·rw[e];exact W
  ·cases c
 ·cases c
theorem ali (d:∀t s,T t=some s->gW P t s)(j:∀f r,Γ f=some r->gZ P S f r)(q:jE S)(h:Hp S w0 N blk g al w)(e:∀n,fr<=n->n < fr+64->¬al n)
  (i:∀t,(slot t).Rel S (bi N blk g) w g (a.tmps.getD t undef)) (c:Does T S Γ slot blk fr o.op out) (p:nJ out.pre) (k:Post S w0 N blk g al w fr out o.dst a K):o.wp P a w K Q:=by
 rcases c with c | ⟨b,v,y,l,rfl⟩
 ·unfold arD at c;split at c
  ·rename_i m l;injection c with c
   subst c;exact Xw d j q h e i l p k
  ·split at c
   ·rename_i m l;injection c with c
    subst c;exact ahw d j q h e i l p k
   ·unfold asF at c;split at c
    ·rename_i t x u;exact afD u d h e (qh i x) c k
    ·exact apN d j q h e i c p k
 ·exact akM h i l k
end
end Go.Vc
