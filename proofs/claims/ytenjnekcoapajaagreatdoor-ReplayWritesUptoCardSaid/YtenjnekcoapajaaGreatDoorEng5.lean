/- Own engine: Vdd. -/
import Derived.Lib.ConvBytes
import Derived.Test.YtenjnekcoapajaaGreatDoorEng4
import Derived.MapFrom
import Derived.Lib.AppendStr
import Derived.Lib.AppendZeros
import Derived.Lib.UnsafeStr
import Derived.Laws.BytesString
set_option linter.unusedVariables false
set_option linter.unusedSimpArgs false
namespace Go.Vc
open Go.RowKit
section
variable {D:Type}
def aAc (T:TypeId->Option Ty)(t:TypeId):Option (TypeId×Nat×Nat):=
 match T t with
 | none=>none
 | some a=>if a.lit then MR T t else none
def akd (T:TypeId->Option Ty)(t:TypeId)(x i:Sl D):Option (Out D):=
 match aAc T t with
 | none=>none
 | some (e,n,a)=>(match x,i with
  | .one (.lf (.ptr l o)), .one (.lf (.int _ m))=>lF (some (dp (0<=m/\m < n))) (.ptr l (o+m.toNat*a))
  | _,_=>none)
def acu (T:TypeId->Option Ty)(t:TypeId)(x i:Sl D):Option (Out D):=
 match aAc T t with
 | none=>none
 | some (e,n,a)=>(match T e with
  | none=>none
  | some b=>(match x,i with
   | .one (.agg cs), .one (.lf (.int _ m))=>
    if Nat.beq cs.length (n*a)then(if b.agg then some ⟨some (dp (0<=m/\m < n)), .one (.agg ((cs.drop (m.toNat*a)).take a)),[]⟩
    else(match cs[m.toNat*a]? with
     | some y=>lF (some (dp (0<=m/\m < n))) y
     | none=>none))else none
   | _,_=>none))
def TG (S:Sh D)(t:TypeId)(a:Nat):Option (Out D):=
 match S.aqM t with
 | some d=>some ⟨none, .one (.lf (.own a)),[(a,some (.map d))]⟩
 | none=>none
def azW:Sl D->Option Pv
 | .one (.lf x)=>x.pv
 | _=>none
def mapOf (S:Sh D)(a:Nat->Option (Bk D))(t:TypeId):Sl D->Option (Mp D)
 | .one (.lf (.own l))=>(match a l with
  | some (.map d)=>S.mp d
  | some (.wY d)=>S.mp d
  | _=>none)
 | .one (.lf (.dat d))=>S.mp d
 | .one (.lf (.val (.map none)))=>(match S.aqM t with
  | some d=>S.mp d
  | none=>none)
 | _=>none
def aFp:Pv->Value->Bool
 | .bool a, .bool b=>a==b
 | .int k a, .int c b=>kEq k c && a==b
 | .str s, .string u=>s.isEmpty && Nat.beq u.data.size 0
 | _,_=>false
def ace:List Pv->List Value->Bool
 | [],[]=>true
 | p::a,v::b=>aFp p v && ace a b
 | _,_=>false
def QW:List Pv->List Pv->Bool
 | [],[]=>true
 | p::a,q::b=>Nat.beq p.kind q.kind && QW a b
 | _,_=>false
def acv (T:TypeId->Option Ty)(S:Sh D)(c:Nat->Option (Bk D))(t:TypeId)(x i:Sl D)(a:Bool):Option (Out D):=
 match T t with
 | none=>none
 | some d=>(match d.mp with
  | none=>none
  | some (h,g)=>(match T h,T g with
   | some f,some e=>(match mapOf S c t x,azW i with
    | some m,some k=>
     if Nat.beq d.kind 0 && Nat.beq k.kind f.kind && (Nat.beq m.kind f.kind && (m.agg==e.zag && ace m.zero e.zero))then
      (match m.agg,m.get k with
      | true,b=>if a then some ⟨none, .Dh [.agg b, .lf (.bool (m.has k))],[]⟩else some ⟨none, .one (.agg b),[]⟩
      | false,[y]=>if a then some ⟨none, .Dh [.lf y, .lf (.bool (m.has k))],[]⟩else lF none y
      | _,_=>none)else none
    | _,_=>none)
   | _,_=>none))
def asY (a:Bool):Sl D->Option (List Pv)
 | .one (.lf x)=>if a then none else(match x.pv with
  | some p=>some [p]
  | none=>none)
 | .one (.agg b)=>if a then pvs b else none
 | _=>none
def Ri (T:TypeId->Option Ty)(S:Sh D)(a:Nat->Option (Bk D))(t:TypeId)(x i v:Sl D):Option (Out D):=
 match T t with
 | none=>none
 | some b=>(match b.mp with
  | none=>none
  | some (e,f)=>(match T e with
   | some c=>(match x,azW i with
    | .one (.lf (.own l)),some k=>(match a l with
     | some (.map d)=>(match S.mp d with
      | some m=>(match asY m.agg v with
       | some u=>if Nat.beq b.kind 0 && Nat.beq k.kind c.kind && (Nat.beq m.kind c.kind && QW u m.zero)then some ⟨none, .one (.lf .any),[(l,some (.map (m.put k u)))]⟩else none
       | none=>none)
      | none=>none)
     | _=>none)
    | _,_=>none)
   | _=>none))
def aGs:Lf D->Bool
 | .int .u8 _=>true
 | _=>false
def aqW:Lf D->Bool
 | .int .u8 k=>decide (0<=k) && decide (k < 256)
 | _=>false
def BQ (f:Nat->Bool):Nat->Bool
 | 0=>true
 | n+1=>f n && BQ f n
def aG1:Lf D->UInt8
 | .int .u8 n=>UInt8.ofNat n.toNat
 | _=>0
def Ll (S:Sh D)(d:D):Nat->Bool:=BQ fun i=>aGs (S.cell d i 0)
def acj (S:Sh D)(d:D):Nat->Bool:=BQ fun i=>aqW (S.cell d i 0)
def bytesOf (S:Sh D)(d:D):List UInt8:=(List.range (S.len d)).map fun i=>aG1 (S.cell d i 0)
def ar_ (T:TypeId->Option Ty)(S:Sh D)(a:Nat->Option (Bk D))(src b:TypeId)(x:Sl D):Option (Out D):=
 match T src,T b with
 | some g,some f=>(match g.elem with
  | none=>none
  | some e=>(match T e with
   | none=>none
   | some c=>if Nat.beq f.kind 3 && (Nat.beq c.kind 24 && Nat.beq c.size 1)then(match x with
    | .one (.lf (.val (.slice none 0 0)))=>lF none (.str [])
    | x=>(match Y6 a x with
     | some d=>if Nat.beq (S.size d) 1 then lF (some (dp (Ll S d (S.len d)=true))) (.str (bytesOf S d))else none
     | none=>none))else none))
 | _,_=>none
def aki (T:TypeId->Option Ty)(S:Sh D)(src a:TypeId)(x:Sl D):Option (Out D):=
 match T src,T a with
 | some d,some c=>(match c.elem with
  | none=>none
  | some e=>(match T e with
   | none=>none
   | some b=>if Nat.beq d.kind 3 && (Nat.beq b.kind 24 && Nat.beq b.size 1)then(match x with
    | .one (.lf (.str s))=>(match S.text e s with
     | none=>none
     | some d2=>if Nat.beq (S.size d2) 1 then lF none (.dat d2)else none)
    | _=>none)else none))
 | _,_=>none
def Lf.dl:Lf D->Option (Dl D)
 | .bool b=>some (.bool b)
 | .val (.bool b)=>some (.bool b)
 | .int k n=>some (.int k n)
 | .str s=>some (.str s)
 | .dat d=>some (.dat d)
 | .val (.slice none 0 0)=>some .axs
 | _=>none
def dls:List (Lf D)->Option (List (Dl D))
 | []=>some []
 | x::a=>(match x.dl,dls a with
  | some p,some b=>some (p::b)
  | _,_=>none)
def Dl.lf:Dl D->Lf D
 | .bool b=> .bool b
 | .int k n=> .int k n
 | .str s=> .str s
 | .dat d=> .dat d
 | .axs=> .val (.slice none 0 0)
def aAJ (b:Bool)(a:List (Dl D)):Option (Sl D):=
 match b,a with
 | false,[x]=>some (.one (.lf x.lf))
 | true,a=>some (.one (.agg (a.map Dl.lf)))
 | _,_=>none
def amC:Sl D->Option (Bool×List (Dl D))
 | .one (.lf x)=>(match x.dl with
  | some p=>some (false,[p])
  | none=>none)
 | .one (.agg a)=>(match dls a with
  | some b=>some (true,b)
  | none=>none)
 | _=>none
def aFx (T:TypeId->Option Ty)(t:TypeId)(x:Sl D):Option (Out D):=
 match T t with
 | none=>none
 | some c=>if Nat.beq c.kind 0 then none else(match amC x with
  | some (a,b)=>lF none (.xt (.ifd t a b))
  | none=>none)
def aaQ (a:Ty):Option (Sv D):=
 if a.agg then(if a.zag then some (.agg (a.zero.map Jr))else none)else(match a.zero with
  | [z]=>if a.zag then none else some (.lf (Jr z))
  | _=>none)
def aG4:Value->Bool
 | .slice _ _ _=>true
 | _=>false
def TJ (T:TypeId->Option Ty)(t:TypeId)(x:Sl D)(c:Bool):Option (Out D):=
 match T t with
 | none=>none
 | some a=>if Nat.beq a.kind 0 then none else(match x with
  | .one (.lf (.xt (.ifd b e d)))=>(match aAJ e d with
   | some (.one u)=>(match c with
    | true=>if Nat.beq b t then some ⟨none, .Dh [u, .lf (.val (.bool true))],[]⟩else(match aaQ a with
     | some z=>some ⟨none, .Dh [z, .lf (.val (.bool false))],[]⟩
     | none=>none)
    | false=>if Nat.beq b t then some ⟨none, .one u,[]⟩else none)
   | _=>none)
  | .one (.lf (.Xw v))=>if a.zero.any aG4 then(match v with
   | none=>(match c with
    | true=>(match aaQ a with
     | some z=>some ⟨none, .Dh [z, .lf (.val (.bool false))],[]⟩
     | none=>none)
    | false=>none)
   | some _=>none)else none
  | _=>none)
def aEB (f:FuncId)(x:Sl D):Option (Out D):=
 match amC x with
 | some (a,b)=>lF none (.xt (.clo f a b))
 | none=>none
def aja (e:FuncId->Option (Ct D))(a:Nat->Option (Bk D))(b:Nat)(f:Sl D)(args:List (Sl D)):Option (Out D):=
 match f with
 | .one (.lf (.xt (.clo f d c)))=>(match aAJ d c with
  | some x=>Zj e f a (x::args) b
  | none=>none)
 | _=>none
def ab4 (T:TypeId->Option Ty)(S:Sh D)(f:Nat->Option (Bk D))(t:TypeId)(x:Sl D)(i c:Option (Sl D)):Option (Out D):=
 match T t with
 | none=>none
 | some g=>if g.lit then(match bnd 0 i,g.elem with
  | some l,some e=>(match T e with
   | none=>none
   | some a=>(match x with
    | .one (.lf (.own q))=>(match f q with
     | some (.row _ d)=>if Nat.beq a.size (S.size d) && (Nat.blt 0 a.size && (!a.agg || a.lit))then(match bnd (S.len d) c with
      | some h=>(match S.sub d l.toNat h.toNat with
       | some b=>some ⟨some (dp (0<=l/\l<=h/\h<=S.len d)), .one (.lf (.dat b)),[(q,some (.wY d))]⟩
       | none=>none)
      | none=>none)else none
     | some (.wY d)=>if Nat.beq a.size (S.size d) && (Nat.blt 0 a.size && (!a.agg || a.lit))then(match bnd (S.len d) c with
      | some h=>(match S.sub d l.toNat h.toNat with
       | some b=>some ⟨some (dp (0<=l/\l<=h/\h<=S.len d)), .one (.lf (.dat b)),[]⟩
       | none=>none)
      | none=>none)else none
     | _=>none)
    | _=>none))
  | _,_=>none)else none
def WM (T:TypeId->Option Ty)(S:Sh D)(a:Nat->Option (Bk D))(c:Array TypeId)(x y:Sl D):Option (Out D):=
 match c.toList,y with
 | [t,b], .one (.lf (.val (.slice none 0 0)))=>if Nat.beq t b then(match T t with
  | none=>none
  | some f=>(match f.elem with
   | none=>none
   | some e=>(match T e with
    | none=>none
    | some g=>(match x with
     | .one (.lf (.val (.slice none 0 0)))=>lF none (.val (.slice none 0 0))
     | .one (.lf (.dat d))=>if Nat.blt 0 (S.size d)then lF none (.dat d)else none
     | .one (.lf (.own l))=>(match a l with
      | some (.row _ _)=>lF none (.own l)
      | _=>none)
     | _=>none))))else none
 | _,_=>none
def abN (T:TypeId->Option Ty)(S:Sh D)(c:Nat->Option (Bk D))(t:TypeId)(x:Sl D)(g f:Option (Sl D))(i:Sl D):Option (Out D):=
 match g,f,i with
 | none,some (.one (.lf (.int _ h))), .one (.lf (.int _ m))=>(match T t with
  | none=>none
  | some j=>(match j.elem with
   | none=>none
   | some e=>(match T e with
    | none=>none
    | some a=>(match x with
     | .one (.lf (.dat d))=>if Nat.beq a.size (S.size d) && Nat.blt 0 a.size then(match S.sub d 0 h.toNat with
      | some b=>lF (some (dp (0<=h/\h=m/\h<=S.len d))) (.xt (.clip b))
      | none=>none)else none
     | .one (.lf (.own q))=>(match c q with
      | some (.row _ d)=>if Nat.beq a.size (S.size d) && Nat.blt 0 a.size then(match S.sub d 0 h.toNat with
       | some b=>some ⟨some (dp (0<=h/\h=m/\h<=S.len d)), .one (.lf (.dat b)),[(q,some (.wY d))]⟩
       | none=>none)else none
      | _=>none)
     | _=>none))))
 | _,_,_=>none
def SY (T:TypeId->Option Ty)(S:Sh D)(c:Nat->Option (Bk D))(b:Nat)(g:Array TypeId)(x y:Sl D):Option (Out D):=
 match x with
 | .one (.lf (.xt e))=>(match e with
  | .clip d1=>(match g.toList with
   | [t,f]=>if Nat.beq t f then(match T t with
    | none=>none
    | some h=>(match h.elem with
     | none=>none
     | some e=>(match T e with
      | none=>none
      | some a=>(match Y6 c y with
       | none=>none
       | some d2=>if Nat.beq a.size (S.size d2) && (Nat.blt 0 a.size && Nat.beq a.zero.length a.size)then(match S.cat d1 d2 with
        | some d=>some ⟨some (dp (0 < S.len d2/\bG (S.len d1+S.len d2) a.bytes)), .one (.lf (.own b)),[(b,some (.row e d))]⟩
        | none=>none)else none))))else none
   | _=>none)
  | _=>none)
 | _=>none
def aq7 (T:TypeId->Option Ty)(S:Sh D)(b:BinOp)(t:TypeId)(x y:Sl D):Option (Out D):=
 match T t with
 | none=>none
 | some a=>if S.run && a.lit then(match a.elem,x,y with
  | some _, .one (.lf (.dat d)), .one (.lf (.val (.slice none 0 0)))=>if Nat.blt 0 (S.len d) && Nat.blt 0 (S.size d)then(match b with
   | .eql=>lF none (.val (.bool false))
   | .neq=>lF none (.val (.bool true))
   | _=>none)else none
  | _,_,_=>none)else none
def aBw (a:Ty):Bool:=
 match a.zero with
 | [.pointer none, .slice none 0 0]=>a.lit && a.agg && Nat.beq a.kind 5
 | _=>false
def ack (T:TypeId->Option Ty)(a:Nat)(t:TypeId):Option (Out D):=
 match T t with
 | none=>none
 | some b=>if aBw b then some ⟨none, .one (.lf (.ptr a 0)),[(a,some (.tc t [.val (.slice none 0 0)]))]⟩else none
def aiD (T:TypeId->Option Ty)(a:Nat->Option (Bk D))(t:TypeId)(x:Sl D):Option (Out D):=
 match T t with
 | none=>none
 | some b=>(match x with
  | .one (.lf (.ptr l o))=>(match a l with
   | some (.tc _ cs)=>if b.agg then none else(match o with
    | 0=>none
    | o+1=>(match cs[o]? with
     | some y=>lF none y
     | none=>none))
   | _=>none)
  | _=>none)
def aas (T:TypeId->Option Ty)(b:Nat->Option (Bk D))(t:TypeId)(x y:Sl D):Option (Out D):=
 match T t,x,y with
 | some a, .one (.lf (.ptr l o)), .one (.lf u)=>(match b l with
  | some (.tc c cs)=>(match o with
   | 0=>none
   | o+1=>if Nat.beq a.size 1 && (!a.agg && (Nat.blt o cs.length && u.storable))then some ⟨none, .one (.lf .any),[(l,some (.tc c (putAt cs o [u])))]⟩else none)
  | _=>none)
 | _,_,_=>none
def avu (a:Ty):Bool:=
 match a.zero with
 | [.int .u8 0]=> !a.zag
 | _=>false
def VC (T:TypeId->Option Ty)(S:Sh D)(f:Nat->Option (Bk D))(a:Nat)(h:Array TypeId)(x y:Sl D):Option (Out D):=
 match h.toList,y with
 | [t,g], .one (.lf (.str s))=>(match T t,T g with
  | some j,some c=>(match j.elem with
   | none=>none
   | some e=>(match T e with
    | none=>none
    | some b=>if avu b && (Nat.beq b.size 1 && (Nat.beq b.bytes 1 && Nat.beq c.kind 3))then(match S.text e s with
     | none=>none
     | some d2=>if Nat.beq (S.size d2) 1 then(match x with
      | .one (.lf (.val (.slice none 0 0)))=>some ⟨some (dp (bG s.length 1)), .one (.lf (.own a)),[(a,some (.row e d2))]⟩
      | .one (.lf (.own l))=>(match f l with
       | some (.row i d1)=>if Nat.beq e i && Nat.beq (S.size d1) 1 then(match S.cat d1 d2 with
        | some d=>some ⟨some (dp (bG (S.len d1+s.length) 1)), .one (.lf (.own a)),[(l,none),(a,some (.row e d))]⟩
        | none=>none)else none
       | _=>none)
      | _=>none)else none)else none))
  | _,_=>none)
 | _,_=>none
def H_ (S:Sh D)(a:Nat->Option (Bk D))(x:Sl D):Option (Out D):=
 match x with
 | .one (.lf (.own l))=>(match a l with
  | some (.row _ d)=>if Nat.beq (S.size d) 1 then lF (some (dp (0 < S.len d))) (.opt l 0 0 1)else none
  | _=>none)
 | .one (.lf (.val (.slice none 0 0)))=>lF none (.val (.pointer none))
 | _=>none
def ptrTo (T:TypeId->Option Ty)(c:Array TypeId)(e:TypeId):Bool:=
 match c.toList with
 | [d,_]=>(match T d,T e with
  | some a,some f=>Nat.beq a.kind 6 && (Nat.beq f.size 1 && (match a.mp with
   | some (b,_)=>Nat.beq e b
   | none=>false))
  | _,_=>false)
 | _=>false
def Ik (T:TypeId->Option Ty)(S:Sh D)(b:Nat->Option (Bk D))(a:Array TypeId)(x y:Sl D):Option (Out D):=
 match x,y with
 | .one (.lf (.opt l 0 0 1)), .one (.lf (.int .i64 n))=>(match b l with
  | some (.row e d)=>if ptrTo T a e && Nat.beq (S.size d) 1 then some ⟨some (dp (n=S.len d/\0 < n/\acj S d (S.len d)=true)), .one (.lf (.str (bytesOf S d))),[(l,none)]⟩else none
  | _=>none)
 | .one (.lf (.val (.pointer none))), .one (.lf (.int .i64 n))=>(match a.toList with
  | [_,_]=>lF (some (dp (n=0))) (.str [])
  | _=>none)
 | _,_=>none
def azm (T:TypeId->Option Ty)(S:Sh D)(s:FuncId->Option (Ct D))(d:Nat->Sl D)(g:Nat->Option (Bk D))(j:Nat)(n:Op):Option (Out D):=
 match n with
 | .alloc t=>ack T j t
 | .load t x=>aiD T g t (aP d x)
 | .store t x y=>aas T g t (aP d x) (aP d y)
 | .indexAddr t x i=>akd T t (aP d x) (aP d i)
 | .index t x i=>acu T t (aP d x) (aP d i)
 | .makeMap t none=>TG S t j
 | .slice t x o l none=>ab4 T S g t (aP d x) (o.map (aP d)) (l.map (aP d))
 | .slice t x o l (some r)=>abN T S g t (aP d x) (o.map (aP d)) (l.map (aP d)) (aP d r)
 | .lookup t x i k=>acv T S g t (aP d x) (aP d i) k
 | .mapUpdate t x i v=>Ri T S g t (aP d x) (aP d i) (aP d v)
 | .insert t x i v=>Ri T S g t (aP d x) (aP d i) (aP d v)
 | .convert a b x=>(match ar_ T S g a b (aP d x)with
  | some h=>some h
  | none=>aki T S a b (aP d x))
 | .makeInterface t x=>aFx T t (aP d x)
 | .typeAssert x _ t k=>TJ T t (aP d x) k
 | .binOp n t x y _=>aq7 T S n t (aP d x) (aP d y)
 | .makeFunc (.func f) first m=>(match first.toList,m.toList with
  | [x],[]=>aEB f (aP d x)
  | _,_=>none)
 | .nilCheck x=>(match aP d x with
  | .one (.lf (.xt e))=>(match e with
   | .clo f q p=>lF none (.xt (.clo f q p))
   | _=>none)
  | _=>none)
 | .call c=>(match c.callee with
  | .value f=>aja s g j (aP d f) (c.args.toList.map (aP d))
  | .builtin .append=>(match c.args.toList with
   | [x,y]=>(match WM T S g c.argTypes (aP d x) (aP d y)with
     | some h=>some h
     | none=>(match SY T S g j c.argTypes (aP d x) (aP d y)with
      | some h=>some h
      | none=>VC T S g j c.argTypes (aP d x) (aP d y)))
   | _=>none)
  | .builtin .unsafeSliceData=>(match c.args.toList with
   | [x]=>H_ S g (aP d x)
   | _=>none)
  | .builtin .unsafeString=>(match c.args.toList with
   | [x,y]=>Ik T S g c.argTypes (aP d x) (aP d y)
   | _=>none)
  | _=>none)
 | _=>none
def apK:Op->Bool
 | .makeInterface _ _=>true
 | .makeFunc _ _ _=>true
 | _=>false
def ajB (T:TypeId->Option Ty)(S:Sh D)(g:FuncId->Option (Ct D))(c:Nat->Sl D)(a:Nat->Option (Bk D))(f:Nat)(d:Op):Option (Out D):=
 let e:=ql c d
 if apK d && e.all (fun l=>isRow (a l))then
  (match azm T S g (akV (xe d.operands.toList) c a) (jc a (e.filterMap (jY a))) f d with
  | some b=>some ⟨b.pre,b.val,e.filterMap (jY a)++b.blks⟩
  | none=>none)
 else none
def aGq (T:TypeId->Option Ty)(S:Sh D)(f:FuncId->Option (Ct D))(a:Nat->Sl D)(c:Nat->Option (Bk D))(d:Nat)(e:Op):Option (Out D):=
 match azm T S f a c d e with
 | some b=>some b
 | none=>(match ajB T S f a c d e with
  | some b=>some b
  | none=>aHm T S f a c d e)
def aG0:Op->Bool
 | .load _ _ | .store _ _ _ | .indexAddr _ _ _ | .call _ | .slice _ _ _ _ _ | .buildSlice _ _ _ | .next _ _ | .lookup _ _ _ _ | .mapUpdate _ _ _ _ | .insert _ _ _ _ | .convert _ _ _ | .makeInterface _ _ | .makeFunc _ _ _=>true
 | _=>false
def isFn:Op->Bool
 | .call c=>(match c.callee with
  | .value _=>true
  | _=>false)
 | _=>false
def dS (a:Nat->Sl D)(b:Nat->Option (Bk D))(o:Op):List Nat:=
 if isFn o then reach b 3 (mZ [] (o.operands.toList.flatMap fun x=>(aP a x).refs))else if aG0 o then o.operands.toList.flatMap fun x=>(aP a x).refs else[]
def ahr (b:Op)(a:Nat->Sl D):Nat->Sl D:=fun t=>bif rP t (xe b.operands.toList)then a t else .one (.lf .any)
def nG (L:List Nat)(a:Nat->Option (Bk D)):Nat->Option (Bk D):=fun l=>bif rP l L then a l else none
def axD (T:TypeId->Option Ty)(S:Sh D)(e:FuncId->Option (Ct D))(a:Nat->Sl D)(b:Nat->Option (Bk D))(d:Nat)(c:Op):Option (Out D):=aGq T S e (ahr c a) (nG (dS a b c) b) d c
def aji (a:Nat->Sl D)(b:Nat->Option (Bk D))(c:Op):Option (Bool×Out D×Out D):=auI (ahr c a) (nG (dS a b c) b) c
def Does (T:TypeId->Option Ty)(S:Sh D)(i:FuncId->Option (Ct D))(a:Nat->Sl D)(d:Nat->Option (Bk D))(h:Nat)(e:Op)(c:Out D):Prop:=
 axD T S i a d h e=some c\/∃b g f,aji a d e=some (b,g,f)/\c=bif b then g else f
end
section
variable {D:Type}{P:Program}{S:Sh D}{T:TypeId->Option Ty}{Γ:FuncId->Option (Ct D)}{M M' N:Nat->Prop}{w w':World}{w0:Bs}{g g':Nat->Option Value}{blk blk':Nat->Option (Bk D)}{al:Nat->Prop}
 {a:Act} {o:Oper} {K:Act->World->Prop} {Q:Exit->Act->World->Prop} {slot gz:Nat->Sl D} {out:Out D} {fr:Nat}
theorem aaj (d:∀t a,T t=some a->TyOk P t a){t e:TypeId}{n b:Nat}(h:aAc T t=some (e,n,b)):∃a c,T t=some a/\T e=some c/\c.size=b/\0 < b/\a.size=n*b/\a.agg=true/\P.underlying t=some (.array n e)/\TyOk P t a/\TyOk P e c:=by
 unfold aAc at h;split at h
 ·cases h
 ·split at h
  ·exact yB d h
  ·cases h
theorem afl {t:TypeId}{x d:Operand}(A:o.op= .indexAddr t x d)(r:∀t f,T t=some f->TyOk P t f)(h:Hp S w0 N blk g al w)(u:(aP slot x).Rel S (aS N blk g) w g (a.eval x))
  (j:(aP slot d).Rel S (aS N blk g) w g (a.eval d)) (c:akd T t (aP slot x) (aP slot d)=some out) (C:lG out.pre) (I:Post S w0 N blk g al w fr out o.dst a K):o.wp P a w K Q:=by
 unfold akd at c;split at c
 ·cases c
 ·rename_i e n G i;obtain⟨f,W,L,R,s,V,U,O,z,M,E⟩:=aaj r i;have J:=kJ E w;split at c
  ·rename_i l p k m q y;rw[q]at u;rw[y]at j;simp only[Sl.Rel,Sv.Rel,Lf.Rel]at j;obtain⟨b,D,F⟩:=u;injection c with c
   subst c;obtain⟨H,B⟩:=C;refine aY (v:= .pointer (some ⟨b,p+m.toNat*G,none⟩)) ?_ h I rfl ⟨b,D,rfl⟩;simp[execOp,A,Instr.indexAt,Instr.sureAddr,j,asIntOf,run_underlying z,F,H,B,J,s,lg]
  ·cases c
theorem aW.at {g:Nat->Option Value}{a:List (Lf D)}{b:List Value}(h:aW S M w g a b){i:Nat}{x:Lf D}(c:a[i]? =some x):∃u,b[i]? =some u/\x.Rel S M w g u:=aW.get i h c
theorem aW.drop' {g:Nat->Option Value}:∀(n:Nat) {b:List (Lf D)} {a:List Value},aW S M w g b a->aW S M w g (b.drop n) (a.drop n)
 | 0,_,_,h=>h
 | n+1,[],[],_=>trivial
 | n+1,x::b,v::a,h=>aW.drop' n h.2
theorem aW.take' {g:Nat->Option Value}:∀(n:Nat) {b:List (Lf D)} {a:List Value},aW S M w g b a->aW S M w g (b.take n) (a.take n)
 | 0,_,_,h=>trivial
 | n+1,[],[],_=>trivial
 | n+1,x::b,v::a,h=>⟨h.1,aW.take' n h.2⟩
theorem aci {t:TypeId}{x f:Operand}(E:o.op= .index t x f)(D:∀t r,T t=some r->TyOk P t r)(h:Hp S w0 N blk g al w)(G:(aP slot x).Rel S (aS N blk g) w g (a.eval x))
  (i:(aP slot f).Rel S (aS N blk g) w g (a.eval f)) (b:acu T t (aP slot x) (aP slot f)=some out) (F:lG out.pre) (R:Post S w0 N blk g al w fr out o.dst a K):o.wp P a w K Q:=by
 unfold acu at b;split at b
 ·cases b
 ·rename_i e n c z;obtain⟨r,te,X,I,j,h0,X5,Z,B,Y,J⟩:=aaj D z;rw[I]at b;dsimp only at b;have l:=kJ J w;have p:=wZ J w;split at b
  ·rename_i cs k m C L;rw[C]at G;rw[L]at i;simp only[Sl.Rel,Sv.Rel,Lf.Rel]at i;obtain⟨q,M,H⟩:=G;split at b
   rotate_left
   ·cases b
   split at b
   ·rename_i d;injection b with b
    subst b;obtain⟨A,s⟩:=F;refine aY (v:= .agg ((q.drop (m.toNat*c)).take c).toArray) ?_ h R rfl ⟨_,rfl,(H.drop' _).take' _⟩;have U:q.toArray.extract (m.toNat*c) (m.toNat*c+c)=((q.drop (m.toNat*c)).take c).toArray:=by
     grind
    simp[execOp,E,Instr.index,i,asIntOf,run_underlying B,M,A,s,part,p,d,l,j,U]
   ·rename_i d;split at b
    ·rename_i y V;injection b with b
     subst b;obtain⟨A,s⟩:=F;obtain⟨u,W,O⟩:=H.at V;refine aY (v:=u) ?_ h R rfl O;simp[execOp,E,Instr.index,i,asIntOf,run_underlying B,M,A,s,part,p,d,l,j,W]
    ·cases b
  ·cases b
theorem XQ {t:TypeId}(q:ShOk S)(j:o.op= .makeMap t none)(h:Hp S w0 N blk g al w)(f:∀n,fr<=n->n < fr+64->¬al n)(c:TG S t fr=some out)(x:Post S w0 N blk g al w fr out o.dst a K):o.wp P a w K Q:=by
 unfold TG at c;split at c
 ·rename_i d k;injection c with c
  subst c;obtain⟨m,u,p⟩:=q.axq _ _ k;have e:(execOp a.eval o).run P w= .ok (.value (.map (some w.heap.size))) (w.alloc (.map #[] 0)):=by
   simp[execOp,j,Instr.makeMap,newObj,Sem.run]
  obtain⟨i,y,s⟩:=h.add (l:=fr) (bk:= .map d) (v:= .map (some w.heap.size)) ((Below.refl w.heap.size w).alloc (pJ _) (.map #[] 0)) (f fr (pJ _) aj) (fun b r=>by simp[dE]at r;omega)
   (fun M' z _=>⟨m,w.heap.size,#[],0,u,by grind,rfl, .inl h.below.size,heap_alloc_new w _,by rw[p];rfl⟩)
  exact mW e (x _ _ _ s y (i.weaken XP) (upd_same _ _ _))
 ·cases c
theorem Pv.beq_eq {p q:Pv}(h:Pv.beq p q=true):p=q:=by
 cases p<;>cases q<;>simp_all [Pv.beq,kEq]
theorem aa0 {t:TypeId}{ty:Ty}{p:Pv}{d:TypeDesc}(c:kindOf d=ty.kind)(a:Nat.beq p.kind ty.kind=true):MapKept.IsKey d p.val:=by
 have a:=Qa a;rw[<-c]at a;cases p with
 | bool b=>cases d<;>simp[Pv.kind,kindOf]at a<;>first | trivial | (rename_i k;cases k<;>simp[rD]at a)
 | str s=>cases d<;>simp[Pv.kind,kindOf]at a<;>first | trivial | (rename_i k;cases k<;>simp[rD]at a)
 | int k n=>cases d<;>simp[Pv.kind,kindOf]at a<;>first | (rename_i e;cases k<;>cases e<;>first | rfl | simp[rD]at a) | (cases k<;>simp[rD]at a)
theorem axM {d:TypeDesc}{p q:Pv}(b:MapKept.IsKey d p.val)(a:MapKept.IsKey d q.val):Instr.sameNow d p.val q.val=some (Pv.beq p q):=by
 cases p<;>cases q<;>cases d<;>simp_all [MapKept.IsKey,Instr.sameNow,Pv.val,Pv.beq,kEq]
 grind [MapKept.bytes_beq]
def Cb {V:Type}(k:Pv):List (Pv×V)->Option (Nat×V)
 | []=>none
 | p::r=>if Pv.beq k p.1 then some (0,p.2)else(Cb k r).map fun q=>(q.1+1,q.2)
theorem NI {V:Type}(k:Pv):∀a:List (Pv×V),zh k a=(Cb k a).map (·.2)
 | []=>rfl
 | p::r=>by
  unfold zh Cb;split
  ·rfl
  ·rw[NI k r];cases Cb k r<;>rfl
theorem afz {V:Type}{k:Pv}:∀{b:List (Pv×V)} {q:Nat×V},Cb k b=some q->∃p∈b,p.2=q.2
 | [],q,a=>by cases a
 | p::r,q,a=>by
  unfold Cb at a;split at a
  ·grind
  ·cases c:Cb k r with
   | none=>grind
   | some f=>
    rw[c]at a;injection a with a
    subst a;obtain⟨e,d,g⟩:=afz c
    grind
theorem Wu {V:Type}{f:V->Value}{d:TypeDesc}{k:Pv}(c:MapKept.IsKey d k.val):∀(b:List MapEntry) (a:List (Pv×V)) (i:Nat),b.map (fun e=>(e.key,e.val))=a.map (fun p=>(p.1.val,f p.2))->(∀p∈a,MapKept.IsKey d p.1.val)->
  Instr.findNow d k.val b i=some ((Cb k a).map fun q=>(i+q.1,f q.2))
 | [],[],_,_,_=>rfl
 | e::b,p::a,i,h,g=>by
  simp only[Qp,Qdk,Qbk]at h;unfold Instr.findNow Cb;rw[h.1.1,axM c (g p jQ)];cases l:Pv.beq k p.1 with
  | true=>simp[h.1.2]
  | false=>
   simp only[Wu c b a (i+1) h.2 fun q j=>g q (by simp[j])];cases Cb k a with
   | none=>simp
   | some q=>simp;omega
 | [],_::_,_,h,_=>by simp at h
 | _::_,[],_,h,_=>by simp at h
theorem NE {V:Type}{k:Pv}{v:V}:∀{a:List (Pv×V)},Cb k a=none->KE k v a=a++[(k,v)]
 | [],_=>rfl
 | p::r,h=>by
  unfold Cb at h;unfold KE;split at h
  ·cases h
  ·rename_i b;rw[uU b,NE qa4];rfl
theorem YM {V:Type}{k:Pv}{v:V}:∀{a:List (Pv×V)} {j:Nat} {u:V},Cb k a=some (j,u)->∃p,a[j]? =some p/\p.1=k/\KE k v a=a.set j (k,v)
 | [],_,_,h=>by cases h
 | p::r,j,u,h=>by
  unfold Cb at h;unfold KE;split at h
  ·grind [Pv.beq_eq]
  ·rename_i e;cases b:Cb k r with
   | none=>grind
   | some q=>
    rw[b]at h;simp only[Qbm,XM,Qbk]at h;obtain⟨rfl,rfl⟩:=h;obtain⟨d,c,f,g⟩:=YM (v:=v) (j:=q.1) (u:=q.2) b
    grind
theorem ae7 {x:Sl D}{p:Pv}{v:Value}{M:Nat->Prop}{g:Nat->Option Value}(h:azW x=some p)(a:x.Rel S M w g v):v=p.val/\p.fits:=by
 unfold azW at h;split at h
 ·exact aif h a
 ·cases h
theorem aoa {b:Bool}{x:Sl D}{c:List Pv}{v:Value}{M:Nat->Prop}{g:Nat->Option Value}(h:asY b x=some c)(f:x.Rel S M w g v):v=qH b c/\∀p∈c,p.fits:=by
 unfold asY at h;split at h
 ·split at h
  ·cases h
  ·rename_i a;have a:b=false:=by simpa using a
   subst a;split at h
   ·rename_i p j;injection h with h
    subst h;obtain⟨d,e⟩:=aif j f;exact⟨d,fun x l=>by grind⟩
   ·cases h
 ·split at h
  ·rename_i a;subst a;obtain⟨k,rfl,i⟩:=f;obtain⟨d,e⟩:=alC h i;exact⟨by rw[d];rfl,e⟩
  ·cases h
 ·cases h
theorem Yh {t:TypeId}{a:Ty}{k v:TypeId}(h:TyOk P t a)(c:a.mp=some (k,v))(b:a.kind=0):P.underlying t=some (.map k v):=by
 obtain⟨i,d,z,lt,_,e,_,rfl⟩:=kY h;dsimp only at c b;cases d<;>simp[akN,kindOf]at c b
 grind
theorem ap3 {t:TypeId}{a:Ty}{k v:TypeId}(h:TyOk P t a)(c:a.mp=some (k,v))(b:a.kind=6):P.underlying t=some (.pointer k):=by
 obtain⟨i,d,z,lt,_,e,_,rfl⟩:=kY h;dsimp only at c b;cases d<;>simp[akN,kindOf]at c b
 grind
theorem Pv.Xx {p:Pv}{M:Nat->Prop}{g:Nat->Option Value}(a:p.fits):(Pv.lf (D:=D) p).Rel S M w g p.val:=by
 cases p with
 | bool b=>rfl
 | int k n=>rfl
 | str s=>exact⟨rfl,a⟩
theorem Pv.anc {M:Nat->Prop}{g:Nat->Option Value}:∀{a:List Pv},(∀p∈a,p.fits)->aW S M w g (a.map (Pv.lf (D:=D))) (a.map Pv.val)
 | [],_=>trivial
 | p::a,h=>⟨Pv.Xx (h p jQ),Pv.anc fun q b=>h q (by simp[b])⟩
theorem axN {p:Pv}{v:Value}(h:aFp p v=true):v=p.val/\p.fits:=by
 unfold aFp at h;split at h
 ·simp at h;subst h;exact⟨rfl,trivial⟩
 ·simp only[kEq,iZ,Qbw]at h;obtain⟨rfl,rfl⟩:=h;exact⟨rfl,trivial⟩
 ·rename_i s u;simp only[iZ,List.isEmpty_iff]at h;obtain⟨rfl,a⟩:=h;have a:=Qa a;have:u.data= #[]:=Array.eq_empty_of_size_eq_zero a;refine⟨?_,by simp[Pv.fits]⟩;show Value.string u=Value.string ⟨#[]⟩
  rw[<-this]
 ·cases h
theorem ZZ:∀{a:List Pv} {b:List Value},ace a b=true->b=a.map Pv.val/\∀p∈a,p.fits
 | [],[],_=>⟨rfl,fun p c=>by simp at c⟩
 | p::a,v::b,h=>by
  simp only[ace,iZ]at h;obtain⟨f,e⟩:=axN h.1;obtain⟨d,g⟩:=ZZ h.2
  grind
 | [],_::_,h=>by cases h
 | _::_,[],h=>by cases h
theorem UL:∀{a b:List Pv},QW a b=true->a.map Pv.kind=b.map Pv.kind
 | [],[],_=>rfl
 | p::a,q::b,h=>by
  simp only[QW,iZ]at h;simp[Qa h.1,UL h.2]
 | [],_::_,h=>by cases h
 | _::_,[],h=>by cases h
theorem aDC (f:ShOk S)(h:Hp S w0 N blk g al w){t:TypeId}{x:Sl D}{v:Value}{m:Mp D}(a:mapOf S blk t x=some m)(e:x.Rel S (aS N blk g) w g v):aA5 S m/\awM w m.agg m.kvs v:=by
 unfold mapOf at a;split at a
 ·rename_i l;have e:g l=some v:=e;split at a
  ·rename_i d j;obtain⟨z,b,k,r,o,n,c,q,rfl,_,A,u⟩:=h.bY l _ j;rw[a]at c;injection c with c
   subst c;rw[e]at b;injection b with b
   exact⟨(f.x8 _ _ a).2.2,q, .inr ⟨r,o,n,b,A,u⟩⟩
  ·rename_i d j;obtain⟨z,b,i⟩:=h.bY l _ j;rw[e]at b;injection b with b
   subst b;exact⟨(f.x8 _ _ a).2.2,bW.map i a⟩
  ·cases a
 ·exact⟨(f.x8 _ _ a).2.2,bW.map e a⟩
 ·split at a
  ·rename_i d i;obtain⟨k,c,y⟩:=f.axq _ _ i;rw[a]at c;injection c with c
   subst c;refine⟨(f.x8 _ _ a).2.2,?_⟩;rw[y];exact⟨fun p s=>by simp at s, .inl ⟨e,rfl⟩⟩
  ·cases a
 ·cases a
theorem aar {t:TypeId}{x U:Operand}{C:Bool}(hS:ShOk S)(ho:o.op= .lookup t x U C)(I:∀t ty,T t=some ty->TyOk P t ty)(h:Hp S w0 N blk g al w)(hx:(aP slot x).Rel S (aS N blk g) w g (a.eval x))
  (hi:(aP slot U).Rel S (aS N blk g) w g (a.eval U)) (b:acv T S blk t (aP slot x) (aP slot U) C=some out) (hK:Post S w0 N blk g al w fr out o.dst a K):o.wp P a w K Q:=by
 unfold acv at b;split at b
 ·cases b
 rename_i ty hty;split at b
 ·cases b
 rename_i R vt hmp;split at b
 ·rename_i tk tv htk htv;split at b
  ·rename_i m k hmo hk;split at b
   ·rename_i hc;simp only[iZ,Qbw]at hc;obtain⟨⟨c0,c1⟩,c2,W,c4⟩:=hc;have yh:=Yh (I _ _ hty) hmp (Qa c0);obtain⟨d,hd,aa⟩:=mV (I _ _ htk);have M:=aa0 (t:=R) (ty:=tk) aa c1;obtain⟨ab,hkf⟩:=ae7 hk hi;obtain⟨J,hfits,hmap⟩:=aDC hS h hmo hx;have c2':=Qa c2;have ad:∀p∈m.kvs,MapKept.IsKey d p.1.val:=fun p i=>aa0 (t:=R) (ty:=tk) aa (by rw[J.keys p i];exact c2)
    have Z:k.kind=m.kind:=by simp_all
    have E:=J.has k Z;have j:=J.get k Z;obtain⟨z,hz,hzc,G⟩:=asZ (I _ _ htv) w;obtain⟨H,z2⟩:=ZZ c4;have hzv:∀p,m.get k=m.zero.map Pv.lf->(m.agg=true\/m.zero=[p])->z=qH m.agg m.zero:=by
     intro p _ i;rw[<-hzc]at H;cases l:m.agg with
     | true=>
      rw[l]at W;rw[<-W]at G;cases z<;>first | (simp[En]at G;done) | skip
      rename_i cs;simp only[Value.cells]at H;show Value.agg cs=Value.agg (m.zero.map Pv.val).toArray
      rw[<-H]
     | false=>
      rw[l]at W i;rw[<-W]at G;have i:=i.resolve_left jQ;rw[i]at H⊢;cases z<;>first | (simp[En]at G;done) | (simp[Value.cells]at H;exact H)
    have run:∀(f:List Pv),(zh k m.kvs).getD m.zero=f->(m.agg=true\/∃p,f=[p])->(Instr.lookup t (a.eval x) (a.eval U) C).run P w= .ok (if C then .tuple #[qH m.agg f, .bool (m.has k)]else qH m.agg f) w/\∀p∈f,p.fits:=by
     intro f c i;have L:∀(A:Array MapEntry),A.toList.map (fun e=>(e.key,e.val))=m.kvs.map (fun p=>(p.1.val,qH m.agg p.2))->((do
       Instr.checkKey A.isEmpty 10000 R k.val
       let (v,ok')<-match<-Instr.findKey R k.val A.toList with
        | some (_,v)=>pure (v,true)
        | none=>pure (<-zeroValue vt,false)
       pure (if C then .tuple #[v, .bool ok']else v)):Sem Value).run P w= .ok (if C then .tuple #[qH m.agg f, .bool (m.has k)]else qH m.agg f) w:=by
      intro A he;have hf:(Instr.findKey R k.val A.toList).run P w= .ok ((Cb k m.kvs).map fun q=>(0+q.1,qH m.agg q.2)) w:=MapKept.run_findKey hd (Wu M A.toList m.kvs 0 he ad);have hck:=MapKept.run_checkKey (P:=P) (w:=w) hd M A.isEmpty 9999;rw[NI]at E c j;cases X:Cb k m.kvs with
      | some q=>
       simp_all
      | none=>
       rw[X]at hf E c j;simp only[Qb4,Option.getD_none,Option.isSome_none]at c E j;have hzz:z=qH m.agg m.zero:=by
        rcases i with i | ⟨p,i⟩
        ·exact hzv (.bool false) j (.inl i)
        grind
       simp_all
     refine⟨?_,?_⟩
     ·rcases hmap with⟨hv,hnil⟩ | ⟨r,A,n,hv,hh,he⟩
      ·have V:=L #[] (by rw[hnil];rfl);rw[<-V,hv,ab];simp[Instr.lookup,run_underlying yh];rfl
      ·have V:=L A he;rw[<-V,hv,ab];simp[Instr.lookup,run_underlying yh,MapKept.run_getObj_map hh];rfl
     ·rw[NI]at c;cases X:Cb k m.kvs with
      | some q=>
       rw[X]at c;obtain⟨p,h1,V⟩:=afz X
       grind
      | none=>
       grind
    have Y:∀(y:Sv D) (f:List Pv),(zh k m.kvs).getD m.zero=f->(m.agg=true\/∃p,f=[p])->((∀p∈f,p.fits)->y.Rel S (aS N blk g) w g (qH m.agg f))->
      (if C then some (⟨none, .Dh [y, .lf (.bool (m.has k))],[]⟩:Out D)else some ⟨none, .one y,[]⟩)=some out->o.wp P a w K Q:=by
     intro y f c i hy s;obtain⟨u,B⟩:=run f c i;have ac:=hy B;split at s
     ·rename_i O;injection s with s
      subst s;rw[vJ O]at u;refine aY (v:= .tuple #[qH m.agg f, .bool (m.has k)]) ?_ h hK rfl ⟨[_,_],rfl,ac,rfl,trivial⟩;simp[execOp,ho,u]
     ·rename_i O;injection s with s
      subst s;rw[uU O]at u;refine aY (v:=qH m.agg f) ?_ h hK rfl ac;simp[execOp,ho,u]
    split at b
    ·rename_i l;refine Y (.agg (m.get k)) _ rfl (.inl l) (fun B=> ?_) b;rw[l,j];exact⟨_,rfl,Pv.anc B⟩
    ·rename_i y l F;rw[j]at F;have c:∃p,(zh k m.kvs).getD m.zero=[p]:=by
      cases hl:(zh k m.kvs).getD m.zero with
      | nil=>grind
      | cons p r=>
       rw[hl]at F;cases r with
       | nil=>grind
       | cons q r=>simp at F
     obtain⟨p,c⟩:=c;rw[c]at F;have hye:y=Pv.lf p:=by grind
     subst hye;refine Y (.lf (Pv.lf p)) [p] c (.inr ⟨p,rfl⟩) (fun B=> ?_) b;rw[l];exact Pv.Xx (B p jQ)
    ·cases b
   ·cases b
  ·cases b
 ·cases b
theorem KJ {t:TypeId}{x I y:Operand}(hS:ShOk S)(J:o.op= .mapUpdate t x I y\/o.op= .insert t x I y)(L:∀t ty,T t=some ty->TyOk P t ty)(h:Hp S w0 N blk g al w)(H:(aP slot x).Rel S (aS N blk g) w g (a.eval x))
  (hi:(aP slot I).Rel S (aS N blk g) w g (a.eval I)) (hy:(aP slot y).Rel S (aS N blk g) w g (a.eval y)) (b:Ri T S blk t (aP slot x) (aP slot I) (aP slot y)=some out) (hK:Post S w0 N blk g al w fr out o.dst a K):o.wp P a w K Q:=by
 unfold Ri at b;split at b
 ·cases b
 rename_i ty hty;split at b
 ·cases b
 rename_i kt vt ab;split at b
 rotate_left
 ·cases b
 rename_i tk htk;split at b
 rotate_left
 ·cases b
 rename_i l k hex hk;rw[hex]at H;have H:g l=some (a.eval x):=H;split at b
 rotate_left
 ·cases b
 rename_i d0 hb;split at b
 rotate_left
 ·cases b
 rename_i m O;split at b
 rotate_left
 ·cases b
 rename_i u hu;split at b
 rotate_left
 ·cases b
 rename_i hc;injection b with b
 subst b;simp only[iZ]at hc;obtain⟨⟨c0,c1⟩,c2,c3⟩:=hc;have yh:=Yh (L _ _ hty) ab (Qa c0);obtain⟨d,hd,U⟩:=mV (L _ _ htk);have B:=aa0 (t:=kt) (ty:=tk) U c1;have M:=(hS.x8 _ _ O).2.2;have Z:∀p∈m.kvs,MapKept.IsKey d p.1.val:=fun p hp=>aa0 (t:=kt) (ty:=tk) U (by rw[M.keys p hp];exact c2)
 have F:k.kind=m.kind:=by simp_all
 obtain⟨m',aa,aIj,aJI⟩:=M.put k u F (UL c3);obtain⟨aBg,hkf⟩:=ae7 hk hi;obtain⟨huv,huf⟩:=aoa hu hy;obtain⟨v',f,m2,r,c,n,C,hf,rfl,MC,E,G⟩:=h.bY l _ hb;rw[O]at C;injection C with C
 subst C;rw[H]at f;injection f with f
 have z:=MapKept.run_findKey (P:=P) (w:=w) hd (Wu B c.toList m.kvs 0 G Z);have V:=MapKept.run_checkKey (P:=P) (w:=w) hd B false 9999;have R:∀(s:Array MapEntry) (D:Nat),(Instr.mapUpdate t (.map (some r)) k.val (qH m.agg u)).run P w= .ok () {w with heap:=w.heap.setIfInBounds r (.map s D)}->s.toList.map (fun e=>(e.key,e.val))=(KE k u m.kvs).map (fun p=>(p.1.val,qH m.agg p.2))->(∀p∈KE k u m.kvs,p.1.fits/\∀x∈p.2,x.fits)->o.wp P a w K Q:=by
  intro s D Y he' hf';obtain⟨q1,q2⟩:=MapKept.heap_set (o':=Obj.map s D) E;obtain⟨W,hk'⟩:=h.write (w':={w with heap:=w.heap.setIfInBounds r (.map s D)}) (bk':= .map (m.put k u)) hb rfl rfl H (by rw[f];rfl) rfl rfl rfl jQ (fun m hm=>q2 m hm)
   (fun _=>⟨m',r,s,D,aa,by rw[aIj];exact hf',f,MC,q1,by grind⟩)
  refine J_ ?_ (hK _ _ _ (More.refl _) hk' (W.weaken fun _ h=> .inl h) trivial);rcases J with J | J<;>simp[execOp,J,f,aBg,huv,Y]
 cases A:Cb k m.kvs with
 | none=>
  rw[A]at z;refine R (c.push {key:=k.val,val:=qH m.agg u,born:=n}) (n+1) ?_ ?_ ?_
  ·simp only[Qb4]at z;simp[Instr.mapUpdate,run_underlying yh,MapKept.run_getObj_map E,V,z,MapKept.run_setObj_map _ E]
  ·rw[NE A];simp[G]
  ·rw[NE A];intro p hp
   grind
 | some q=>
  rw[A]at z;obtain⟨p,hp1,hp2,X⟩:=YM (v:=u) (j:=q.1) (u:=q.2) A;have hlen:c.toList.length=m.kvs.length:=by have:=II List.length G;grind
  have hql:q.1 < c.size:=by
   grind
  have hej:c[q.1]? =some c[q.1]:=Array.getElem?_eq_getElem hql;have F:c[q.1].key=k.val:=by
   have h1:(c.toList.map (fun e=>(e.key,e.val)))[q.1]? =(m.kvs.map fun p=>(p.1.val,qH m.agg p.2))[q.1]? :=by rw[G]
   grind
  refine R (c.modify q.1 fun e=>{e with key:=k.val,val:=qH m.agg u}) n ?_ ?_ ?_
  ·simp only[Qbm,Bc]at z;simp[Instr.mapUpdate,run_underlying yh,MapKept.run_getObj_map E,V,z,hej,F,MapKept.run_keyThatStays B,MapKept.run_setObj_map _ E]
  ·rw[X];refine List.ext_getElem? fun i=> ?_;have h1:(c.toList.map (fun e=>(e.key,e.val)))[i]? =(m.kvs.map fun p=>(p.1.val,qH m.agg p.2))[i]? :=by rw[G]
   grind
  ·rw[X];intro p' W
   grind
theorem ajO (a:List Int):∀(b:ByteArray),a.foldl (fun r n=>r.push (UInt8.ofNat n.toNat)) b=⟨(b.data.toList++a.map fun n=>UInt8.ofNat n.toNat).toArray⟩:=by
 induction a with
 | nil=>intro b;simp
 | cons n a c=>
  simp_all
theorem acg {f:Nat->Bool}:∀{n:Nat},BQ f n=true->∀i,i < n->f i=true
 | 0,_,i,a=>by omega
 | n+1,h,i,a=>by
  simp only[BQ,iZ]at h;by_cases e:i=n
  ·grind
  ·exact acg h.2 i aj
theorem aeD {d:D}{n:Nat}(h:Ll S d n=true)(i:Nat)(a:i < n):∃k,S.cell d i 0= .int .u8 k:=by
 have:=acg h i a;unfold aGs at this
 grind
theorem aoN {d:D}{n:Nat}(h:acj S d n=true)(i:Nat)(a:i < n):∃k,S.cell d i 0= .int .u8 k/\0<=k/\k < 256:=by
 have:=acg h i a;unfold aqW at this
 grind
theorem YT {f g:Nat->Bool}(h:∀i,f i=true->g i=true):∀{n:Nat},BQ f n=true->BQ g n=true
 | 0,_=>rfl
 | n+1,a=>by
  simp only[BQ,iZ]at a⊢;exact⟨h n a.1,YT h a.2⟩
theorem ajt {d:D}{n:Nat}(h:acj S d n=true):Ll S d n=true:=
 YT (fun i a=>by
  unfold aqW at a;split at a
  ·rename_i k b;rw[b];rfl
  ·cases a) h
theorem U5 {d:D}{a:List Value}{M:Nat->Prop}{g:Nat->Option Value}(h:S.size d=1)(q:Ll S d (S.len d)=true)(o:a.length=S.len d*S.size d)
  (p:∀i j,i < S.len d->j < S.size d->∃u,a[i*S.size d+j]? =some u/\(S.cell d i j).Rel S M w g u):∃f:List Int,a=f.map (Value.int .u8)/\f.map (fun n=>UInt8.ofNat n.toNat)=bytesOf S d:=by
 rw[h,Qd3]at o;have l:∀i,i < S.len d->∃k,S.cell d i 0= .int .u8 k/\a[i]? =some (.int .u8 k):=fun i b=>by
  obtain⟨k,c⟩:=aeD q i b;obtain⟨u,m,e⟩:=p i 0 b aj;rw[c]at e;rw[h,Qd3,XE]at m;have e:u= .int .u8 k:=e
  grind
 refine⟨(List.range (S.len d)).map fun i=>match S.cell d i 0 with
  | .int .u8 n=>n
  | _=>0,?_,?_⟩
 ·refine List.ext_getElem? fun i=> ?_
  grind
 ·unfold bytesOf;rw[Qc5];refine Qbl fun i b=> ?_;obtain⟨k,c,_⟩:=l i (Qcd.1 b);simp[c,aG1]
theorem akk {t j:TypeId}{x:Operand}(hS:ShOk S)(M:o.op= .convert t j x)(p:∀t R,T t=some R->TyOk P t R)(h:Hp S w0 N blk g al w)(f:(aP slot x).Rel S (aS N blk g) w g (a.eval x))
  (b:ar_ T S blk t j (aP slot x)=some out) (F:lG out.pre) (hK:Post S w0 N blk g al w fr out o.dst a K):o.wp P a w K Q:=by
 unfold ar_ at b;split at b
 ·rename_i ts td hts htd;split at b
  ·cases b
  rename_i e V;split at b
  ·cases b
  rename_i te Z;have C:=lZ (p _ _ hts) V;split at b
  ·rename_i A;simp only[iZ]at A;obtain⟨H,G,c3⟩:=A;have H:=Qa H;have G:=Qa G;obtain⟨dd,m,s⟩:=mV (p _ _ htd);obtain⟨de,n,q⟩:=mV (p _ _ Z);have m:P.underlying j=some .string:=by
    rw[H]at s;cases dd<;>simp[kindOf]at s<;>first | exact m | (rename_i k;cases k<;>simp[rD]at s)
   have n:P.underlying e=some (.int .u8):=by
    rw[G]at q;cases de<;>simp[kindOf]at q<;>(rename_i k;cases k<;>simp[rD]at q;exact n)
   split at b
   ·rename_i i;rw[i]at f;have f:a.eval x= .slice none 0 0:=f;injection b with b
    subst b;refine aY (v:= .string ⟨#[]⟩) ?_ h hK rfl ⟨rfl,by simp⟩;simp only[execOp,M,f,Sem.run_bind,run_convert_bytes_string w t j e none 0 0 C n m];rfl
   ·split at b
    ·rename_i d c;split at b
     ·rename_i A;have hs:=Qa A;injection b with b
      subst b;obtain⟨D,r,E,hv,O,hmem,B,hone,z⟩:=H8 hS h f c aj;obtain⟨ns,W,U⟩:=U5 hs F O z;have hlen:(bytesOf S d).length=S.len d:=by simp[bytesOf]
      have hle:S.len d<=9223372036854775807:=by
       unfold Y6 at c;split at c
       ·rename_i X i;injection c with c
        subst c;rw[i]at f;exact bW.aks f
       ·rename_i l i;rw[i]at f;have f:g l=some (a.eval x):=f;split at c
        ·rename_i e' X y;injection c with c
         subst c;obtain⟨_,_,J,_⟩:=h.bY l _ y;exact J.2.1
        ·rename_i X y;injection c with c
         subst c;obtain⟨_,_,J⟩:=h.bY l _ y;exact bW.aks J
        ·cases c
       ·cases c
      refine aY (v:= .string ⟨(bytesOf S d).toArray⟩) ?_ h hK rfl ⟨rfl,by omega⟩;have L:=run_convert_bytes_string w t j e D (S.len d) r C n m;have y:(Conv.bytesToString (.slice D (S.len d) r)).run P w= .ok (.string ⟨(bytesOf S d).toArray⟩) w:=by
       cases D with
       | none=>
        have h0:=B rfl;have:bytesOf S d=[]:=Qan aj;rw[this];rfl
       | some I=>
        have Y:(loadCells I (S.len d)).run P w= .ok (ns.map (Value.int .u8)).toArray w:=by
         have:=run_loadCells (P:=P) (w:=w) I E 0 #[] (fun k u hk=>by grind);rw[O,hs,Qd3]at this;simpa[loadCells,W]using this
        rw[run_bytesToString w I (S.len d) r ns Y,ajO,U];simp
      simp only[execOp,M,hv,Sem.run_bind,L,y,Result.andThen_ok,Sem.run_pure]
     ·cases b
    ·cases b
  ·cases b
 ·cases b
theorem ate {x:Lf D}{p:Dl D}{v:Value}{M:Nat->Prop}{g:Nat->Option Value}(h:x.dl=some p)(a:x.Rel S M w g v):p.Rel S M w v:=by
 unfold Lf.dl at h;split at h<;>first | (injection h with h;subst h;exact a) | cases h
theorem amc {M:Nat->Prop}{g:Nat->Option Value}:∀{c:List (Lf D)} {a:List (Dl D)} {b:List Value},dls c=some a->aW S M w g c b->ul S M w a b
 | [],a,[],h,_=>by simp[dls]at h;subst h;trivial
 | x::c,a,v::b,h,d=>by
  unfold dls at h;split at h
  ·rename_i p i e f;injection h with h
   subst h;exact⟨ate e d.1,amc f d.2⟩
  ·cases h
theorem Yj {M:Nat->Prop}{g:Nat->Option Value}{x:Sl D}{f:Bool}{e:List (Dl D)}{v:Value}(h:amC x=some (f,e))(a:x.Rel S M w g v):Ou S M w f e v:=by
 unfold amC at h;split at h
 ·split at h
  ·rename_i p c;injection h with h
   injection h with b d
   subst b d;exact ate c a
  ·cases h
 ·split at h
  ·rename_i k c;injection h with h
   injection h with b d
   subst b d;obtain⟨i,j,a⟩:=a;exact⟨i,j,amc c a⟩
  ·cases h
 ·cases h
theorem Dl.Xx {M:Nat->Prop}{g:Nat->Option Value}{p:Dl D}{v:Value}(h:p.Rel S M w v):p.lf.Rel S M w g v:=by
 cases p<;>exact h
theorem aqP {M:Nat->Prop}{g:Nat->Option Value}:∀{a:List (Dl D)} {b:List Value},ul S M w a b->aW S M w g (a.map Dl.lf) b
 | [],[],_=>trivial
 | p::a,v::b,h=>⟨Dl.Xx h.1,aqP h.2⟩
theorem ad7 {M:Nat->Prop}{g:Nat->Option Value}{c:Bool}{b:List (Dl D)}{x:Sl D}{v:Value}(h:aAJ c b=some x)(a:Ou S M w c b v):x.Rel S M w g v:=by
 unfold aAJ at h;split at h
 ·injection h with h
  subst h;exact Dl.Xx a
 ·injection h with h
  subst h;obtain⟨d,e,a⟩:=a;exact⟨d,e,aqP a⟩
 ·cases h
theorem ap5 {t:TypeId}{x:Operand}(l:o.op= .makeInterface t x)(j:∀t c,T t=some c->TyOk P t c)(h:Hp S w0 N blk g al w)(m:(aP slot x).Rel S (aS N blk g) w g (a.eval x))
  (b:aFx T t (aP slot x)=some out) (n:Post S w0 N blk g al w fr out o.dst a K):o.wp P a w K Q:=by
 unfold aFx at b;split at b
 ·cases b
 ·rename_i c i;split at b
  ·cases b
  ·rename_i d;have d:c.kind≠0:=fun e=>d qb0
   have f:=run_makeInterface (P:=P) w t (a.eval x) (OQ (j _ _ i) d);split at b
   ·rename_i q p k;injection b with b
    subst b;refine aY (v:= .iface t (a.eval x)) ?_ h n rfl ⟨_,rfl,Yj k m⟩;simp[execOp,l,f]
   ·cases b
theorem Um {P:Program}{t:TypeId}{e:Ty}{z:Sv D}{M:Nat->Prop}{g:Nat->Option Value}(h:TyOk P t e)(a:aaQ e=some z)(w:World):∃u,(zeroValue t).run P w= .ok u w/\z.Rel S M w g u:=by
 obtain⟨u,i,f,d⟩:=asZ h w;refine⟨u,i,?_⟩;unfold aaQ at a;split at a
 ·split at a
  ·rename_i b;injection a with a
   subst a;rw[b]at d;cases u<;>simp[En]at d
   rename_i cs;refine⟨cs.toList,by simp,?_⟩;have:cs.toList=e.zero:=by rw[<-f];rfl
   rw[this];exact ug _
  ·cases a
 ·split at a
  ·rename_i j c;split at a
   ·cases a
   ·rename_i b;injection a with a
    subst a;have b:e.zag=false:=by simpa using b
    rw[b]at d;rw[<-f]at c;have:u=j:=by cases u<;>first | (simp[Value.cells]at c;exact c) | (simp[En]at d)
    subst this;exact Ec _
  ·cases a
theorem XW {t R:TypeId}{x:Operand}{H:Bool}(s:o.op= .typeAssert x R t H)(l:∀t A,T t=some A->TyOk P t A)(h:Hp S w0 N blk g al w)(B:(aP slot x).Rel S (aS N blk g) w g (a.eval x))
  (b:TJ T t (aP slot x) H=some out) (C:Post S w0 N blk g al w fr out o.dst a K):o.wp P a w K Q:=by
 unfold TJ at b;split at b
 ·cases b
 rename_i A m;split at b
 ·cases b
 rename_i F;have F:A.kind≠0:=fun e=>F qb0
 have i:=OQ (l _ _ m) F;unfold Program.concrete at i;split at b
 ·rename_i G L O k;rw[k]at B;obtain⟨u,q,I⟩:∃u,a.eval x= .iface G u/\Ou S (aS N blk g) w L O u:=B;split at b
  ·rename_i y J;have D:y.Rel S (aS N blk g) w g u:=ad7 (x:= .one y) J I;cases f:P.underlying t with
   | none=>grind
   | some d=>
    rw[f]at i;split at b
    ·split at b
     ·rename_i c;have c:=Qa c;subst c;injection b with b
      subst b;refine aY (v:= .tuple #[u, .bool true]) ?_ h C rfl ⟨[u, .bool true],rfl,D,rfl,trivial⟩;cases d<;>first | (cases i;done) | simp[execOp,s,Instr.typeAssert,run_underlying f,q]
     ·rename_i n;have n:¬G=t:=fun e=>n (by rw[e];simp)
      split at b
      ·rename_i z E;injection b with b
       subst b;obtain⟨r,j,p⟩:=Um (S:=S) (M:=aS N blk g) (g:=g) (l _ _ m) E w;refine aY (v:= .tuple #[r, .bool false]) ?_ h C rfl ⟨[r, .bool false],rfl,p,rfl,trivial⟩;cases d<;>first | (cases i;done) | simp[execOp,s,Instr.typeAssert,run_underlying f,q,n,j]
      ·cases b
    ·split at b
     ·rename_i c;have c:=Qa c;subst c;injection b with b
      subst b;refine aY (v:=u) ?_ h C rfl D;cases d<;>first | (cases i;done) | simp[execOp,s,Instr.typeAssert,run_underlying f,q]
     ·cases b
  ·cases b
 ·rename_i v k;split at b
  ·split at b
   ·rw[k]at B;have q:a.eval x= .nilIface:=B.1;split at b
    ·split at b
     ·rename_i z E;injection b with b
      subst b;obtain⟨r,j,p⟩:=Um (S:=S) (M:=aS N blk g) (g:=g) (l _ _ m) E w;cases f:P.underlying t with
      | none=>grind
      | some d=>
       rw[f]at i;refine aY (v:= .tuple #[r, .bool false]) ?_ h C rfl ⟨[r, .bool false],rfl,p,rfl,trivial⟩;cases d<;>first | (cases i;done) | simp[execOp,s,Instr.typeAssert,run_underlying f,q,j]
     ·cases b
    ·cases b
   ·cases b
  ·cases b
 ·cases b
theorem aoL {f:FuncId}{first caps:Array Operand}{x:Operand}(c:o.op= .makeFunc (.func f) first caps)(l:first.toList=[x])(p:caps.toList=[])(h:Hp S w0 N blk g al w)(j:(aP slot x).Rel S (aS N blk g) w g (a.eval x))
  (b:aEB f (aP slot x)=some out) (k:Post S w0 N blk g al w fr out o.dst a K):o.wp P a w K Q:=by
 unfold aEB at b;split at b
 ·rename_i n m d;injection b with b
  subst b;have e:first= #[x]:=by grind
  have i:caps= #[]:=by grind
  refine aY (v:= .func (.func f) #[a.eval x] #[]) ?_ h k rfl ⟨_,rfl,Yj d j⟩;simp[execOp,c,Instr.makeFunc,e,i]
 ·cases b
theorem aiN {op:BinOp}{t E:TypeId}{x y:Operand}(s:o.op= .binOp op t x y E)(r:∀t l,T t=some l->TyOk P t l)(h:Hp S w0 N blk g al w)(c:(aP slot x).Rel S (aS N blk g) w g (a.eval x))
  (f:(aP slot y).Rel S (aS N blk g) w g (a.eval y)) (b:aq7 T S op t (aP slot x) (aP slot y)=some out) (A:Post S w0 N blk g al w fr out o.dst a K):o.wp P a w K Q:=by
 unfold aq7 at b;split at b
 ·cases b
 rename_i l z;split at b
 ·split at b
  ·rename_i e d C q B;split at b
   ·rename_i n;simp only[iZ,Qcp]at n;have j:=lZ (r _ _ z) C;rw[q]at c;rw[B]at f;have c:bW S (aS N blk g) w d (a.eval x):=c;have f:a.eval y= .slice none 0 0:=f;obtain⟨F,i,m,D⟩:=bW.slice c aj;rw[m]at c;obtain⟨p,rfl⟩:=bW.AZ c n.1 n.2;have k:=fun w=>jZ (P:=P) (w:=w) (op:=op) (t:=t) (x:=x) (y:=y) (u:= .slice (some p) (S.len d) i) (v:= .slice none 0 0) rfl jQ
    split at b
    ·injection b with b;subst b
     refine aY (v:= .bool false) ?_ h A rfl rfl;simp[execOp,s,m,f,k,Lib.run_eql_slice_nil w t e (some p) (S.len d) i 0 0 j]
    ·injection b with b;subst b
     refine aY (v:= .bool true) ?_ h A rfl rfl;simp[execOp,s,m,f,k,run_neq_slice_nil_any w t e (some p) (S.len d) i 0 0 j]
    ·cases b
   ·cases b
  ·cases b
 ·cases b
theorem XO {c:Call}{x y:Operand}(J:o.op= .call c)(R:c.callee= .builtin .append)(W:c.args.toList=[x,y])(r:∀t u,T t=some u->TyOk P t u)(h:Hp S w0 N blk g al w)
  (k:(aP slot x).Rel S (aS N blk g) w g (a.eval x)) (p:(aP slot y).Rel S (aS N blk g) w g (a.eval y)) (f:WM T S blk c.argTypes (aP slot x) (aP slot y)=some out) (V:Post S w0 N blk g al w fr out o.dst a K):o.wp P a w K Q:=by
 have q:c.args= #[x,y]:=by grind
 unfold WM at f;split at f
 ·rename_i t t' aa I;split at f
  ·rename_i s;have s:=Qa s;subst s;have A:c.argTypes= #[t,t]:=by grind
   rw[I]at p;have p:a.eval y= .slice none 0 0:=p;split at f
   ·cases f
   rename_i u B;split at f
   ·cases f
   rename_i e E;split at f
   ·cases f
   rename_i te F;have C:=lZ (r _ _ B) E;obtain⟨i,z,O,hz,q1,q2,q3⟩:=Gj (r _ _ F);have D:∀(b:Option Addr) (n m:Nat),a.eval x= .slice b n m->n<=m->(execOp a.eval o).run P w= .ok (.value (a.eval x)) w:=by
    intro b n m H G;have:(Builtin.append_ #[t,t] o.type #[.slice b n m, .slice none 0 0]).run P w= .ok (.slice b n m) w:=by
     cases b<;>simp[Builtin.append_,run_underlying C,sizeOf,typeInfo,O,Builtin.lenOf,Builtin.firstCells,G,storeCells]
    simp only[execOp,J,resolve,R,invoke,builtin,q,A,Sem.run_bind,Sem.run_pure,Result.andThen_ok,Qcb,Qp,Qcu,H,p,this]
   split at f
   ·rename_i j;rw[j]at k;injection f with f
    subst f;exact aY (v:=a.eval x) (D none 0 0 k (pJ _)) h V rfl k
   ·rename_i d j;rw[j]at k;split at f
    ·rename_i Y;injection f with f
     subst f;obtain⟨av,Z,H,L⟩:=bW.slice k qbx
     grind [aY]
    ·cases f
   ·rename_i l j;rw[j]at k;split at f
    ·rename_i e' d M;injection f with f
     subst f;have k:g l=some (a.eval x):=k;obtain⟨v,X,_,xs,⟨_,U⟩,_⟩:=h.bY l _ M
     grind [aY]
    ·cases f
   ·cases f
  ·cases f
 ·cases f
theorem abM {t:TypeId}{x:Operand}{R Y:Option Operand}(m:ShOk S)(L:o.op= .slice t x R Y none)(y:∀t D,T t=some D->TyOk P t D)(h:Hp S w0 N blk g al w)
  (E:∀x:Operand,(aP slot x).Rel S (aS N blk g) w g (a.eval x)) (b:ab4 T S blk t (aP slot x) (R.map (aP slot)) (Y.map (aP slot))=some out) (U:lG out.pre) (hK:Post S w0 N blk g al w fr out o.dst a K):o.wp P a w K Q:=by
 have p:=E x;unfold ab4 at b;split at b
 ·cases b
 rename_i D M;split at b
 ·split at b
  ·rename_i l e O V;split at b
   ·cases b
   rename_i te W;have z:=lZ (y _ _ M) V;have A:=kJ (y _ _ W) w;split at b
   ·rename_i q J;rw[J]at p;have p:g q=some (a.eval x):=p;split at b
    ·rename_i e' d H;split at b
     ·rename_i u;simp only[iZ]at u;have C:=Qa u.1;split at b
      ·rename_i hh s;split at b
       ·rename_i d' i;injection b with b
        subst b;obtain⟨I,F,B⟩:=U;obtain⟨G,Z,_,_⟩:=Hp.Gq m [q] blk jQ h;have aa:[q].filterMap (jY blk)=[(q,some (.wY d))]:=by simp[jY,H,rwD]
        rw[aa]at G Z;obtain⟨v,f,c⟩:=G.bY q (.wY d) (by simp[jc,upd_same]);rw[p]at f;injection f with f
        subst f;have c:bW S _ w d (a.eval x):=c;obtain⟨av,X,r,k⟩:=bW.slice' c (m.EN _ _ _ _ i).1;rw[r]at c;have j:=Gl m c i aj aj;exact mW (Js L z A r k E O s C I F B) (hK _ w g (More.refl _) Z (G.weaken fun n hn=> .inl hn) j)
       ·cases b
      ·cases b
     ·cases b
    ·rename_i d H;split at b
     ·rename_i u;simp only[iZ]at u;have C:=Qa u.1;split at b
      ·rename_i hh s;split at b
       ·rename_i d' i;injection b with b
        subst b;obtain⟨I,F,B⟩:=U;obtain⟨v,f,c⟩:=h.bY q (.wY d) H;rw[p]at f;injection f with f
        subst f;have c:bW S _ w d (a.eval x):=c;obtain⟨av,X,r,k⟩:=bW.slice' c (m.EN _ _ _ _ i).1;rw[r]at c;have j:=Gl m c i aj aj;exact aY (v:=_) (Js L z A r k E O s C I F B) h hK rfl j
       ·cases b
      ·cases b
     ·cases b
    ·cases b
   ·cases b
  ·cases b
 ·cases b
theorem aef {t e:TypeId}{x p q:Operand}{m s n c:Nat}{d:Option Addr}{g f:IntKind}{b:Int}(u:o.op= .slice t x none (some p) (some q))(j:P.underlying t=some (.slice e))(i:(sizeOf e).run P w= .ok m w)(A:a.eval x= .slice d n c)(B:n<=c)
  (r:a.eval p= .int g b) (z:a.eval q= .int f b) (y:m=s) (C:0<=b) (D:b<=n):(execOp a.eval o).run P w= .ok (.value (sliced d 0 b.toNat b.toNat s)) w:=by
 have l:P.elem t=e:=by simp[Program.elem,j]
 have h:P.underlying t=some (.slice (P.elem t)):=by grind
 have k:(execOp a.eval o).run P w=((Instr.slice t (.slice d n c) none (some (.int g b)) (some (.int f b))).run P w).andThen fun v w=> .ok (.value v) w:=by
  simp[execOp,u,A,r,z,run_sliceAt_slice w t _ _ _ _ h]
 rw[k,run_slice_hm w t _ _ _ h g f b b C (N8 _) aj,l,i,<-y];rfl
theorem abo {t:TypeId}{x A:Operand}{I R:Option Operand}(i:ShOk S)(W:o.op= .slice t x I R (some A))(C:∀t J,T t=some J->TyOk P t J)(h:Hp S w0 N blk g al w)
  (L:∀x:Operand,(aP slot x).Rel S (aS N blk g) w g (a.eval x)) (b:abN T S blk t (aP slot x) (I.map (aP slot)) (R.map (aP slot)) (aP slot A)=some out) (hp:lG out.pre) (hK:Post S w0 N blk g al w fr out o.dst a K):o.wp P a w K Q:=by
 have f:=L x;unfold abN at b;split at b
 ·rename_i kh r km m F hhi Z;have F:I=none:=by simp_all
  obtain⟨B,rfl,aJr⟩:∃V,R=some V/\aP slot V= .one (.lf (.int kh r)):=by
   simp_all
  subst F;have Y:a.eval B= .int kh r:=by have:=L B;rw[aJr]at this;exact this
  have e2:a.eval A= .int km m:=by have:=L A;rw[Z]at this;exact this
  split at b
  ·cases b
  rename_i J X;split at b
  ·cases b
  rename_i e hel;split at b
  ·cases b
  rename_i te hte;have D:=lZ (C _ _ X) hel;have E:=kJ (C _ _ hte) w;split at b
  ·rename_i d s;rw[s]at f;split at b
   ·rename_i z;simp only[iZ]at z;have H:=Qa z.1;split at b
    ·rename_i d' c;injection b with b
     subst b;obtain⟨U,M,G⟩:=hp;subst M;have f:bW S _ w d (a.eval x):=f;obtain⟨av,cap,y,l⟩:=bW.slice' f (i.EN _ _ _ _ c).1;rw[y]at f;have k:=(i.sub _ _ _ _ c (Gw _) (show r.toNat<=S.len d by omega)).2.1;have u:=Gl i f c (Gw _) (show r.toNat<=S.len d by omega);refine aY (v:=_) (aef W D E y l Y e2 H U G) h hK rfl ?_;exact alc i f c aj k
    ·cases b
   ·cases b
  ·rename_i q s;rw[s]at f;have f:g q=some (a.eval x):=f;split at b
   ·rename_i e' d hb;split at b
    ·rename_i z;simp only[iZ]at z;have H:=Qa z.1;split at b
     ·rename_i d' c;injection b with b
      subst b;obtain⟨U,M,G⟩:=hp;subst M;obtain⟨O,k2,_,_⟩:=Hp.Gq i [q] blk jQ h;have hfm:[q].filterMap (jY blk)=[(q,some (.wY d))]:=by simp[jY,hb,rwD]
      rw[hfm]at O k2;obtain⟨v,p,j⟩:=O.bY q (.wY d) (by simp[jc,upd_same]);rw[f]at p;injection p with p
      subst p;have j:bW S _ w d (a.eval x):=j;obtain⟨av,cap,y,l⟩:=bW.slice' j (i.EN _ _ _ _ c).1;rw[y]at j;have k:=(i.sub _ _ _ _ c (Gw _) (show r.toNat<=S.len d by omega)).2.1;obtain⟨a',e',u⟩:=alc i j c (show r.toNat<=S.len d by omega) k;refine mW (aef W D E y l Y e2 H U G) (hK _ w g (More.refl _) k2 (O.weaken fun n hn=> .inl hn) ?_);exact u
     ·cases b
    ·cases b
   ·cases b
  ·cases b
 ·cases b
theorem QC (t D e:TypeId)(i:TypeInfo)(z:Value)(a bytes:Nat)(G:P.underlying t=some (.slice e))(K:P.info? e=some i)(E:i.zero=some z)
  (o:i.size=a) (A:i.bytes=bytes) (B:z.cells.size=a) (F:0 < a)
  (x:Option Addr) (n:Nat) (f:List Value) (v:f.length=n*a) (y:∀h,x=some h->∀j u,f[j]? =some u->w.cell? (h.add j)=some u) (L:x=none->n=0)
  (h:Addr) (m c:Nat) (d:List Value) (C:d.length=m*a) (l:∀j u,d[j]? =some u->w.cell? (h.add j)=some u) (M:∀u∈d,u.oneCell'=true) (X:0 < m)
  (r:n+m<=maxLen) (g:(n+m)*bytes<=140737488355328):
  ∃q s,(Builtin.append_ #[t,t] D #[.slice x n n, .slice (some h) m c]).run P w= .ok q s/\s.ownsRow 0 e a q (n+m) (f++d)/\w.grownBy s none/\q.ownBlock=some w.heap.size:=by
 cases x with
 | none=>
  obtain rfl:=L rfl;obtain rfl:f=[]:=Qan (by simpa using v);obtain⟨q,s,R,I,N,U,p⟩:=run_append_own_at (P:=P) w 0 t D e i z a bytes G K E o A B F (.slice none 0 0) 0 [] (World.ownsRow_nil w 0 e a) h m c d C l M r g (Gw _);refine⟨q,s,R,I,N,?_⟩;rcases p with p | p
  ·have W:q= .slice none 0 0:=by
    rcases I.2 with⟨e,_⟩ | ⟨b,V,T,e,_⟩
    ·exact e
    ·rw[e]at p;cases p
   grind
  ·exact p
 | some b=>
  subst o A
  have O:(f++d).length=(n+m)*i.size:=by grind
  have Q:=run_append_grow (P:=P) w t D e i z G K E b n n f v (y b rfl) h m c d C l aj (by simp only[maxLen]at r;omega) (growslice_fits aj g);have J:=grownCap_ge w (n+m) n e;have H:grownCap w (n+m) n e<=maxLen:=grownCap_le_maxLen w (n+m) n e r;refine⟨_,_,Q,⟨O, .inr ⟨w.heap.size,_,_,rfl,Gw _,heap_alloc_new w.drew _,J,H,?_,?_⟩⟩,⟨rfl,rfl,rfl,by simp,fun k S _=>Go.heap_alloc_old w.drew _ S⟩,rfl⟩
  ·simp only[Array.size_append,List.size_toArray,size_zeroCells,B,v,C,<-Nat.add_mul]
   grind
  grind
theorem XG {c:Call}{x y:Operand}(q:ShOk S)(ho:o.op= .call c)(hc:c.callee= .builtin .append)(hx':c.args.toList=[x,y])(J:∀t W,T t=some W->TyOk P t W)(h:Hp S w0 N blk g al w)(hfr:∀n,fr<=n->n < fr+64->¬al n)
  (hx:(aP slot x).Rel S (aS N blk g) w g (a.eval x)) (hy:(aP slot y).Rel S (aS N blk g) w g (a.eval y)) (f:SY T S blk fr c.argTypes (aP slot x) (aP slot y)=some out) (hp:lG out.pre)
  (hK:Post S w0 N blk g al w fr out o.dst a K):o.wp P a w K Q:=by
 have G:c.args= #[x,y]:=by grind
 have O:∀p,More g (upd g fr (some p)):=fun p l v hl=>by
  rw[bM _ _ _ _ qa2];exact hl
 unfold SY at f;split at f
 ·rename_i ex hex;rw[hex]at hx;split at f
  ·rename_i d1;split at f
   ·rename_i t t' htt;split at f
    ·rename_i V;have V:=Qa V;subst V;have hat:c.argTypes= #[t,t]:=by grind
     split at f
     ·cases f
     rename_i W hty;split at f
     ·cases f
     rename_i e hel;split at f
     ·cases f
     rename_i I hte;split at f
     ·cases f
     rename_i d2 hd2;have hsl:=lZ (J _ _ hty) hel;obtain⟨i,z,hi,hz,q1,q2,q3⟩:=Gj (J _ _ hte);split at f
     ·rename_i r;simp only[iZ]at r;have e1:=Qa r.1;have e2:0 < I.size:=by simp_all
      have e3:=Qa r.2.2;split at f
      ·rename_i d agT;injection f with f
       subst f;obtain⟨p1,Y⟩:=hp;obtain⟨c1,c2,c3,c4,c5⟩:=q.cat _ _ _ agT;have aa:z.cells.size=I.size:=by grind
       obtain⟨av,ab,s,hv2,hl2,Z,hn2,h12,C⟩:=H8 q h hy hd2 aj;obtain⟨bv,M,hd1⟩:=hx;obtain⟨bv',cap',m,L,hlo,hco,hbn,_,D⟩:=VQ q hd1 (show 0 < S.size d1 by omega);rw[M]at L;injection L with f1 f2 f3
       subst f1;obtain⟨F,rfl⟩:∃F,av=some F:=by
        cases av with
        | none=>grind
        | some F=>grind
       obtain⟨p,w',r1,r2,A,r4⟩:=QC (P:=P) (w:=w) t o.type e i z I.size I.bytes hsl hi hz q1 q2 aa e2 bv (S.len d1) m dm hco hbn F (S.len d2) ab s dm (Z F rfl) h12 p1 (by have:=Y.1;simp only[maxLen];omega) Y.2;have U:(execOp a.eval o).run P w= .ok (.value p) w':=by
        simp only[execOp,ho,resolve,hc,invoke,builtin,G,hat,Sem.run_bind,Sem.run_pure,Result.andThen_ok,Qcb,Qp,Qcu,M,hv2,r1]
       have hB:Below w.heap.size w w':=⟨A.os,A.tape,A.output,A.size,fun k H=>A.block k H jQ⟩;have EL:∃a n c,p= .slice a n c:=by rcases r2.2 with⟨rfl,_⟩ | ⟨b,cp,cur,rfl,_⟩<;>exact⟨_,_,_,rfl⟩
       have E:∀b,dE p=some b->w.heap.size<=b:=by
        grind [wo]
       obtain⟨g1,g2,g3⟩:=h.add (l:=fr) (bk:= .row e d) (v:=p) hB (hfr fr (pJ _) aj) E (fun M' H _=>by
        refine⟨⟨fun b hb=> .inl (Du h.below.size (E b hb)),⟨by have:=Y.1;omega,q.axp _ _ _ ‹_›⟩⟩,m++s,?_,fun B j ac hj=> ?_⟩
        ·grind
        ·rw[c3]at ac;have hxl:m.length=S.len d1*S.size d:=by rw[hlo,c1]
         by_cases R:B < S.len d1
         ·obtain⟨u,hu,X⟩:=D B j R aj;rw[c4 B j R];refine⟨u,?_,q.data _ _ _ aj aj,?_⟩
          ·grind
          ·exact(Lf.Rel.keep X H (O _))
         ·obtain⟨k,rfl⟩:∃k,B=S.len d1+k:=⟨B - S.len d1,by omega⟩;obtain⟨u,hu,X⟩:=C k j aj aj;rw[c5 k j aj];refine⟨u,?_,q.data _ _ _ aj aj,X.keep H (O _)⟩;rw[Qbo dm,<-hu,hxl,Nat.add_mul,c2];congr 1;omega)
       exact mW U (hK _ _ _ g3 g2 (g1.weaken XP) (upd_same _ _ _))
      ·cases f
     ·cases f
    ·cases f
   ·cases f
  ·cases f
 ·cases f
theorem ae0 {src l:TypeId}{x:Operand}(B:ShOk S)(ho:o.op= .convert src l x)(c:∀t H,T t=some H->TyOk P t H)(h:Hp S w0 N blk g al w)
  (q:(aP slot x).Rel S (aS N blk g) w g (a.eval x)) (b:aki T S src l (aP slot x)=some out) (hK:Post S w0 N blk g al w fr out o.dst a K):o.wp P a w K Q:=by
 unfold aki at b;split at b
 ·rename_i ts td L R;split at b
  ·cases b
  rename_i e I;split at b
  ·cases b
  rename_i te J;split at b
  ·rename_i p;simp only[iZ]at p;split at b
   ·rename_i s C;rw[C]at q;obtain⟨q,hlen⟩:=q;split at b
    ·cases b
    rename_i d2 G;split at b
    ·rename_i f;injection b with b
     subst b;have f:=Qa f;obtain⟨dd,E,m⟩:=mV (c _ _ L);obtain⟨X,U,d⟩:=mV (c _ _ J);have y:P.underlying src=some .string:=by
      rw[Qa p.1]at m;cases dd<;>simp[kindOf]at m<;>first | exact E | (rename_i k;cases k<;>simp[rD]at m)
     have M:P.underlying e=some (.int .u8):=by
      rw[Qa p.2.1]at d;cases X<;>simp[kindOf]at d<;>(rename_i k;cases k<;>simp[rD]at d;exact U)
     have F:=lZ (c _ _ R) I;have u:(execOp a.eval o).run P w= .ok (.value (.slice (some ⟨w.heap.size,0,none⟩) s.length (grownCap w s.length 0 e))) (Lib.bytesWorld w e ⟨s.toArray⟩):=by
      have v:(⟨s.toArray⟩:ByteArray).size=s.length:=by rfl
      have:=Lib.run_convert_string_bytes (P:=P) w src l e ⟨s.toArray⟩ y F M;rw[v]at this;simp[execOp,ho,q,this]
     have hB:Below w.heap.size w (Lib.bytesWorld w e ⟨s.toArray⟩):=⟨rfl,rfl,rfl,by rw[Lib.bytesWorld_size];omega,fun k hk=>Lib.bytesWorld_at_old w e _ k hk⟩;obtain⟨g1,Y⟩:=h.grow hB;obtain⟨m1,A,Z⟩:=B.text _ _ _ G;refine mW u (hK _ _ g (More.refl _) Y (g1.weaken fun n hn=> .inl hn) ?_);show bW S _ _ d2 _
     intro D W;have v:(⟨s.toArray⟩:ByteArray).size=s.length:=by rfl
     have z:¬aS N blk g w.heap.size:=fun hm=>Nat.lt_irrefl _ (h.mlt hm)
     have r:=W w.heap.size (by rw[Lib.bytesWorld_size];omega) z;rw[<-A];refine CS.mk d2 (B.aBl aj) (some ⟨w.heap.size,0,none⟩) _ (fun i j=> .int .u8 (s.getD i 0).toNat) (by rw[A];exact grownCap_ge w s.length 0 e) aj (fun i j O V=> ?_) (fun i j O V=> ?_) (fun i j d' O V he=> ?_)
     ·obtain rfl:j=0:=by omega
      refine⟨_,rfl,?_⟩;have p:=Lib.bytesWorld_cell w e ⟨s.toArray⟩ i (by rw[v];omega);rw[f,Qd3,XE,show((⟨w.heap.size,0,none⟩:Addr).add i)=⟨w.heap.size,i,none⟩ by simp[Addr.add];exact Eq.symm];rw[show D.cell? ⟨w.heap.size,i,none⟩=(Lib.bytesWorld w e ⟨s.toArray⟩).cell? ⟨w.heap.size,i,none⟩ by simp only[World.cell?,r]];rw[p]
     ·obtain rfl:j=0:=by omega
      rw[Z i aj];rfl
     grind
    ·cases b
   ·cases b
  ·cases b
 ·cases b
theorem acy {t:TypeId}(r:o.op= .alloc t)(f:∀t d,T t=some d->TyOk P t d)(h:Hp S w0 N blk g al w)(j:∀n,fr<=n->n < fr+64->¬al n)
  (c:ack T fr t=some out) (y:Post S w0 N blk g al w fr out o.dst a K):o.wp P a w K Q:=by
 unfold ack at c;split at c
 ·cases c
 rename_i d i;split at c
 ·rename_i k;injection c with c
  subst c;obtain⟨z,p,B⟩:=Fq (f _ _ i) w;have m:d.zero=[.pointer none, .slice none 0 0]:=by
   unfold aBw at k
   grind
  have e:(execOp a.eval o).run P w= .ok (.value (.pointer (some ⟨w.heap.size,0,none⟩))) (w.alloc (.cells z.cells t)):=by
   simp[execOp,r,Instr.alloc,p,newVar,newRow,newObj,Sem.run]
  obtain⟨q,s,u⟩:=h.add (l:=fr) (bk:= .tc t [.val (.slice none 0 0)]) (v:= .pointer (some ⟨w.heap.size,0,none⟩)) ((Below.refl w.heap.size w).alloc (pJ _) (.cells z.cells t)) (j fr (pJ _) aj) (fun b x=>by simp[dE]at x;omega)
   (fun M' C _=>⟨w.heap.size,[.slice none 0 0],rfl, .inl h.below.size,⟨.pointer none,by
    have A:z.cells= #[.pointer none, .slice none 0 0]:=by grind
    grind [World.size_alloc,heap_alloc_new], .inl rfl⟩,rfl,trivial⟩)
  exact mW e (y _ _ _ u s (q.weaken XP) ⟨w.heap.size,upd_same _ _ _,rfl⟩)
 ·cases c
theorem afO {t:TypeId}{x:Operand}(A:o.op= .load t x)(m:∀t i,T t=some i->TyOk P t i)(h:Hp S w0 N blk g al w)(q:(aP slot x).Rel S (aS N blk g) w g (a.eval x))
  (c:aiD T blk t (aP slot x)=some out) (G:Post S w0 N blk g al w fr out o.dst a K):o.wp P a w K Q:=by
 unfold aiD at c;split at c
 ·cases c
 rename_i i p;have j:=wZ (m _ _ p) w;split at c
 ·rename_i l e k;rw[k]at q;obtain⟨b,C,D⟩:=q;split at c
  ·rename_i I cs E;obtain⟨L,d,J,s,rfl,_,⟨u0,F,_⟩,B⟩:=h.bY l _ E;rw[C]at d;injection d with d
   injection d with d
   injection d with d
   injection d with d
   subst d;split at c
   ·cases c
   rename_i r;split at c
   ·cases c
   rename_i e;split at c
   ·rename_i y z;injection c with c
    subst c;obtain⟨u,n,f⟩:=B.get e z;refine aY (v:=u) ?_ h G rfl f;have H:(u0::s)[e+1]? =some u:=by simpa using n
    simp[execOp,A,Instr.loadAt,Instr.sureAddr,D,loadVar,j,r,load,Sem.run,cell_of F,n]
   ·cases c
  ·cases c
 ·cases c
theorem aaL {t:TypeId}{x y:Operand}(V:o.op= .store t x y)(s:∀t i,T t=some i->TyOk P t i)(h:Hp S w0 N blk g al w)(C:(aP slot x).Rel S (aS N blk g) w g (a.eval x))
  (v:(aP slot y).Rel S (aS N blk g) w g (a.eval y)) (c:aas T blk t (aP slot x) (aP slot y)=some out) (hK:Post S w0 N blk g al w fr out o.dst a K):o.wp P a w K Q:=by
 unfold aas at c;split at c
 ·rename_i i l e u A r R;have B:=kJ (s _ _ A) w;rw[r]at C;rw[R]at v;obtain⟨b,G,Z⟩:=C;split at c
  ·rename_i q cs H;split at c
   ·cases c
   rename_i e;split at c
   ·rename_i L;injection c with c
    subst c;simp only[iZ,Qbf,Qcp]at L;obtain⟨I,c2,c3,c4⟩:=L;have I:=Qa I;obtain⟨v',d,b',O,rfl,hm,⟨u0,hh,J⟩,E⟩:=h.bY l _ H;rw[G]at d;injection d with d
    injection d with d
    injection d with d
    injection d with d
    subst d;have f:(Sv.lf u:Sv D).cells.all Lf.storable=true:=by simp[Sv.cells,c4]
    have m:=qK (u:= .lf u) h.refs (B_ f) v;have n:=m.length;have z:(Sv.lf u:Sv D).cells.length=1:=rfl;obtain⟨w',k,hb',hn,hs,q1,Y,W⟩:=nZ (P:=P) b q (a.eval y).cells.toList w (u0::O) (e+1) 0 hh (by rw[JV,<-E.length,<-n,z];omega) (JM h.refs f m);have j:(execOp a.eval o).run P w= .ok .skip w':=by
     have p:(a.eval y).cells.size=i.size:=by grind
     simp[execOp,V,Instr.storeAt,Instr.sureAddr,Z,storeVar,B,p,k]
    obtain⟨M,F⟩:=h.write (bk':= .tc q (putAt cs e [u])) H rfl rfl G rfl q1 Y W hs hn (fun X=>by
     have U:=(E.putAt m e).keep X (More.refl _);refine⟨b,_,rfl,hm,⟨u0,?_,J⟩,by simpa[Sv.cells]using U⟩
     grind)
    exact J_ j (hK _ _ _ (More.refl _) F (M.weaken fun _ h=> .inl h) trivial)
   ·cases c
  ·cases c
 ·cases c
theorem ax5 {e:TypeId}{d:Ty}{i:TypeInfo}(h:TyOk P e d)(b:avu d=true)(f:P.info? e=some i):i.zero=some (.int .u8 0):=by
 obtain⟨m,n,j,l,a,k,c,rfl⟩:=kY h;rw[f]at a;injection a with a
 subst a;rw[c];unfold avu at b;dsimp only at b;split at b
 ·rename_i g;simp only[Qbf]at b;congr 1;cases j<;>first | exact(List.cons.inj g).1 | (simp[En]at b)
 ·cases b
theorem arD {e:Nat}{s:List UInt8}{d2:D}(c:ShOk S)(d:S.text e s=some d2)(j:S.size d2=1):S.len d2=s.length/\∀i,i < s.length->∃u,(Lib.strCells ⟨s.toArray⟩)[i]? =some u/\(S.cell d2 i 0).jr=true/\∀(M:Nat->Prop) (w:World) (g:Nat->Option Value),(S.cell d2 i 0).Rel S M w g u:=by
 obtain⟨_,f,h⟩:=c.text _ _ _ d;refine⟨f,fun i b=> ?_⟩;have a:=h i b;refine⟨.int .u8 (s.getD i 0).toNat,?_,c.data _ _ _ aj aj,fun M w g=> ?_⟩
 ·simp[Lib.strCells,List.getD,b]
 ·rw[a];rfl
theorem XN {c:Call}{x y:Operand}(hS:ShOk S)(ho:o.op= .call c)(hc:c.callee= .builtin .append)(hx':c.args.toList=[x,y])(M:∀t ty,T t=some ty->TyOk P t ty)(h:Hp S w0 N blk g al w)(hfr:∀n,fr<=n->n < fr+64->¬al n)
  (L:(aP slot x).Rel S (aS N blk g) w g (a.eval x)) (hy:(aP slot y).Rel S (aS N blk g) w g (a.eval y)) (f:VC T S blk fr c.argTypes (aP slot x) (aP slot y)=some out) (hp:lG out.pre)
  (hK:Post S w0 N blk g al w fr out o.dst a K):o.wp P a w K Q:=by
 have hargs:c.args= #[x,y]:=by grind
 have hmg:∀v',More g (upd g fr (some v')):=fun v' l v hl=>by
  rw[bM _ _ _ _ qa2];exact hl
 unfold VC at f;split at f
 ·rename_i t J s htt Gy;have hat:c.argTypes= #[t,J]:=by grind
  rw[Gy]at hy;obtain⟨hyv,hyl⟩:a.eval y= .string ⟨s.toArray⟩/\s.length<=9223372036854775807:=hy;split at f
  ·rename_i ty ty' hty hty';split at f
   ·cases f
   rename_i e hel;split at f
   ·cases f
   rename_i te hte;have F:=lZ (M _ _ hty) hel;obtain⟨i,z,U,hz,q1,q2,q3⟩:=Gj (M _ _ hte);split at f
   ·rename_i hcc;simp only[iZ]at hcc;obtain⟨c1,c2,c3,c4⟩:=hcc;have c2:=Qa c2;have c3:=Qa c3;have c4:=Qa c4;obtain⟨ds,D,W⟩:=mV (M _ _ hty');have D:P.underlying J=some .string:=by
     rw[c4]at W;cases ds<;>simp[kindOf]at W<;>first | exact D | (rename_i k;cases k<;>simp[rD]at W)
    have R:i.zero=some (.int .u8 0):=ax5 (M _ _ hte) c1 U;split at f
    ·cases f
    rename_i d2 hd2;split at f
    ·rename_i I;have I:=Qa I;obtain⟨X,aa⟩:=arD hS hd2 I;have hsz:(ByteArray.mk s.toArray).size=s.length:=by rfl
     have hnews:(Lib.strCells ⟨s.toArray⟩).length=s.length:=by rw[Lib.strCells_length,hsz]
     have run:∀(A:Value) (n:Nat) (B:List Value),a.eval x=A->w.ownsRow 0 e 1 A n B->bG (n+s.length) 1->
       ∃v' w',(execOp a.eval o).run P w= .ok (.value v') w'/\w'.ownsRow 0 e 1 v' (n+s.length) (B++Lib.strCells ⟨s.toArray⟩)/\w.grownBy w' A.ownBlock/\(v'.ownBlock=A.ownBlock\/v'.ownBlock=some w.heap.size\/v'.ownBlock=none):=by
      intro A n B C p hroom;obtain⟨r1,V⟩:=hroom;obtain⟨v',w',q,h2,h3,h4⟩:=Lib.run_append_own_string (P:=P) (w:=w) 0 t J o.type e i F D U R aj aj A n B p ⟨s.toArray⟩ (by rw[hsz];simp only[maxLen];omega) qbv (Gw _);rw[hsz]at h2;refine⟨v',w',?_,h2,h3,?_⟩
      ·simp only[execOp,ho,resolve,hc,invoke,builtin,hargs,hat,Sem.run_bind,Sem.run_pure,Result.andThen_ok,Qcb,Qp,Qcu,C,hyv,q]
      ·rcases p.2 with⟨rfl,rfl⟩ | ⟨b,O,G,rfl,hbg,hg',hnc,hcm,hcs,htake⟩
       ·obtain⟨v2,w2,g1,g2,g3,g4⟩:=Lib.run_append_own_string (P:=P) (w:=w) w.heap.size t J o.type e i F D U R aj aj (.slice none 0 0) 0 [] (World.ownsRow_nil w w.heap.size e 1) ⟨s.toArray⟩ (by rw[hsz];simp only[maxLen];omega) qbv (pJ _);by_cases hm:s.length=0
        ·grind
        ·have H:=run_append_nil_string (P:=P) w t J o.type e i (.int .u8 0) F D U R ⟨s.toArray⟩ qbv qbv dm;rw[H]at q;injection q with q _
         exact .inr (.inl (by rw[<-q];rfl))
       ·have hcs':G.size=O:=by simpa using hcs
        by_cases Y:n+(ByteArray.mk s.toArray).size<=O
        ·have H:=Lib.run_append_room_string (P:=P) w t J o.type e i F D U aj b n O G hg' ⟨s.toArray⟩ Y aj;rw[H]at q;injection q with q _
         exact .inl (by rw[<-q];rfl)
        ·have hxl:B.length=n:=by grind
         have holds:∀j u,B[j]? =some u->w.cell? ((⟨b,0,none⟩:Addr).add j)=some u:=p.cells (g:=b) rfl;have H:=Lib.run_append_grow_string (P:=P) w t J o.type e i (.int .u8 0) F D U R ⟨b,0,none⟩ n O B dm holds ⟨s.toArray⟩ aj qbv (by rw[q2,c3];exact growslice_fits aj qbv);rw[H]at q;injection q with q _
         exact .inr (.inl (by rw[<-q];rfl))
     split at f
     ·rename_i ab;injection f with f
      subst f;rw[ab]at L;obtain⟨v',w',r1,V,r,m⟩:=run (.slice none 0 0) 0 [] L (World.ownsRow_nil w 0 e 1) (by rw[Bc];exact hp);have hB:Below w.heap.size w w':=⟨r.os,r.tape,r.output,r.size,fun k hk=>r.block k hk (by simp[Value.ownBlock])⟩;have EL:∃a n c,v'= .slice a n c:=by rcases V.2 with⟨rfl,_⟩ | ⟨b,cp,G,rfl,_⟩<;>exact⟨_,_,_,rfl⟩
      have ac:∀b,dE v'=some b->w.heap.size<=b:=by
       intro b hb;rw[wo v' EL]at m;rcases m with m | m | m
       ·rw[hb]at m;simp[Value.ownBlock]at m
       ·rw[hb]at m;injection m with m;omega
       ·rw[hb]at m;cases m
      obtain⟨g1,g2,g3⟩:=h.add (l:=fr) (bk:= .row e d2) (v:=v') hB (hfr fr (pJ _) aj) ac (fun M' hk _=>by
       refine⟨⟨fun b hb=> .inl (Du h.below.size (ac b hb)),⟨by omega,hS.aBl aj⟩⟩,Lib.strCells ⟨s.toArray⟩,?_,fun i' j hi' hj=> ?_⟩
       ·have:=V;rw[Bc,Qd]at this;rw[I,X];exact this
       ·rw[I]at hj⊢;obtain rfl:j=0:=by omega
        obtain⟨u,hu,hda,H⟩:=aa i' aj;exact⟨u,by simpa using hu,hda,H _ _ _⟩)
      exact mW r1 (hK _ _ _ g3 g2 (g1.weaken XP) (upd_same _ _ _))
     ·rename_i l ab;rw[ab]at L;have L:g l=some (a.eval x):=L;split at f
      ·rename_i e' d1 hb;split at f
       ·rename_i E;simp only[iZ]at E;have hs1:=Qa E.2;have E:=Qa E.1;subst E;split at f
        ·rename_i d agT;injection f with f
         subst f;obtain⟨c1',c2',c3',c4',c5'⟩:=hS.cat _ _ _ agT;obtain⟨A,C,hm,B,p,hcell⟩:=h.bY l _ hb;rw[L]at C;injection C with C
         rw[hs1]at p;obtain⟨v',w',r1,V,r,m⟩:=run A (S.len d1) B C p hp;have Z:∃a n c,A= .slice a n c:=by rcases p.2 with⟨rfl,_⟩ | ⟨b,cp,G,rfl,_⟩<;>exact⟨_,_,_,rfl⟩
         have EL:∃a n c,v'= .slice a n c:=by rcases V.2 with⟨rfl,_⟩ | ⟨b,cp,G,rfl,_⟩<;>exact⟨_,_,_,rfl⟩
         rw[wo v' EL,wo A Z]at m;rw[wo A Z]at r;have hsd:S.size d=1:=by omega
         obtain⟨g1,g2,g3⟩:=h.move (l:=l) (fr:=fr) (bk':= .row e d) (v:=A) (v':=v') qbo (C▸L) (hfr fr (pJ _) aj) r.os r.tape r.output r.size (fun n hn hne=>r.block n hn fun e=>hne e.symm)
          (fun b hb'=>by
           grind)
          (fun M' hk _=>by
           refine⟨⟨fun b hb'=> ?_,⟨by rw[c3',X];have:bG (S.len d1+s.length) 1:=hp;have:=this.1;omega,hS.aBl aj⟩⟩,B++Lib.strCells ⟨s.toArray⟩,?_,fun i' j hi' hj=> ?_⟩
           ·rcases m with m | m | m
            ·grind
            ·rw[hb']at m;injection m with m;exact .inl (m▸h.below.size)
            grind
           ·grind
           ·rw[hsd]at hj⊢;obtain rfl:j=0:=by omega
            rw[c3',X]at hi';have hxl:B.length=S.len d1:=by simpa using p.1
            by_cases hlt:i' < S.len d1
            ·obtain⟨u,hu,hda,H⟩:=hcell i' 0 hlt aj
             grind [Lf.Rel.keep]
            grind)
         exact mW r1 (hK _ _ _ g3 g2 (g1.weaken XP) (upd_same _ _ _))
        ·cases f
       ·cases f
      ·cases f
     ·cases f
    ·cases f
   ·cases f
  ·cases f
 ·cases f
theorem Hp.aJn (h:Hp S w0 N blk g al w){l b:Nat}{v:Value}(m:hot (blk l)=true)(p:g l=some v)(r:dE v=some b)(y:w'.os=w.os)(z:w'.tape=w.tape)(t:w'.output=w.output)(B:w'.heap.size=w.heap.size)
  (a:∀n,n≠b->w'.heap[n]? =w.heap[n]?):Hp S w0 N (upd blk l none) g al w'/\Keeps (aS N blk g) w (aS N (upd blk l none) g) w':=by
 have P:hot (upd blk l none l)=false:=by rw[upd_same];rfl
 have i:∀n,hot (upd blk l none n)=true->hot (blk n)=true:=fun n f=>by
  grind [bM]
 have C:aS N blk g b:= .inr ⟨l,v,m,p,r⟩;obtain⟨H,D⟩:=h.mine m p r;have o:Keeps (aS N blk g) w (aS N (upd blk l none) g) w':=by
  refine⟨by omega,fun c _ x=>⟨?_,a c fun e=>x (e▸C)⟩⟩;rintro(f | ⟨n,u,I,J,L⟩)
  ·exact x (.inl f)
  ·exact x (.inr ⟨n,u,i n I,J,L⟩)
 refine⟨⟨⟨y.trans h.below.os,z.trans h.below.tape,t.trans h.below.output,by rw[B];exact h.below.size,fun k F E=> ?_⟩,h.hN,fun n G f=> ?_,fun n c O M d f s=>h.sep n c O M d (i n f) (i c s),h.al,h.refs,h.gl.keep o⟩,o⟩
 ·refine(a k fun e=> ?_).trans (h.below.block k F E);subst e;rcases D with q | q
  ·omega
  ·exact E q
 ·by_cases j:n=l
  ·subst j;rw[upd_same]at f;cases f
  ·rw[bM _ _ _ _ j]at f;obtain⟨u,A,K⟩:=h.bY n G f;refine⟨u,A,K.keep o (More.refl _) fun Q c s=>a c fun e=> ?_⟩;subst e;exact j (h.sep n l u v c dm m A p s r)
theorem Qz {c:Call}{x:Operand}(r:o.op= .call c)(t:c.callee= .builtin .unsafeSliceData)(B:c.args.toList=[x])(h:Hp S w0 N blk g al w)(i:(aP slot x).Rel S (aS N blk g) w g (a.eval x))
  (f:H_ S blk (aP slot x)=some out) (s:lG out.pre) (y:Post S w0 N blk g al w fr out o.dst a K):o.wp P a w K Q:=by
 have j:c.args= #[x]:=by grind
 unfold H_ at f;split at f
 ·rename_i l m;rw[m]at i;have i:g l=some (a.eval x):=i;split at f
  ·rename_i e d z;split at f
   ·injection f with f
    subst f;have s:0 < S.len d:=s;obtain⟨v,k,_,E,⟨_,q⟩,_⟩:=h.bY l _ z;rw[i]at k;injection k with k
    rcases q with⟨_,A⟩ | ⟨b,n,C,u,_,_,D,_⟩
    ·omega
    ·have p:a.eval x= .slice (some ⟨b,0,none⟩) (S.len d) n:=by rw[k,u]
     refine aY (v:= .pointer (some ⟨b,0*1+0,none⟩)) ?_ h y rfl ⟨b,S.len d,n,by rw[i,p],rfl⟩;simp only[execOp,r,resolve,t,invoke,builtin,j,Sem.run_bind,Sem.run_pure,Result.andThen_ok,Qcb,Qp,Qcu,p,Lib.run_unsafeSliceData_row _ _ _ _ _ _ (show n≠0 by omega)]
   ·cases f
  ·cases f
 ·rename_i m;rw[m]at i;have i:a.eval x= .slice none 0 0:=i;injection f with f
  subst f;refine aY (v:= .pointer none) ?_ h y rfl rfl;simp only[execOp,r,resolve,t,invoke,builtin,j,Sem.run_bind,Sem.run_pure,Result.andThen_ok,Qcb,Qp,Qcu,i,Lib.run_unsafeSliceData_nil]
 ·cases f
theorem I9 (w:World)(b n m:Nat):(w.freeze ⟨b,0,none⟩ n).os=w.os/\(w.freeze ⟨b,0,none⟩ n).tape=w.tape/\(w.freeze ⟨b,0,none⟩ n).output=w.output/\(w.freeze ⟨b,0,none⟩ n).heap.size=w.heap.size/\(m≠b->(w.freeze ⟨b,0,none⟩ n).heap[m]? =w.heap[m]?):=by
 unfold World.freeze
 grind
theorem Qu {c:Call}{x y:Operand}(ho:o.op= .call c)(hc:c.callee= .builtin .unsafeString)(hx':c.args.toList=[x,y])(R:∀t X,T t=some X->TyOk P t X)(h:Hp S w0 N blk g al w)(s:(aP slot x).Rel S (aS N blk g) w g (a.eval x))
  (p:(aP slot y).Rel S (aS N blk g) w g (a.eval y)) (f:Ik T S blk c.argTypes (aP slot x) (aP slot y)=some out) (L:lG out.pre) (hK:Post S w0 N blk g al w fr out o.dst a K):o.wp P a w K Q:=by
 have C:c.args= #[x,y]:=by grind
 unfold Ik at f;split at f
 ·rename_i l n G Y;rw[G]at s;rw[Y]at p;have p:a.eval y= .int .i64 n:=p;obtain⟨b,n',cap',hg,Z⟩:=s;have Z:a.eval x= .pointer (some ⟨b,0,none⟩):=by simpa using Z
  split at f
  ·rename_i e d hb;split at f
   ·rename_i U;injection f with f
    subst f;simp only[iZ]at U;obtain⟨A,I⟩:=U;have I:=Qa I;obtain⟨p1,p2,c2⟩:n=S.len d/\0 < n/\acj S d (S.len d)=true:=L;subst p1;have p2:0 < S.len d:=by omega
    unfold ptrTo at A;split at A
    ·rename_i M O hts;have F:c.argTypes= #[M,O]:=by grind
     split at A
     ·rename_i X te hty hte;simp only[iZ]at A;obtain⟨k1,k2,E⟩:=A;have k1:=Qa k1;have k2:=Qa k2;split at E
      ·rename_i e' e'' hmp;have E:=Qa E;subst E;have hpt:=ap3 (R _ _ hty) hmp k1;obtain⟨i,z,hi,hz,q1,q2,q3⟩:=Gj (R _ _ hte);have H:P.cellsOf e=1:=by simp[Program.cellsOf,hi,q1,k2]
       obtain⟨v,q,hm,xs,B,D⟩:=h.bY l _ hb;rw[hg]at q;injection q with q
       rcases B.2 with⟨_,hn0⟩ | ⟨b',cap,cur,V,_,hh,hnc,hcm,hcs,htake⟩
       ·omega
       ·rw[V]at q;injection q with r hv2 hv3
        injection r with r
        injection r with r
        subst r;have hl:xs.length=S.len d*S.size d:=B.1;obtain⟨ns,hn1,hn2⟩:=U5 I (ajt c2) hl (fun i j hi hj=>by obtain⟨u,h1,_,h3⟩:=D i j hi hj;exact⟨u,h1,h3⟩);have hlen:(bytesOf S d).length=S.len d:=by simp[bytesOf]
        have hcl:∀j x,(bytesOf S d)[j]? =some x->w.cell? ((⟨b,0,none⟩:Addr).add j)=some (.int .u8 x.toNat):=by
         intro j x hj;have W:j < S.len d:=by grind
         obtain⟨k,hk,hk0,hk1⟩:=aoN c2 j W;obtain⟨u,hu,_,J⟩:=D j 0 W aj;rw[hk]at J;have J:u= .int .u8 k:=J;rw[I,Qd3,XE,J]at hu;have s:x=UInt8.ofNat k.toNat:=by
          grind
         have hkx:(x.toNat:Int)=k:=by
          rw[s];have:k.toNat < 256:=by omega
          simp[UInt8.toNat_ofNat',Qc4 this];omega
         rw[hkx];exact B.cells (g:=b) (by rw[V];rfl) j _ hu
        have hrun:=Lib.run_unsafeString_row (P:=P) w M O o.type e hpt H b cur.size (by simp[World.shape?,hh]) (bytesOf S d) (fun e=>by grind) dm aj hcl;obtain⟨f1,f2,f3,f4,_⟩:=I9 w b (bytesOf S d).length 0;obtain⟨hp',hk'⟩:=h.aJn (w':=w.freeze ⟨b,0,none⟩ (bytesOf S d).length) qbo hg rfl f1 f2 f3 f4 (fun m hm=>(I9 w b (bytesOf S d).length m).2.2.2.2 hm);refine mW (v:= .string ⟨(bytesOf S d).toArray⟩) ?_ (hK _ _ _ (More.refl _) hk' (hp'.weaken fun n hn=> .inl hn) ⟨rfl,by omega⟩);simp only[execOp,ho,resolve,hc,invoke,builtin,C,F,Sem.run_bind,Sem.run_pure,Result.andThen_ok,Qcb,Qp,Qcu,Z,p];simp_all
      ·cases E
     ·cases A
    ·cases A
   ·cases f
  ·cases f
 ·rename_i n G Y;rw[G]at s;rw[Y]at p;have s:a.eval x= .pointer none:=s;have p:a.eval y= .int .i64 n:=p;split at f
  ·rename_i M O hts;have F:c.argTypes= #[M,O]:=by grind
   injection f with f
   subst f;have L:n=0:=L;subst L;refine aY (v:= .string ⟨#[]⟩) ?_ h hK rfl ⟨rfl,by simp⟩;simp only[execOp,ho,resolve,hc,invoke,builtin,C,F,Sem.run_bind,Sem.run_pure,Result.andThen_ok,Qcb,Qp,Qcu,s,p,Lib.run_unsafeString_none];rfl
  ·cases f
 ·cases f
theorem agl (C:ShOk S){f:FuncId}{args:List (Sl D)}{vals:List Value}(I:∀f d,Γ f=some d->CtOk P S f d)(h:Hp S w0 N blk g al w)(H:∀n,fr<=n->n < fr+64->¬al n)
  (s:eF S (aS N blk g) w g args vals) (i:∀d,CtOk P S f d->(execOp a.eval o).run P w= .ok (.enter f vals.toArray) w) (c:Zj Γ f blk args fr=some out) (W:lG out.pre) (hK:Post S w0 N blk g al w fr out o.dst a K):o.wp P a w K Q:=by
 unfold Zj at c;split at c
 ·cases c
 ·rename_i d E;have t:=I f d E;have i:=i d t;have F:(Calls P f vals.toArray w fun e w'=>∃v g',e= .returned v/\More g g'/\Keeps (aS N blk g) w (aS N (jc blk out.blks) g') w'/\Hp S w0 N (jc blk out.blks) g' (fun n=>al n\/(fr<=n/\n < fr+64)) w'/\
    out.val.Rel S (aS N (jc blk out.blks) g') w' g' v)->o.wp P a w K Q:=by
   intro r;simp only[Oper.wp,i,Oper.upon_enter];refine r.mono ?_;rintro e w' ⟨v,g',rfl,m,Y,Z,V⟩;exact hK v w' g' m Y Z V
  dsimp only at c;have M:=s.norm;generalize args.map Sl.norm=u at M c;cases m:MP d blk fr (u.map (Sl.view blk)) (mZ [] (u.flatMap Sl.owns))with
  | some U=>
   rw[m]at c;simp only[BR,XM]at c;subst c;refine F (vT C t h H (fun ids bY G hv=> ?_) (fun l p=> ?_) (fun l p=> ?_) m W)
   ·refine eF.view C (jv:=mZ [] (u.flatMap Sl.owns)) h ⟨fun b A=>(uP G b A).1,fun l p v b B k j A=> ?_⟩ (fun l p=>(lH _ _ _).2 (.inr p)) M;rcases(uP G b A).2 with q | ⟨T,O,⟨L,J,z,y⟩ | ⟨L,J,z,y⟩⟩
    ·exact h.agY B k j q
    ·have:=h.sep l T v O b B L k z j y
     grind
    ·have:=h.sep l T v O b B J k z j y
     grind
   ·grind [lH,acn]
   ·obtain⟨x,X,R⟩:=Qa1.1 (((lH _ _ _).1 p).resolve_left jQ);rcases akH (blk:=blk) R with q | q | q
    ·exact .inl q
    ·exact .inr (.inl q)
    ·exact .inr (.inr (Qa1.2 ⟨_,QH.2 ⟨x,X,rfl⟩,q⟩))
  | none=>
   rw[m]at c;simp only[BR]at c
   grind [eF.less,vT,uP]
theorem afc (s:ShOk S){c:Call}{d:Operand}(v:o.op= .call c)(D:c.callee= .value d)(p:∀f i,Γ f=some i->CtOk P S f i)(h:Hp S w0 N blk g al w)(m:∀n,fr<=n->n < fr+64->¬al n)
  (q:∀t,(slot t).Rel S (aS N blk g) w g (a.tmps.getD t undef)) (b:aja Γ blk fr (aP slot d) (c.args.toList.map (aP slot))=some out) (B:lG out.pre) (E:Post S w0 N blk g al w fr out o.dst a K):o.wp P a w K Q:=by
 have e:=mD q d;unfold aja at b;split at b
 ·rename_i f z C j;rw[j]at e;obtain⟨u,y,l⟩:∃u,a.eval d= .func (.func f) #[u] #[]/\Ou S (aS N blk g) w z C u:=e;split at b
  ·rename_i x A;refine agl s (args:=x::c.args.toList.map (aP slot)) (vals:=u::c.args.toList.map a.eval) p h m ⟨ad7 A l,MZ q _⟩ (fun i k=> ?_) b B E;have r:=k.enters (u::c.args.toList.map a.eval).toArray w;simp only[execOp,v,resolve,D,Deferred.ofValue,y,Sem.run_bind,Sem.run_pure,Result.andThen_ok,invoke];have:(#[u]++c.args.map a.eval:Array Value)++ #[]=(u::c.args.toList.map a.eval).toArray:=by grind
   rw[this,r]
  ·cases b
 ·cases b
theorem Vr (j:∀t A,T t=some A->TyOk P t A)(F:∀f z,Γ f=some z->CtOk P S f z)(r:ShOk S)(h:Hp S w0 N blk g al w)(p:∀n,fr<=n->n < fr+64->¬al n)
  (E:∀t,(slot t).Rel S (aS N blk g) w g (a.tmps.getD t undef)) (b:azm T S Γ slot blk fr o.op=some out) (D:lG out.pre) (l:Post S w0 N blk g al w fr out o.dst a K):o.wp P a w K Q:=by
 have k:=mD E;unfold azm at b;split at b
 ·rename_i t d;exact acy d j h p b l
 ·rename_i t x d;exact afO d j h (k x) b l
 ·grind [aaL]
 ·grind [afl]
 ·grind [aci]
 ·rename_i t d;exact XQ r d h p b l
 ·grind [abM]
 ·grind [abo]
 ·grind [aar]
 ·grind [KJ]
 ·rename_i t x i v d;exact KJ r (.inr d) j h (k x) (k i) (k v) b l
 ·grind [ae0,akk]
 ·rename_i t x d;exact ap5 d j h (k x) b l
 ·grind [XW]
 ·grind [aiN]
 ·grind [aoL]
 ·rename_i x d;split at b
  ·rename_i e s;split at b
   ·rename_i f G H;have q:=k x;rw[s]at q;injection b with b
    subst b;refine aY (v:=a.eval x) ?_ h l rfl q;obtain⟨u,C,_⟩:=q;simp[execOp,d,C]
   ·cases b
  ·cases b
 ·rename_i c d;split at b
  ·grind [afc]
  ·rename_i B;split at b
   ·rename_i x y m
    grind [XG,XO,XN]
   ·cases b
  ·grind [Qz]
  ·rename_i B;split at b
   ·rename_i x y m;exact Qu d B m j h (k x) (k y) b D l
   ·cases b
  ·cases b
 ·cases b
theorem af7 (y:∀t B,T t=some B->TyOk P t B)(E:∀f z,Γ f=some z->CtOk P S f z)(j:ShOk S)(h:Hp S w0 N blk g al w)(D:∀n,fr<=n->n < fr+64->¬al n)
  (G:∀t,(slot t).Rel S (aS N blk g) w g (a.tmps.getD t undef)) (c:ajB T S Γ slot blk fr o.op=some out) (O:lG out.pre) (W:Post S w0 N blk g al w fr out o.dst a K):o.wp P a w K Q:=by
 unfold ajB at c;dsimp only at c;split at c
 ·rename_i V;simp only[iZ,Qb]at V;split at c
  ·rename_i d R;injection c with c
   subst c;have F:(ql slot o.op).Nodup:=oG _ _ Qdr;obtain⟨M,L,I,X⟩:=Hp.Gq j (ql slot o.op) blk F h;refine Vr y E j M D (fun t=> ?_) R O (fun v w' g' m k J U=> ?_)
   ·unfold akV;split
    ·rename_i x;have x:=fC.1 x;refine Sl.Rel.view (jv:=ql slot o.op) j h ⟨?_,fun l A v b H C i=> ?_⟩ (fun l A=>(lH _ _ _).2 (.inr (Qa1.2 ⟨t,x,A⟩))) (G t)
     ·rintro b (i | ⟨n,u,s,r,p⟩)
      ·exact .inl i
      ·exact .inr ⟨n,u,I n s,r,p⟩
     ·rintro(q | ⟨n,u,s,r,p⟩)
      ·exact h.agY H C i q
      ·have:=h.sep l n v u b H (I n s) C r i p
       grind
    ·exact(G t).keep L (More.refl _)
   ·have e:jc blk ((ql slot o.op).filterMap (jY blk)++d.blks)=jc (jc blk ((ql slot o.op).filterMap (jY blk))) d.blks:=TW _ _ _;refine W v w' g' m ?_ ?_ ?_
    ·rw[e];exact L.comp k
    ·rw[e];exact J
    ·rw[e];exact U
  ·cases c
 ·cases c
theorem vk.base {i:Bs}{c:Bk D}{v:Value}(h:vk S M w g w0 c v)(a:hot (some c)=true->∀b,dE v=some b->i.Mine b):vk S M w g i c v:=by
 cases c with
 | cells cs=>obtain⟨b,f,t,rfl,_,h⟩:=h;exact⟨b,f,t,rfl,a rfl b rfl,h⟩
 | row e d=>exact⟨⟨a rfl,h.1.2⟩,h.2⟩
 | wY d=>exact h
 | iter s p=>obtain⟨k,b,rfl,_,h⟩:=h;exact⟨k,b,rfl,a rfl b rfl,h⟩
 | map d=>obtain⟨m,b,l,n,o,j,rfl,_,h⟩:=h;exact⟨m,b,l,n,o,j,rfl,a rfl b rfl,h⟩
 | tc t cs=>obtain⟨b,f,rfl,_,h⟩:=h;exact⟨b,f,rfl,a rfl b rfl,h⟩
def Xof (a:Nat->Option (Bk D))(g:Nat->Option Value)(b:Nat):Prop:=∃l v,hot (a l)=true/\g l=some v/\dE v=some b
def UI (N:Nat->Prop)(c a:Nat->Option (Bk D))(g:Nat->Option Value)(b:Nat):Prop:=aS N c g b/\¬Xof a g b
theorem NL {L:List Nat}{l:Nat}{a:Bk D}(h:nG L blk l=some a):blk l=some a/\l∈L:=by
 unfold nG at h
 grind [fC]
theorem Ey {L:List Nat}{l:Nat}(h:hot (nG L blk l)=true):hot (blk l)=true:=by
 obtain⟨c,a,b⟩:=iM h;rw[(NL a).1];exact b
theorem oq {a:Type}{l:Nat}:∀{b:List (Nat×a)} {f:Nat->a},l∉b.map (·.1)->jc f b l=f l
 | [],_,_=>rfl
 | (k,v)::r,f,h=>by
  simp only[Qp,yw,not_or]at h;simp only[jc];rw[oq h.2,bM _ _ _ _ h.1]
theorem RY {c:Type}{l:Nat}:∀{a:List (Nat×c)} {f b:Nat->c},l∈a.map (·.1)->jc f a l=jc b a l
 | (k,v)::r,f,b,h=>by
  simp only[jc];by_cases d:l∈r.map (·.1)
  ·exact RY d
  grind [oq,upd_same]
theorem Hp.cut (h:Hp S w0 N blk g al w)(L:List Nat):aS (UI N blk (nG L blk) g) (nG L blk) g=aS N blk g/\Hp S ⟨w,Xof (nG L blk) g⟩ (UI N blk (nG L blk) g) (nG L blk) g al w:=by
 have e:aS (UI N blk (nG L blk) g) (nG L blk) g=aS N blk g:=by
  funext b;refine propext ⟨?_,fun f=> ?_⟩
  ·rintro(f | ⟨l,v,m,t⟩)
   ·exact f.1
   ·exact .inr ⟨l,v,Ey m,t⟩
  ·by_cases k:Xof (nG L blk) g b
   ·exact .inr k
   ·exact .inl ⟨f,k⟩
 refine⟨e,xX.refl _,fun b f=>⟨h.mlt f.1,f.2⟩,fun l o p=> ?_,fun a c s n d r q=>h.sep a c s n d (Ey r) (Ey q),h.al,h.refs,e.symm▸h.gl⟩;obtain⟨v,i,j⟩:=h.bY l o (NL p).1;exact⟨v,i,e.symm▸j.base fun u b f=> .inr ⟨l,v,by grind,i,f⟩⟩
theorem Hp.aIN (h:Hp S w0 N blk g al w){L:List Nat}{f:List (Nat×Option (Bk D))}{C:Nat->Prop}(X:More g g')(k:Keeps (aS N blk g) w (aS (UI N blk (nG L blk) g) (jc (nG L blk) f) g') w')
  (m:Hp S ⟨w,Xof (nG L blk) g⟩ (UI N blk (nG L blk) g) (jc (nG L blk) f) g' C w'):(∀b,aS N (jc blk f) g' b->aS (UI N blk (nG L blk) g) (jc (nG L blk) f) g' b)/\Hp S w0 N (jc blk f) g' C w':=by
 have MC:∀{l b v},hot (blk l)=true->g l=some v->dE v=some b->b < w.heap.size/\w0.Mine b:=fun d e n=>by
  obtain⟨t,_,x,j⟩:=h.at d e;exact j.lt x n
 have P:∀{b},Xof (nG L blk) g b->w0.Mine b:=fun⟨l,v,d,e,n⟩=>(MC (Ey d) e n).2
 have Z:∀{b},N b->¬Xof (nG L blk) g b:=fun i O=>by
  rcases P O with d | d
  ·have:=(h.hN _ i).1;omega
  ·exact(h.hN _ i).2 d
 have o:∀{l v b},l∉f.map (·.1)->l∉L->hot (blk l)=true->g l=some v->dE v=some b->UI N blk (nG L blk) g b:=fun d e n A y=>
  ⟨.inr ⟨_,_,n,A,y⟩,fun⟨W,T,k1,k2,k3⟩=>e (h.sep _ _ _ _ _ n (Ey k1) A k2 y k3▸(iM k1).elim fun _ q=>(NL q.1).2)⟩
 have p:∀l,jc (nG L blk) f l=jc blk f l\/(l∉f.map (·.1)/\l∉L/\jc blk f l=blk l):=fun l=>by
  by_cases d:l∈f.map (·.1)
  ·exact .inl (RY d)
  ·rw[oq d,oq d];by_cases e:l∈L
   ·exact .inl (by unfold nG;rw[fC.2 e];rfl)
   grind
 have s:∀{l v},hot (blk l)=true->g' l=some v->g l=some v:=fun d e=>by
  obtain⟨t,i,_⟩:=iM d;obtain⟨u,Y,_⟩:=h.bY _ t i;rw[X _ u Y]at e;rw[Y,e]
 have H:∀b,aS N (jc blk f) g' b->aS (UI N blk (nG L blk) g) (jc (nG L blk) f) g' b:=by
  rintro b (i | ⟨l,v,d,e,n⟩)
  ·exact .inl ⟨.inl i,Z i⟩
  ·rcases p l with q | ⟨R,Q,K⟩
   ·exact .inr ⟨l,v,by grind,e,n⟩
   ·rw[K]at d;exact .inl (o R Q d (s d e) n)
 have J:∀(w:World),Keeps (aS (UI N blk (nG L blk) g) (jc (nG L blk) f) g') w (aS N (jc blk f) g') w:=fun w=>⟨pJ _,fun b _ hn=>⟨fun i=>hn (H b i),rfl⟩⟩
 refine⟨H,⟨m.below.os.trans h.below.os,m.below.tape.trans h.below.tape,m.below.output.trans h.below.output,Du h.below.size m.below.size,fun b d e=>(m.below.block b (Qbg d h.below.size) fun O=> ?_).trans (h.below.block b d e)⟩,h.hN,fun l t M=> ?_,
  fun a c va vc b V U G F E I=> ?_,m.al,m.refs,m.gl.keep (J w')⟩
 ·rcases P O with q | q
  ·omega
  ·exact e q
 ·rcases p l with q | ⟨R,Q,K⟩
  ·obtain⟨v,B,j⟩:=m.bY l t (q.trans M);refine⟨v,B,(j.keep (J w') (More.refl _) fun _ _ _=>rfl).base fun x b i=> ?_⟩;rcases(j.lt x i).2 with r | r
   ·exact .inl (Du h.below.size r)
   ·exact P r
  ·rw[K]at M;obtain⟨v,B,j⟩:=h.bY l t M;refine⟨v,X _ _ B,(j.keep k X fun x b i=> ?_).keep (J w') (More.refl _) fun _ _ _=>rfl⟩;have z:=o R Q dm B i;exact m.below.block b (h.mlt z.1) z.2
 ·
  have clash:∀{l W v T},l∉f.map (·.1)->l∉L->hot (blk l)=true->g' l=some v->dE v=some b->hot (jc (nG L blk) f W)=true->g' W=some T->dE T=some b->False:=fun d e n A y h6 h7 h8=>by
   have z:=o d e n (s n A) y;obtain⟨t,_,x,j⟩:=m.at h6 h7;rcases(j.lt x h8).2 with r | r
   ·grind
   ·exact z.2 r
  rcases p a with qa | ⟨a1,a2,a3⟩<;>rcases p c with qc | ⟨c1,c2,c3⟩
  ·exact m.sep a c va vc b dm dm G F E I
  ·grind
  ·grind
  ·rw[a3]at V;rw[c3]at U;exact h.sep a c va vc b V U (s V G) (s U F) E I
theorem ahY (C:∀t l,T t=some l->TyOk P t l)(E:∀f j,Γ f=some j->CtOk P S f j)(F:ShOk S)(h:Hp S w0 N blk g al w)(D:∀n,fr<=n->n < fr+64->¬al n)
  (J:∀t,(slot t).Rel S (aS N blk g) w g (a.tmps.getD t undef)) (c:Does T S Γ slot blk fr o.op out) (I:lG out.pre) (B:Post S w0 N blk g al w fr out o.dst a K):o.wp P a w K Q:=by
 obtain⟨e,x⟩:=h.cut (dS slot blk o.op);have m:∀t,(ahr o.op slot t).Rel S (aS (UI N blk (nG (dS slot blk o.op) blk) g) (nG (dS slot blk o.op) blk) g) w g (a.tmps.getD t undef):=fun t=>by
  unfold ahr;cases rP t (xe o.op.operands.toList)with
  | true=>grind
  | false=>trivial
 have k:Post S ⟨w,Xof (nG (dS slot blk o.op) blk) g⟩ (UI N blk (nG (dS slot blk o.op) blk) g) (nG (dS slot blk o.op) blk) g al w fr out o.dst a K:=fun v w' g' u d r z=>by
  rw[e]at d;obtain⟨s,A⟩:=h.aIN u d r;exact B v w' g' u ⟨d.size,fun b p i=>⟨fun q=>(d.same b p i).1 (s b q),(d.same b p i).2⟩⟩ A (z.keep ⟨pJ _,fun b _ i=>⟨fun q=>i (s b q),rfl⟩⟩ (More.refl _))
 rcases c with c | ⟨b,H,G,y,rfl⟩
 ·unfold axD aGq at c;split at c
  ·grind [Vr]
  ·split at c
   ·grind [af7]
   ·unfold aHm at c
    grind [mD,apj,afH]
 ·exact aiJ x m y k
end
end Go.Vc
