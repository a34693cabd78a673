/- Own engine: Vdd. -/
import Derived.Lib.ConvBytes
import Derived.Test.YtihakigfhcankaaGreatDoorEng4
import Derived.MapFrom
import Derived.Lib.AppendStr
import Derived.Lib.AppendZeros
import Derived.Lib.UnsafeStr
import Derived.Laws.BytesString
set_option linter.unusedVariables false
set_option linter.unusedSimpArgs false
namespace Go.Vc
open Go.RowKit
section
variable {D:Type}
def axD (T:TypeId->Option Ty)(t:TypeId):Option (TypeId×Nat×Nat):=
 match T t with
 | none=>none
 | some ty=>if ty.lit then LJ T t else none
def afF (T:TypeId->Option Ty)(t:TypeId)(x i:Sl D):Option (Out D):=
 match axD T t with
 | none=>none
 | some (e,n,sz)=>(match x,i with
  | .one (.lf (.ptr l o)), .one (.lf (.int _ m))=>l9 (some (dp (0<=m/\m < n))) (.ptr l (o+m.toNat*sz))
  | _,_=>none)
def ZP (T:TypeId->Option Ty)(t:TypeId)(x i:Sl D):Option (Out D):=
 match axD T t with
 | none=>none
 | some (e,n,sz)=>(match T e with
  | none=>none
  | some te=>(match x,i with
   | .one (.agg cs), .one (.lf (.int _ m))=>
    if Nat.beq cs.length (n*sz)then(if te.agg then some ⟨some (dp (0<=m/\m < n)), .one (.agg ((cs.drop (m.toNat*sz)).take sz)),[]⟩
    else(match cs[m.toNat*sz]? with
     | some y=>l9 (some (dp (0<=m/\m < n))) y
     | none=>none))else none
   | _,_=>none))
def Rh (S:Sh D)(t:TypeId)(fr:Nat):Option (Out D):=
 match S.auH t with
 | some d=>some ⟨none, .one (.lf (.own fr)),[(fr,some (.map d))]⟩
 | none=>none
def awE:Sl D->Option Pv
 | .one (.lf x)=>x.pv
 | _=>none
def mapOf (S:Sh D)(blk:Nat->Option (Bk D))(t:TypeId):Sl D->Option (Mp D)
 | .one (.lf (.own l))=>(match blk l with
  | some (.map d)=>S.mp d
  | some (.wE d)=>S.mp d
  | _=>none)
 | .one (.lf (.dat d))=>S.mp d
 | .one (.lf (.val (.map none)))=>(match S.auH t with
  | some d=>S.mp d
  | none=>none)
 | _=>none
def aCq:Pv->Value->Bool
 | .bool a, .bool b=>a==b
 | .int k a, .int k' b=>WB k k' && a==b
 | .str s, .string u=>s.isEmpty && Nat.beq u.data.size 0
 | _,_=>false
def aaO:List Pv->List Value->Bool
 | [],[]=>true
 | p::ps,v::vs=>aCq p v && aaO ps vs
 | _,_=>false
def Qj:List Pv->List Pv->Bool
 | [],[]=>true
 | p::ps,q::qs=>Nat.beq p.kind q.kind && Qj ps qs
 | _,_=>false
def QE (T:TypeId->Option Ty)(S:Sh D)(blk:Nat->Option (Bk D))(t:TypeId)(x i:Sl D)(ok:Bool):Option (Out D):=
 match T t with
 | none=>none
 | some ty=>(match ty.mp with
  | none=>none
  | some (kt,vt)=>(match T kt,T vt with
   | some tk,some tv=>(match mapOf S blk t x,awE i with
    | some m,some k=>
     if Nat.beq ty.kind 0 && Nat.beq k.kind tk.kind && (Nat.beq m.kind tk.kind && (m.agg==tv.zag && aaO m.zero tv.zero))then
      (match m.agg,m.get k with
      | true,ys=>if ok then some ⟨none, .xx [.agg ys, .lf (.bool (m.has k))],[]⟩else some ⟨none, .one (.agg ys),[]⟩
      | false,[y]=>if ok then some ⟨none, .xx [.lf y, .lf (.bool (m.has k))],[]⟩else l9 none y
      | _,_=>none)else none
    | _,_=>none)
   | _,_=>none))
def atV (agg:Bool):Sl D->Option (List Pv)
 | .one (.lf x)=>if agg then none else(match x.pv with
  | some p=>some [p]
  | none=>none)
 | .one (.agg xs)=>if agg then pvs xs else none
 | _=>none
def Fg (T:TypeId->Option Ty)(S:Sh D)(blk:Nat->Option (Bk D))(t:TypeId)(x i v:Sl D):Option (Out D):=
 match T t with
 | none=>none
 | some ty=>(match ty.mp with
  | none=>none
  | some (kt,vt)=>(match T kt with
   | some tk=>(match x,awE i with
    | .one (.lf (.own l)),some k=>(match blk l with
     | some (.map d)=>(match S.mp d with
      | some m=>(match atV m.agg v with
       | some u=>if Nat.beq ty.kind 0 && Nat.beq k.kind tk.kind && (Nat.beq m.kind tk.kind && Qj u m.zero)then some ⟨none, .one (.lf .any),[(l,some (.map (m.put k u)))]⟩else none
       | none=>none)
      | none=>none)
     | _=>none)
    | _,_=>none)
   | _=>none))
def aG2:Lf D->Bool
 | .int .u8 _=>true
 | _=>false
def apB:Lf D->Bool
 | .int .u8 k=>decide (0<=k) && decide (k < 256)
 | _=>false
def HY (f:Nat->Bool):Nat->Bool
 | 0=>true
 | n+1=>f n && HY f n
def aA6:Lf D->UInt8
 | .int .u8 n=>UInt8.ofNat n.toNat
 | _=>0
def KO (S:Sh D)(d:D):Nat->Bool:=HY fun i=>aG2 (S.cell d i 0)
def Z_ (S:Sh D)(d:D):Nat->Bool:=HY fun i=>apB (S.cell d i 0)
def bytesOf (S:Sh D)(d:D):List UInt8:=(List.range (S.len d)).map fun i=>aA6 (S.cell d i 0)
def Yr (T:TypeId->Option Ty)(S:Sh D)(blk:Nat->Option (Bk D))(src dst:TypeId)(x:Sl D):Option (Out D):=
 match T src,T dst with
 | some ts,some td=>(match ts.elem with
  | none=>none
  | some e=>(match T e with
   | none=>none
   | some te=>if Nat.beq td.kind 3 && (Nat.beq te.kind 24 && Nat.beq te.size 1)then(match x with
    | .one (.lf (.val (.slice none 0 0)))=>l9 none (.str [])
    | x=>(match Jd blk x with
     | some d=>if Nat.beq (S.size d) 1 then l9 (some (dp (KO S d (S.len d)=true))) (.str (bytesOf S d))else none
     | none=>none))else none))
 | _,_=>none
def af4 (T:TypeId->Option Ty)(S:Sh D)(src dst:TypeId)(x:Sl D):Option (Out D):=
 match T src,T dst with
 | some ts,some td=>(match td.elem with
  | none=>none
  | some e=>(match T e with
   | none=>none
   | some te=>if Nat.beq ts.kind 3 && (Nat.beq te.kind 24 && Nat.beq te.size 1)then(match x with
    | .one (.lf (.str s))=>(match S.text e s with
     | none=>none
     | some d2=>if Nat.beq (S.size d2) 1 then l9 none (.dat d2)else none)
    | _=>none)else none))
 | _,_=>none
def Lf.dl:Lf D->Option (Dl D)
 | .bool b=>some (.bool b)
 | .val (.bool b)=>some (.bool b)
 | .int k n=>some (.int k n)
 | .str s=>some (.str s)
 | .dat d=>some (.dat d)
 | .val (.slice none 0 0)=>some .aEh
 | _=>none
def dls:List (Lf D)->Option (List (Dl D))
 | []=>some []
 | x::xs=>(match x.dl,dls xs with
  | some p,some ps=>some (p::ps)
  | _,_=>none)
def Dl.lf:Dl D->Lf D
 | .bool b=> .bool b
 | .int k n=> .int k n
 | .str s=> .str s
 | .dat d=> .dat d
 | .aEh=> .val (.slice none 0 0)
def amo (ag:Bool)(xs:List (Dl D)):Option (Sl D):=
 match ag,xs with
 | false,[x]=>some (.one (.lf x.lf))
 | true,xs=>some (.one (.agg (xs.map Dl.lf)))
 | _,_=>none
def aj6:Sl D->Option (Bool×List (Dl D))
 | .one (.lf x)=>(match x.dl with
  | some p=>some (false,[p])
  | none=>none)
 | .one (.agg xs)=>(match dls xs with
  | some ps=>some (true,ps)
  | none=>none)
 | _=>none
def aB8 (T:TypeId->Option Ty)(t:TypeId)(x:Sl D):Option (Out D):=
 match T t with
 | none=>none
 | some ty=>if Nat.beq ty.kind 0 then none else(match aj6 x with
  | some (ag,ps)=>l9 none (.xt (.ifd t ag ps))
  | none=>none)
def agS (ty:Ty):Option (Sv D):=
 if ty.agg then(if ty.zag then some (.agg (ty.zero.map xG))else none)else(match ty.zero with
  | [z]=>if ty.zag then none else some (.lf (xG z))
  | _=>none)
def R_ (T:TypeId->Option Ty)(t:TypeId)(x:Sl D)(ok:Bool):Option (Out D):=
 match T t with
 | none=>none
 | some ty=>if Nat.beq ty.kind 0 then none else(match x with
  | .one (.lf (.xt (.ifd t' ag ps)))=>(match amo ag ps with
   | some (.one u)=>(match ok with
    | true=>if Nat.beq t' t then some ⟨none, .xx [u, .lf (.val (.bool true))],[]⟩else(match agS ty with
     | some z=>some ⟨none, .xx [z, .lf (.val (.bool false))],[]⟩
     | none=>none)
    | false=>if Nat.beq t' t then some ⟨none, .one u,[]⟩else none)
   | _=>none)
  | _=>none)
def aAG (f:FuncId)(x:Sl D):Option (Out D):=
 match aj6 x with
 | some (ag,ps)=>l9 none (.xt (.clo f ag ps))
 | none=>none
def Zy (Γ:FuncId->Option (Ct D))(blk:Nat->Option (Bk D))(fr:Nat)(f:Sl D)(args:List (Sl D)):Option (Out D):=
 match f with
 | .one (.lf (.xt (.clo f ag ps)))=>(match amo ag ps with
  | some x=>JH Γ f blk (x::args) fr
  | none=>none)
 | _=>none
def PL (T:TypeId->Option Ty)(S:Sh D)(blk:Nat->Option (Bk D))(t:TypeId)(x:Sl D)(lo hi:Option (Sl D)):Option (Out D):=
 match T t with
 | none=>none
 | some ty=>if ty.lit then(match bnd 0 lo,ty.elem with
  | some l,some e=>(match T e with
   | none=>none
   | some te=>(match x with
    | .one (.lf (.own q))=>(match blk q with
     | some (.row _ d)=>if Nat.beq te.size (S.size d) && (Nat.blt 0 te.size && !te.agg)then(match bnd (S.len d) hi with
      | some h=>(match S.sub d l.toNat h.toNat with
       | some d'=>some ⟨some (dp (0<=l/\l<=h/\h<=S.len d)), .one (.lf (.dat d')),[(q,some (.wE d))]⟩
       | none=>none)
      | none=>none)else none
     | some (.wE d)=>if Nat.beq te.size (S.size d) && (Nat.blt 0 te.size && !te.agg)then(match bnd (S.len d) hi with
      | some h=>(match S.sub d l.toNat h.toNat with
       | some d'=>some ⟨some (dp (0<=l/\l<=h/\h<=S.len d)), .one (.lf (.dat d')),[]⟩
       | none=>none)
      | none=>none)else none
     | _=>none)
    | _=>none))
  | _,_=>none)else none
def zX (T:TypeId->Option Ty)(S:Sh D)(blk:Nat->Option (Bk D))(ts:Array TypeId)(x y:Sl D):Option (Out D):=
 match ts.toList,y with
 | [t,t'], .one (.lf (.val (.slice none 0 0)))=>if Nat.beq t t' then(match T t with
  | none=>none
  | some ty=>(match ty.elem with
   | none=>none
   | some e=>(match T e with
    | none=>none
    | some te=>(match x with
     | .one (.lf (.val (.slice none 0 0)))=>l9 none (.val (.slice none 0 0))
     | .one (.lf (.dat d))=>if Nat.blt 0 (S.size d)then l9 none (.dat d)else none
     | .one (.lf (.own l))=>(match blk l with
      | some (.row _ _)=>l9 none (.own l)
      | _=>none)
     | _=>none))))else none
 | _,_=>none
def SX (T:TypeId->Option Ty)(S:Sh D)(fr:Nat)(ts:Array TypeId)(x y:Sl D):Option (Out D):=
 match ts.toList,x,y with
 | [t,t'], .one (.lf (.val (.slice none 0 0))), .one (.lf (.int _ n))=>(match T t,T t' with
  | some ty,some ti=>(match alq ti.kind,ty.elem with
   | some _,some e=>(match T e with
    | some te=>if Nat.blt 0 te.size && Nat.beq te.zero.length te.size then(match S.zero e n.toNat (te.zero.map fun v=>(xG v).norm)with
     | some d=>some ⟨some (dp (0 < n/\n*te.bytes<=281474976710656/\n<=1099511627776)), .one (.lf (.own fr)),[(fr,some (.row e d))]⟩
     | none=>none)else none
    | none=>none)
   | _,_=>none)
  | _,_=>none)
 | _,_,_=>none
def aA5 (T:TypeId->Option Ty)(ts:Array TypeId)(x:Sl D):Option (Out D):=
 match ts.toList,x with
 | [t], .one (.lf (.val (.slice none 0 0)))=>(match T t with
  | some ty=>(match ty.elem with
   | some _=>l9 none (.int .i64 0)
   | none=>none)
  | none=>none)
 | _,_=>none
def QD (T:TypeId->Option Ty)(S:Sh D)(blk:Nat->Option (Bk D))(t:TypeId)(x:Sl D)(lo hi:Option (Sl D))(mx:Sl D):Option (Out D):=
 match lo,hi,mx with
 | none,some (.one (.lf (.int _ h))), .one (.lf (.int _ m))=>(match T t with
  | none=>none
  | some ty=>(match ty.elem with
   | none=>none
   | some e=>(match T e with
    | none=>none
    | some te=>(match x with
     | .one (.lf (.dat d))=>if Nat.beq te.size (S.size d) && Nat.blt 0 te.size then(match S.sub d 0 h.toNat with
      | some d'=>l9 (some (dp (0<=h/\h=m/\h<=S.len d))) (.xt (.clip d'))
      | none=>none)else none
     | .one (.lf (.own q))=>(match blk q with
      | some (.row _ d)=>if Nat.beq te.size (S.size d) && Nat.blt 0 te.size then(match S.sub d 0 h.toNat with
       | some d'=>some ⟨some (dp (0<=h/\h=m/\h<=S.len d)), .one (.lf (.dat d')),[(q,some (.wE d))]⟩
       | none=>none)else none
      | _=>none)
     | _=>none))))
 | _,_,_=>none
def zQ (T:TypeId->Option Ty)(S:Sh D)(blk:Nat->Option (Bk D))(fr:Nat)(ts:Array TypeId)(x y:Sl D):Option (Out D):=
 match x with
 | .one (.lf (.xt e))=>(match e with
  | .clip d1=>(match ts.toList with
   | [t,t']=>if Nat.beq t t' then(match T t with
    | none=>none
    | some ty=>(match ty.elem with
     | none=>none
     | some e=>(match T e with
      | none=>none
      | some te=>(match Jd blk y with
       | none=>none
       | some d2=>if Nat.beq te.size (S.size d2) && (Nat.blt 0 te.size && Nat.beq te.zero.length te.size)then(match S.cat d1 d2 with
        | some d=>some ⟨some (dp (0 < S.len d2/\bT (S.len d1+S.len d2) te.bytes)), .one (.lf (.own fr)),[(fr,some (.row e d))]⟩
        | none=>none)else none))))else none
   | _=>none)
  | _=>none)
 | _=>none
def aqm (T:TypeId->Option Ty)(S:Sh D)(op:BinOp)(t:TypeId)(x y:Sl D):Option (Out D):=
 match T t with
 | none=>none
 | some ty=>if S.run && ty.lit then(match ty.elem,x,y with
  | some _, .one (.lf (.dat d)), .one (.lf (.val (.slice none 0 0)))=>if Nat.blt 0 (S.len d) && Nat.blt 0 (S.size d)then(match op with
   | .eql=>l9 none (.val (.bool false))
   | .neq=>l9 none (.val (.bool true))
   | _=>none)else none
  | _,_,_=>none)else none
def azF (ty:Ty):Bool:=
 match ty.zero with
 | [.pointer none, .slice none 0 0]=>ty.lit && ty.agg && Nat.beq ty.kind 5
 | _=>false
def abG (T:TypeId->Option Ty)(fr:Nat)(t:TypeId):Option (Out D):=
 match T t with
 | none=>none
 | some ty=>if azF ty then some ⟨none, .one (.lf (.ptr fr 0)),[(fr,some (.tc t [.val (.slice none 0 0)]))]⟩else none
def aaS (T:TypeId->Option Ty)(blk:Nat->Option (Bk D))(t:TypeId)(x:Sl D):Option (Out D):=
 match T t with
 | none=>none
 | some ty=>(match x with
  | .one (.lf (.ptr l o))=>(match blk l with
   | some (.tc _ cs)=>if ty.agg then none else(match o with
    | 0=>none
    | o+1=>(match cs[o]? with
     | some y=>l9 none y
     | none=>none))
   | _=>none)
  | _=>none)
def PU (T:TypeId->Option Ty)(blk:Nat->Option (Bk D))(t:TypeId)(x y:Sl D):Option (Out D):=
 match T t,x,y with
 | some ty, .one (.lf (.ptr l o)), .one (.lf u)=>(match blk l with
  | some (.tc t' cs)=>(match o with
   | 0=>none
   | o+1=>if Nat.beq ty.size 1 && (!ty.agg && (Nat.blt o cs.length && u.storable))then some ⟨none, .one (.lf .any),[(l,some (.tc t' (putAt cs o [u])))]⟩else none)
  | _=>none)
 | _,_,_=>none
def arB (te:Ty):Bool:=
 match te.zero with
 | [.int .u8 0]=> !te.zag
 | _=>false
def zq (T:TypeId->Option Ty)(S:Sh D)(blk:Nat->Option (Bk D))(fr:Nat)(ts:Array TypeId)(x y:Sl D):Option (Out D):=
 match ts.toList,y with
 | [t,t'], .one (.lf (.str s))=>(match T t,T t' with
  | some ty,some ty'=>(match ty.elem with
   | none=>none
   | some e=>(match T e with
    | none=>none
    | some te=>if arB te && (Nat.beq te.size 1 && (Nat.beq te.bytes 1 && Nat.beq ty'.kind 3))then(match S.text e s with
     | none=>none
     | some d2=>if Nat.beq (S.size d2) 1 then(match x with
      | .one (.lf (.val (.slice none 0 0)))=>some ⟨some (dp (bT s.length 1)), .one (.lf (.own fr)),[(fr,some (.row e d2))]⟩
      | .one (.lf (.own l))=>(match blk l with
       | some (.row e' d1)=>if Nat.beq e e' && Nat.beq (S.size d1) 1 then(match S.cat d1 d2 with
        | some d=>some ⟨some (dp (bT (S.len d1+s.length) 1)), .one (.lf (.own fr)),[(l,none),(fr,some (.row e d))]⟩
        | none=>none)else none
       | _=>none)
      | _=>none)else none)else none))
  | _,_=>none)
 | _,_=>none
def AA (S:Sh D)(blk:Nat->Option (Bk D))(x:Sl D):Option (Out D):=
 match x with
 | .one (.lf (.own l))=>(match blk l with
  | some (.row _ d)=>if Nat.beq (S.size d) 1 then l9 (some (dp (0 < S.len d))) (.opt l 0 0 1)else none
  | _=>none)
 | .one (.lf (.val (.slice none 0 0)))=>l9 none (.val (.pointer none))
 | _=>none
def ptrTo (T:TypeId->Option Ty)(ts:Array TypeId)(e:TypeId):Bool:=
 match ts.toList with
 | [pt,_]=>(match T pt,T e with
  | some ty,some te=>Nat.beq ty.kind 6 && (Nat.beq te.size 1 && (match ty.mp with
   | some (e',_)=>Nat.beq e e'
   | none=>false))
  | _,_=>false)
 | _=>false
def BK (T:TypeId->Option Ty)(S:Sh D)(blk:Nat->Option (Bk D))(ts:Array TypeId)(x y:Sl D):Option (Out D):=
 match x,y with
 | .one (.lf (.opt l 0 0 1)), .one (.lf (.int .i64 n))=>(match blk l with
  | some (.row e d)=>if ptrTo T ts e && Nat.beq (S.size d) 1 then some ⟨some (dp (n=S.len d/\0 < n/\Z_ S d (S.len d)=true)), .one (.lf (.str (bytesOf S d))),[(l,none)]⟩else none
  | _=>none)
 | .one (.lf (.val (.pointer none))), .one (.lf (.int .i64 n))=>(match ts.toList with
  | [_,_]=>l9 (some (dp (n=0))) (.str [])
  | _=>none)
 | _,_=>none
def xB (T:TypeId->Option Ty)(S:Sh D)(Γ:FuncId->Option (Ct D))(slot:Nat->Sl D)(blk:Nat->Option (Bk D))(fr:Nat)(op:Op):Option (Out D):=
 match op with
 | .alloc t=>abG T fr t
 | .load t x=>aaS T blk t (aH slot x)
 | .store t x y=>PU T blk t (aH slot x) (aH slot y)
 | .indexAddr t x i=>afF T t (aH slot x) (aH slot i)
 | .index t x i=>ZP T t (aH slot x) (aH slot i)
 | .makeMap t none=>Rh S t fr
 | .slice t x lo hi none=>PL T S blk t (aH slot x) (lo.map (aH slot)) (hi.map (aH slot))
 | .slice t x lo hi (some mx)=>QD T S blk t (aH slot x) (lo.map (aH slot)) (hi.map (aH slot)) (aH slot mx)
 | .lookup t x i ok=>QE T S blk t (aH slot x) (aH slot i) ok
 | .mapUpdate t x i v=>Fg T S blk t (aH slot x) (aH slot i) (aH slot v)
 | .insert t x i v=>Fg T S blk t (aH slot x) (aH slot i) (aH slot v)
 | .convert a b x=>(match Yr T S blk a b (aH slot x)with
  | some out=>some out
  | none=>af4 T S a b (aH slot x))
 | .makeInterface t x=>aB8 T t (aH slot x)
 | .typeAssert x _ t ok=>R_ T t (aH slot x) ok
 | .binOp op t x y _=>aqm T S op t (aH slot x) (aH slot y)
 | .makeFunc (.func f) first caps=>(match first.toList,caps.toList with
  | [x],[]=>aAG f (aH slot x)
  | _,_=>none)
 | .nilCheck x=>(match aH slot x with
  | .one (.lf (.xt e))=>(match e with
   | .clo f ag ps=>l9 none (.xt (.clo f ag ps))
   | _=>none)
  | _=>none)
 | .call c=>(match c.callee with
  | .value f=>Zy Γ blk fr (aH slot f) (c.args.toList.map (aH slot))
  | .builtin .append=>(match c.args.toList with
   | [x,y]=>(match SX T S fr c.argTypes (aH slot x) (aH slot y)with
    | some out=>some out
    | none=>(match zX T S blk c.argTypes (aH slot x) (aH slot y)with
     | some out=>some out
     | none=>(match zQ T S blk fr c.argTypes (aH slot x) (aH slot y)with
      | some out=>some out
      | none=>zq T S blk fr c.argTypes (aH slot x) (aH slot y))))
   | _=>none)
  | .builtin .cap=>(match c.args.toList with
   | [x]=>aA5 T c.argTypes (aH slot x)
   | _=>none)
  | .builtin .unsafeSliceData=>(match c.args.toList with
   | [x]=>AA S blk (aH slot x)
   | _=>none)
  | .builtin .unsafeString=>(match c.args.toList with
   | [x,y]=>BK T S blk c.argTypes (aH slot x) (aH slot y)
   | _=>none)
  | _=>none)
 | _=>none
def EP:Op->Bool
 | .makeInterface _ _=>true
 | .makeFunc _ _ _=>true
 | _=>false
def Nq (T:TypeId->Option Ty)(S:Sh D)(Γ:FuncId->Option (Ct D))(slot:Nat->Sl D)(blk:Nat->Option (Bk D))(fr:Nat)(op:Op):Option (Out D):=
 let ls:=iK slot op
 if EP op && ls.all (fun l=>isRow (blk l))then
  (match xB T S Γ (Ce (qx op.operands.toList) slot blk) (lG blk (ls.filterMap (jl blk))) fr op with
  | some out=>some ⟨out.pre,out.val,ls.filterMap (jl blk)++out.blks⟩
  | none=>none)
 else none
def amG (T:TypeId->Option Ty)(S:Sh D)(Γ:FuncId->Option (Ct D))(slot:Nat->Sl D)(blk:Nat->Option (Bk D))(fr:Nat)(op:Op):Option (Out D):=
 match xB T S Γ slot blk fr op with
 | some out=>some out
 | none=>(match Nq T S Γ slot blk fr op with
  | some out=>some out
  | none=>aql T S Γ slot blk fr op)
def Does (T:TypeId->Option Ty)(S:Sh D)(Γ:FuncId->Option (Ct D))(slot:Nat->Sl D)(blk:Nat->Option (Bk D))(fr:Nat)(op:Op)(out:Out D):Prop:=
 amG T S Γ slot blk fr op=some out\/∃b o1 o2,U9 slot blk op=some (b,o1,o2)/\out=bif b then o1 else o2
end
section
variable {D:Type}{P:Program}{S:Sh D}{T:TypeId->Option Ty}{Γ:FuncId->Option (Ct D)}{M M' N:Nat->Prop}{w w':World}{w0:Bs}{g g':Nat->Option Value}{blk blk':Nat->Option (Bk D)}{al:Nat->Prop}
 {a:Act} {o:Oper} {K:Act->World->Prop} {Q:Exit->Act->World->Prop} {slot bW:Nat->Sl D} {out:Out D} {fr:Nat}
theorem Yg (hTy:∀t ty,T t=some ty->fU P t ty){t e:TypeId}{n sz:Nat}(h:axD T t=some (e,n,sz)):∃ty te,T t=some ty/\T e=some te/\te.size=sz/\0 < sz/\ty.size=n*sz/\ty.agg=true/\P.underlying t=some (.array n e)/\fU P t ty/\fU P e te:=by
 unfold axD at h;split at h
 ·cases h
 ·split at h
  ·exact xZ hTy h
  ·cases h
theorem acd {t:TypeId}{x ix:Operand}(ho:o.op= .indexAddr t x ix)(hTy:∀t ty,T t=some ty->fU P t ty)(h:Hp S w0 N blk g al w)(hx:(aH slot x).Rel S (aW N blk g) w g (a.eval x))
  (hi:(aH slot ix).Rel S (aW N blk g) w g (a.eval ix)) (hout:afF T t (aH slot x) (aH slot ix)=some out) (hp:lZ out.pre) (hK:Post S w0 N blk g al w fr out o.dst a K):o.wp P a w K Q:=by
 unfold afF at hout;split at hout
 ·cases hout
 ·rename_i e n sz harr;obtain⟨ty,te,hty,hte,hsz,h0,VX,hag,xK,hok,Ii⟩:=Yg hTy harr;have Px:=kH Ii w;split at hout
  ·rename_i l off k m hex hei;rw[hex]at hx;rw[hei]at hi;simp only[Sl.Rel,Sv.Rel,Lf.Rel]at hi;obtain⟨b,hg,hv⟩:=hx;injection hout with hout
   subst hout;obtain⟨p1,p2⟩:=hp;refine bf (v:= .pointer (some ⟨b,off+m.toNat*sz,none⟩)) ?_ h hK rfl ⟨b,hg,rfl⟩;simp[execOp,ho,Instr.indexAt,Instr.sureAddr,hi,asIntOf,run_underlying xK,hv,p1,p2,Px,hsz,lq]
  ·cases hout
theorem aZ.at {g:Nat->Option Value}{xs:List (Lf D)}{vs:List Value}(h:aZ S M w g xs vs){i:Nat}{x:Lf D}(hx:xs[i]? =some x):∃u,vs[i]? =some u/\x.Rel S M w g u:=aZ.get i h hx
theorem aZ.drop' {g:Nat->Option Value}:∀(n:Nat) {xs:List (Lf D)} {vs:List Value},aZ S M w g xs vs->aZ S M w g (xs.drop n) (vs.drop n)
 | 0,_,_,h=>h
 | n+1,[],[],_=>trivial
 | n+1,x::xs,v::vs,h=>aZ.drop' n h.2
theorem aZ.take' {g:Nat->Option Value}:∀(n:Nat) {xs:List (Lf D)} {vs:List Value},aZ S M w g xs vs->aZ S M w g (xs.take n) (vs.take n)
 | 0,_,_,h=>trivial
 | n+1,[],[],_=>trivial
 | n+1,x::xs,v::vs,h=>⟨h.1,aZ.take' n h.2⟩
theorem ZK {t:TypeId}{x ix:Operand}(ho:o.op= .index t x ix)(hTy:∀t ty,T t=some ty->fU P t ty)(h:Hp S w0 N blk g al w)(hx:(aH slot x).Rel S (aW N blk g) w g (a.eval x))
  (hi:(aH slot ix).Rel S (aW N blk g) w g (a.eval ix)) (hout:ZP T t (aH slot x) (aH slot ix)=some out) (hp:lZ out.pre) (hK:Post S w0 N blk g al w fr out o.dst a K):o.wp P a w K Q:=by
 unfold ZP at hout;split at hout
 ·cases hout
 ·rename_i e n sz harr;obtain⟨ty,te,hty,hte,hsz,h0,VX,hag,xK,hok,Ii⟩:=Yg hTy harr;rw[hte]at hout;dsimp only at hout;have ah2:=kH Ii w;have ae8:=w_ Ii w;split at hout
  ·rename_i cs k m hex hei;rw[hex]at hx;rw[hei]at hi;simp only[Sl.Rel,Sv.Rel,Lf.Rel]at hi;obtain⟨vs,hv,hr⟩:=hx;split at hout
   rotate_left
   ·cases hout
   split at hout
   ·rename_i hea;injection hout with hout
    subst hout;obtain⟨p1,p2⟩:=hp;refine bf (v:= .agg ((vs.drop (m.toNat*sz)).take sz).toArray) ?_ h hK rfl ⟨_,rfl,(hr.drop' _).take' _⟩;have he:vs.toArray.extract (m.toNat*sz) (m.toNat*sz+sz)=((vs.drop (m.toNat*sz)).take sz).toArray:=by
     apply Io.1;simp[Qdq]
    simp[execOp,ho,Instr.index,hi,asIntOf,run_underlying xK,hv,p1,p2,part,ae8,hea,ah2,hsz,he]
   ·rename_i hea;split at hout
    ·rename_i y hy;injection hout with hout
     subst hout;obtain⟨p1,p2⟩:=hp;obtain⟨u,hu,hyr⟩:=hr.at hy;refine bf (v:=u) ?_ h hK rfl hyr;simp[execOp,ho,Instr.index,hi,asIntOf,run_underlying xK,hv,p1,p2,part,ae8,hea,ah2,hsz,hu]
    ·cases hout
  ·cases hout
theorem WR {t:TypeId}(hS:jd S)(ho:o.op= .makeMap t none)(h:Hp S w0 N blk g al w)(hfr:∀n,fr<=n->n < fr+64->¬al n)(hout:Rh S t fr=some out)(hK:Post S w0 N blk g al w fr out o.dst a K):o.wp P a w K Q:=by
 unfold Rh at hout;split at hout
 ·rename_i d hd;injection hout with hout
  subst hout;obtain⟨m,hm,hk⟩:=hS.aAm _ _ hd;have hrun:(execOp a.eval o).run P w= .ok (.value (.map (some w.heap.size))) (w.alloc (.map #[] 0)):=by
   simp[execOp,ho,Instr.makeMap,newObj,Sem.run]
  obtain⟨h1,h2,h3⟩:=h.add (l:=fr) (bk:= .map d) (v:= .map (some w.heap.size)) ((Below.refl w.heap.size w).alloc (lU _) (.map #[] 0)) (hfr fr (lU _) au) (fun b hb=>by simp[d_]at hb;omega)
   (fun M' hk' _=>⟨m,w.heap.size,#[],0,hm,by rw[hk];exact fun p hp=>by simp at hp,rfl, .inl h.below.size,heap_alloc_new w _,by rw[hk];rfl⟩)
  exact lm hrun (hK _ _ _ h3 h2 (h1.weaken TW) (upd_same _ _ _))
 ·cases hout
theorem Pv.beq_eq {p q:Pv}(h:Pv.beq p q=true):p=q:=by
 cases p<;>cases q<;>simp_all [Pv.beq,WB]
theorem abI {t:TypeId}{ty:Ty}{p:Pv}{d:TypeDesc}(hd:kindOf d=ty.kind)(hk:Nat.beq p.kind ty.kind=true):MapKept.IsKey d p.val:=by
 have hk:=Qa hk;rw[<-hd]at hk;cases p with
 | bool b=>cases d<;>simp[Pv.kind,kindOf]at hk<;>first | trivial | (rename_i k;cases k<;>simp[rV]at hk)
 | str s=>cases d<;>simp[Pv.kind,kindOf]at hk<;>first | trivial | (rename_i k;cases k<;>simp[rV]at hk)
 | int k n=>cases d<;>simp[Pv.kind,kindOf]at hk<;>first | (rename_i k';cases k<;>cases k'<;>first | rfl | simp[rV]at hk) | (cases k<;>simp[rV]at hk)
theorem avH {d:TypeDesc}{p q:Pv}(hp:MapKept.IsKey d p.val)(hq:MapKept.IsKey d q.val):Instr.sameNow d p.val q.val=some (Pv.beq p q):=by
 cases p<;>cases q<;>cases d<;>simp_all [MapKept.IsKey,Instr.sameNow,Pv.val,Pv.beq,WB]
 ·rename_i s u;rw[Qb5,MapKept.bytes_beq,Qc6];exact⟨fun e=>by injection e with e;exact Qd Array.toList e,fun e=>by rw[e]⟩
def AU {V:Type}(k:Pv):List (Pv×V)->Option (Nat×V)
 | []=>none
 | p::r=>if Pv.beq k p.1 then some (0,p.2)else(AU k r).map fun q=>(q.1+1,q.2)
theorem MO {V:Type}(k:Pv):∀kvs:List (Pv×V),yz k kvs=(AU k kvs).map (·.2)
 | []=>rfl
 | p::r=>by
  unfold yz AU;split
  ·rfl
  ·rw[MO k r];cases AU k r<;>rfl
theorem ady {V:Type}{k:Pv}:∀{kvs:List (Pv×V)} {q:Nat×V},AU k kvs=some q->∃p∈kvs,p.2=q.2
 | [],q,hq=>by cases hq
 | p::r,q,hq=>by
  unfold AU at hq;split at hq
  ·injection hq with hq;subst hq;exact⟨p,by simp,rfl⟩
  ·cases hmr:AU k r with
   | none=>rw[hmr]at hq;cases hq
   | some q'=>
    rw[hmr]at hq;injection hq with hq
    subst hq;obtain⟨p',h1,h2⟩:=ady hmr;exact⟨p',by simp[h1],h2⟩
theorem TQ {V:Type}{f:V->Value}{d:TypeDesc}{k:Pv}(hk:MapKept.IsKey d k.val):∀(es:List MapEntry) (kvs:List (Pv×V)) (i:Nat),es.map (fun e=>(e.key,e.val))=kvs.map (fun p=>(p.1.val,f p.2))->(∀p∈kvs,MapKept.IsKey d p.1.val)->
  Instr.findNow d k.val es i=some ((AU k kvs).map fun q=>(i+q.1,f q.2))
 | [],[],_,_,_=>rfl
 | e::es,p::kvs,i,h,ha=>by
  simp only[F_,Qdg,V6]at h;unfold Instr.findNow AU;rw[h.1.1,avH hk (ha p oJ)];cases hb:Pv.beq k p.1 with
  | true=>simp[h.1.2]
  | false=>
   simp only[TQ hk es kvs (i+1) h.2 fun q hq=>ha q (by simp[hq])];cases AU k kvs with
   | none=>simp
   | some q=>simp;omega
 | [],_::_,_,h,_=>by simp at h
 | _::_,[],_,h,_=>by simp at h
theorem MF {V:Type}{k:Pv}{v:V}:∀{kvs:List (Pv×V)},AU k kvs=none->TP k v kvs=kvs++[(k,v)]
 | [],_=>rfl
 | p::r,h=>by
  unfold AU at h;unfold TP;split at h
  ·cases h
  ·rename_i hb;rw[qC hb,MF qbq];rfl
theorem Yx {V:Type}{k:Pv}{v:V}:∀{kvs:List (Pv×V)} {j:Nat} {u:V},AU k kvs=some (j,u)->∃p,kvs[j]? =some p/\p.1=k/\TP k v kvs=kvs.set j (k,v)
 | [],_,_,h=>by cases h
 | p::r,j,u,h=>by
  unfold AU at h;unfold TP;split at h
  ·rename_i hb;injection h with h
   injection h with h1 h2
   subst h1;have:=Pv.beq_eq hb;exact⟨p,rfl,this.symm,by rw[Qb hb,<-this];rfl⟩
  ·rename_i hb;cases hm:AU k r with
   | none=>rw[hm]at h;cases h
   | some q=>
    rw[hm]at h;simp only[GZ,KZ,V6]at h;obtain⟨rfl,rfl⟩:=h;obtain⟨p',h1,h2,h3⟩:=Yx (v:=v) (j:=q.1) (u:=q.2) hm;exact⟨p',by simpa using h1,h2,by rw[qC hb,h3];rfl⟩
theorem acX {x:Sl D}{p:Pv}{v:Value}{M:Nat->Prop}{g:Nat->Option Value}(h:awE x=some p)(hr:x.Rel S M w g v):v=p.val/\p.fits:=by
 unfold awE at h;split at h
 ·exact Tn h hr
 ·cases h
theorem amI {agg:Bool}{x:Sl D}{ps:List Pv}{v:Value}{M:Nat->Prop}{g:Nat->Option Value}(h:atV agg x=some ps)(hr:x.Rel S M w g v):v=rO agg ps/\∀p∈ps,p.fits:=by
 unfold atV at h;split at h
 ·split at h
  ·cases h
  ·rename_i ha;have ha:agg=false:=by simpa using ha
   subst ha;split at h
   ·rename_i p hp;injection h with h
    subst h;obtain⟨q1,q2⟩:=Tn hp hr;exact⟨q1,fun x hx=>by have:=Aj.1 hx;subst this;exact q2⟩
   ·cases h
 ·split at h
  ·rename_i ha;subst ha;obtain⟨vs,rfl,hl⟩:=hr;obtain⟨q1,q2⟩:=Qi h hl;exact⟨by rw[q1];rfl,q2⟩
  ·cases h
 ·cases h
theorem Yi {t:TypeId}{ty:Ty}{k v:TypeId}(h:fU P t ty)(hm:ty.mp=some (k,v))(hk:ty.kind=0):P.underlying t=some (.map k v):=by
 obtain⟨i,d,z,lt,_,hd,_,rfl⟩:=mF h;dsimp only at hm hk;cases d<;>simp[ait,kindOf]at hm hk
 obtain⟨rfl,rfl⟩:=hm;exact hd
theorem amU {t:TypeId}{ty:Ty}{k v:TypeId}(h:fU P t ty)(hm:ty.mp=some (k,v))(hk:ty.kind=6):P.underlying t=some (.pointer k):=by
 obtain⟨i,d,z,lt,_,hd,_,rfl⟩:=mF h;dsimp only at hm hk;cases d<;>simp[ait,kindOf]at hm hk
 obtain⟨rfl,rfl⟩:=hm;exact hd
theorem Pv.VZ {p:Pv}{M:Nat->Prop}{g:Nat->Option Value}(hf:p.fits):(Pv.lf (D:=D) p).Rel S M w g p.val:=by
 cases p with
 | bool b=>rfl
 | int k n=>rfl
 | str s=>exact⟨rfl,hf⟩
theorem Pv.ak3 {M:Nat->Prop}{g:Nat->Option Value}:∀{ps:List Pv},(∀p∈ps,p.fits)->aZ S M w g (ps.map (Pv.lf (D:=D))) (ps.map Pv.val)
 | [],_=>trivial
 | p::ps,h=>⟨Pv.VZ (h p oJ),Pv.ak3 fun q hq=>h q (by simp[hq])⟩
theorem avT {p:Pv}{v:Value}(h:aCq p v=true):v=p.val/\p.fits:=by
 unfold aCq at h;split at h
 ·simp at h;subst h;exact⟨rfl,trivial⟩
 ·simp only[WB,jY,Qc6]at h;obtain⟨rfl,rfl⟩:=h;exact⟨rfl,trivial⟩
 ·rename_i s u;simp only[jY,List.isEmpty_iff]at h;obtain⟨rfl,h2⟩:=h;have h2:=Qa h2;have:u.data= #[]:=Array.eq_empty_of_size_eq_zero h2;refine⟨?_,by simp[Pv.fits]⟩;show Value.string u=Value.string ⟨#[]⟩
  rw[<-this]
 ·cases h
theorem YV:∀{ps:List Pv} {vs:List Value},aaO ps vs=true->vs=ps.map Pv.val/\∀p∈ps,p.fits
 | [],[],_=>⟨rfl,fun p hp=>by simp at hp⟩
 | p::ps,v::vs,h=>by
  simp only[aaO,jY]at h;obtain⟨q1,q2⟩:=avT h.1;obtain⟨q3,q4⟩:=YV h.2;exact⟨by rw[q1,q3];rfl,fun q hq=>by rcases yR.1 hq with rfl | hq;exact q2;exact q4 q hq⟩
 | [],_::_,h=>by cases h
 | _::_,[],h=>by cases h
theorem TF:∀{ps qs:List Pv},Qj ps qs=true->ps.map Pv.kind=qs.map Pv.kind
 | [],[],_=>rfl
 | p::ps,q::qs,h=>by
  simp only[Qj,jY]at h;simp[Qa h.1,TF h.2]
 | [],_::_,h=>by cases h
 | _::_,[],h=>by cases h
theorem aBt (hS:jd S)(h:Hp S w0 N blk g al w){t:TypeId}{x:Sl D}{v:Value}{m:Mp D}(hm:mapOf S blk t x=some m)(hx:x.Rel S (aW N blk g) w g v):ayD S m/\apo w m.agg m.kvs v:=by
 unfold mapOf at hm;split at hm
 ·rename_i l;have hx:g l=some v:=hx;split at hm
  ·rename_i d hb;obtain⟨v',hv',m',r,es,n,hm',hf,rfl,_,hh,hr⟩:=h.dH l _ hb;rw[hm]at hm';injection hm' with hm'
   subst hm';rw[hx]at hv';injection hv' with hv'
   exact⟨(hS.zi _ _ hm).2.2,hf, .inr ⟨r,es,n,hv',hh,hr⟩⟩
  ·rename_i d hb;obtain⟨v',hv',hd⟩:=h.dH l _ hb;rw[hx]at hv';injection hv' with hv'
   subst hv';exact⟨(hS.zi _ _ hm).2.2,dA.map hd hm⟩
  ·cases hm
 ·exact⟨(hS.zi _ _ hm).2.2,dA.map hx hm⟩
 ·split at hm
  ·rename_i d hd;obtain⟨m',hm',hk⟩:=hS.aAm _ _ hd;rw[hm]at hm';injection hm' with hm'
   subst hm';refine⟨(hS.zi _ _ hm).2.2,?_⟩;rw[hk];exact⟨fun p hp=>by simp at hp, .inl ⟨hx,rfl⟩⟩
  ·cases hm
 ·cases hm
theorem aas {t:TypeId}{x ix:Operand}{ok:Bool}(hS:jd S)(ho:o.op= .lookup t x ix ok)(hTy:∀t ty,T t=some ty->fU P t ty)(h:Hp S w0 N blk g al w)(hx:(aH slot x).Rel S (aW N blk g) w g (a.eval x))
  (hi:(aH slot ix).Rel S (aW N blk g) w g (a.eval ix)) (hout:QE T S blk t (aH slot x) (aH slot ix) ok=some out) (hK:Post S w0 N blk g al w fr out o.dst a K):o.wp P a w K Q:=by
 unfold QE at hout;split at hout
 ·cases hout
 rename_i ty hty;split at hout
 ·cases hout
 rename_i kt vt hmp;split at hout
 ·rename_i tk tv htk htv;split at hout
  ·rename_i m k hmo hk;split at hout
   ·rename_i hc;simp only[jY,Qc6]at hc;obtain⟨⟨c0,c1⟩,c2,c3,c4⟩:=hc;have xK:=Yi (hTy _ _ hty) hmp (Qa c0);obtain⟨d,hd,hkd⟩:=ny (hTy _ _ htk);have hkey:=abI (t:=kt) (ty:=tk) hkd c1;obtain⟨ayU,hkf⟩:=acX hk hi;obtain⟨hmk,hfits,hmap⟩:=aBt hS h hmo hx;have c2':=Qa c2;have hall:∀p∈m.kvs,MapKept.IsKey d p.1.val:=fun p hp=>abI (t:=kt) (ty:=tk) hkd (by rw[hmk.keys p hp];exact c2)
    have hkk:k.kind=m.kind:=by rw[c2'];exact Qa c1
    have hhas:=hmk.has k hkk;have hget:=hmk.get k hkk;obtain⟨z,hz,hzc,hza⟩:=agp (hTy _ _ htv) w;obtain⟨z1,z2⟩:=YV c4;have hzv:∀p,m.get k=m.zero.map Pv.lf->(m.agg=true\/m.zero=[p])->z=rO m.agg m.zero:=by
     intro p _ hp;rw[<-hzc]at z1;cases hag:m.agg with
     | true=>
      rw[hag]at c3;rw[<-c3]at hza;cases z<;>first | (simp[yX]at hza;done) | skip
      rename_i cs;simp only[Value.cells]at z1;show Value.agg cs=Value.agg (m.zero.map Pv.val).toArray
      rw[<-z1]
     | false=>
      rw[hag]at c3 hp;rw[<-c3]at hza;have hp:=hp.resolve_left oJ;rw[hp]at z1⊢;cases z<;>first | (simp[yX]at hza;done) | (simp[Value.cells]at z1;exact z1)
    have run:∀(vs:List Pv),(yz k m.kvs).getD m.zero=vs->(m.agg=true\/∃p,vs=[p])->(Instr.lookup t (a.eval x) (a.eval ix) ok).run P w= .ok (if ok then .tuple #[rO m.agg vs, .bool (m.has k)]else rO m.agg vs) w/\∀p∈vs,p.fits:=by
     intro vs hvs hp;have body:∀(es:Array MapEntry),es.toList.map (fun e=>(e.key,e.val))=m.kvs.map (fun p=>(p.1.val,rO m.agg p.2))->((do
       Instr.checkKey es.isEmpty 10000 kt k.val
       let (v,ok')<-match<-Instr.findKey kt k.val es.toList with
        | some (_,v)=>pure (v,true)
        | none=>pure (<-zeroValue vt,false)
       pure (if ok then .tuple #[v, .bool ok']else v)):Sem Value).run P w= .ok (if ok then .tuple #[rO m.agg vs, .bool (m.has k)]else rO m.agg vs) w:=by
      intro es he;have hf:(Instr.findKey kt k.val es.toList).run P w= .ok ((AU k m.kvs).map fun q=>(0+q.1,rO m.agg q.2)) w:=MapKept.run_findKey hd (TQ hkey es.toList m.kvs 0 he hall);have hck:=MapKept.run_checkKey (P:=P) (w:=w) hd hkey es.isEmpty 9999;rw[MO]at hhas hvs hget;cases hm:AU k m.kvs with
      | some q=>
       rw[hm]at hf hhas hvs;simp only[GZ,Qc9,Option.isSome_some]at hvs hhas;rw[hhas,<-hvs];simp only[Sem.run_bind,hck,hf,Result.andThen_ok,GZ,Sem.run_pure]
      | none=>
       rw[hm]at hf hhas hvs hget;simp only[Qcd,Option.getD_none,Option.isSome_none]at hvs hhas hget;have hzz:z=rO m.agg m.zero:=by
        rcases hp with hp | ⟨p,hp⟩
        ·exact hzv (.bool false) hget (.inl hp)
        ·exact hzv p hget (.inr (hvs.trans hp))
       rw[hhas,<-hvs,<-hzz];simp only[Sem.run_bind,hck,hf,Result.andThen_ok,Qcd,Sem.run_pure,hz]
     refine⟨?_,?_⟩
     ·rcases hmap with⟨hv,hnil⟩ | ⟨r,es,n,hv,hh,he⟩
      ·have h2:=body #[] (by rw[hnil];rfl);rw[<-h2,hv,ayU];simp[Instr.lookup,run_underlying xK];rfl
      ·have h2:=body es he;rw[<-h2,hv,ayU];simp[Instr.lookup,run_underlying xK,MapKept.run_getObj_map hh];rfl
     ·rw[MO]at hvs;cases hm:AU k m.kvs with
      | some q=>
       rw[hm]at hvs;obtain⟨p,h1,h2⟩:=ady hm;have hvs:q.2=vs:=hvs;rw[<-hvs,<-h2];exact(hfits p h1).2
      | none=>
       rw[hm]at hvs;have hvs:m.zero=vs:=hvs;rw[<-hvs];exact z2
    have fin:∀(y:Sv D) (vs:List Pv),(yz k m.kvs).getD m.zero=vs->(m.agg=true\/∃p,vs=[p])->((∀p∈vs,p.fits)->y.Rel S (aW N blk g) w g (rO m.agg vs))->
      (if ok then some (⟨none, .xx [y, .lf (.bool (m.has k))],[]⟩:Out D)else some ⟨none, .one y,[]⟩)=some out->o.wp P a w K Q:=by
     intro y vs hvs hp hy ho';obtain⟨hrun,hfs⟩:=run vs hvs hp;have hyr:=hy hfs;split at ho'
     ·rename_i hok;injection ho' with ho'
      subst ho';rw[Qb hok]at hrun;refine bf (v:= .tuple #[rO m.agg vs, .bool (m.has k)]) ?_ h hK rfl ⟨[_,_],rfl,hyr,rfl,trivial⟩;simp[execOp,ho,hrun]
     ·rename_i hok;injection ho' with ho'
      subst ho';rw[qC hok]at hrun;refine bf (v:=rO m.agg vs) ?_ h hK rfl hyr;simp[execOp,ho,hrun]
    split at hout
    ·rename_i hag;refine fin (.agg (m.get k)) _ rfl (.inl hag) (fun hfs=> ?_) hout;rw[hag,hget];exact⟨_,rfl,Pv.ak3 hfs⟩
    ·rename_i y hag hge;rw[hget]at hge;have hvs:∃p,(yz k m.kvs).getD m.zero=[p]:=by
      cases hl:(yz k m.kvs).getD m.zero with
      | nil=>rw[hl]at hge;cases hge
      | cons p r=>
       rw[hl]at hge;cases r with
       | nil=>exact⟨p,rfl⟩
       | cons q r=>simp at hge
     obtain⟨p,hvs⟩:=hvs;rw[hvs]at hge;have hye:y=Pv.lf p:=by simpa using hge.symm
     subst hye;refine fin (.lf (Pv.lf p)) [p] hvs (.inr ⟨p,rfl⟩) (fun hfs=> ?_) hout;rw[hag];exact Pv.VZ (hfs p oJ)
    ·cases hout
   ·cases hout
  ·cases hout
 ·cases hout
theorem JD {t:TypeId}{x ix y:Operand}(hS:jd S)(ho:o.op= .mapUpdate t x ix y\/o.op= .insert t x ix y)(hTy:∀t ty,T t=some ty->fU P t ty)(h:Hp S w0 N blk g al w)(hx:(aH slot x).Rel S (aW N blk g) w g (a.eval x))
  (hi:(aH slot ix).Rel S (aW N blk g) w g (a.eval ix)) (hy:(aH slot y).Rel S (aW N blk g) w g (a.eval y)) (hout:Fg T S blk t (aH slot x) (aH slot ix) (aH slot y)=some out) (hK:Post S w0 N blk g al w fr out o.dst a K):o.wp P a w K Q:=by
 unfold Fg at hout;split at hout
 ·cases hout
 rename_i ty hty;split at hout
 ·cases hout
 rename_i kt vt hmp;split at hout
 rotate_left
 ·cases hout
 rename_i tk htk;split at hout
 rotate_left
 ·cases hout
 rename_i l k hex hk;rw[hex]at hx;have hx:g l=some (a.eval x):=hx;split at hout
 rotate_left
 ·cases hout
 rename_i d0 hb;split at hout
 rotate_left
 ·cases hout
 rename_i m hm0;split at hout
 rotate_left
 ·cases hout
 rename_i u hu;split at hout
 rotate_left
 ·cases hout
 rename_i hc;injection hout with hout
 subst hout;simp only[jY]at hc;obtain⟨⟨c0,c1⟩,c2,c3⟩:=hc;have xK:=Yi (hTy _ _ hty) hmp (Qa c0);obtain⟨d,hd,hkd⟩:=ny (hTy _ _ htk);have hkey:=abI (t:=kt) (ty:=tk) hkd c1;have hmk:=(hS.zi _ _ hm0).2.2;have hall:∀p∈m.kvs,MapKept.IsKey d p.1.val:=fun p hp=>abI (t:=kt) (ty:=tk) hkd (by rw[hmk.keys p hp];exact c2)
 have hkk:k.kind=m.kind:=by rw[Qa c2];exact Qa c1
 obtain⟨m',hm',aAk,aHj⟩:=hmk.put k u hkk (TF c3);obtain⟨ayU,hkf⟩:=acX hk hi;obtain⟨huv,huf⟩:=amI hu hy;obtain⟨v',hv',m2,r,es,n,hm2,hf,rfl,Ci,hh,he⟩:=h.dH l _ hb;rw[hm0]at hm2;injection hm2 with hm2
 subst hm2;rw[hx]at hv';injection hv' with hv'
 have hfn:=MapKept.run_findKey (P:=P) (w:=w) hd (TQ hkey es.toList m.kvs 0 he hall);have hck:=MapKept.run_checkKey (P:=P) (w:=w) hd hkey false 9999;have fin:∀(es':Array MapEntry) (n':Nat),(Instr.mapUpdate t (.map (some r)) k.val (rO m.agg u)).run P w= .ok () {w with heap:=w.heap.setIfInBounds r (.map es' n')}->es'.toList.map (fun e=>(e.key,e.val))=(TP k u m.kvs).map (fun p=>(p.1.val,rO m.agg p.2))->(∀p∈TP k u m.kvs,p.1.fits/\∀x∈p.2,x.fits)->o.wp P a w K Q:=by
  intro es' n' hrun he' hf';obtain⟨q1,q2⟩:=MapKept.heap_set (o':=Obj.map es' n') hh;obtain⟨hp',hk'⟩:=h.write (w':={w with heap:=w.heap.setIfInBounds r (.map es' n')}) (bk':= .map (m.put k u)) hb rfl rfl hx (by rw[hv'];rfl) rfl rfl rfl oJ (fun m hm=>q2 m hm)
   (fun _=>⟨m',r,es',n',hm',by rw[aAk];exact hf',hv',Ci,q1,by rw[aAk,aHj];exact he'⟩)
  refine KA ?_ (hK _ _ _ (More.refl _) hk' (hp'.weaken fun _ h=> .inl h) trivial);rcases ho with ho | ho<;>simp[execOp,ho,hv',ayU,huv,hrun]
 cases hmi:AU k m.kvs with
 | none=>
  rw[hmi]at hfn;refine fin (es.push {key:=k.val,val:=rO m.agg u,born:=n}) (n+1) ?_ ?_ ?_
  ·simp only[Qcd]at hfn;simp[Instr.mapUpdate,run_underlying xK,MapKept.run_getObj_map hh,hck,hfn,MapKept.run_setObj_map _ hh]
  ·rw[MF hmi];simp[he]
  ·rw[MF hmi];intro p hp;rcases tY.1 hp with hp | hp
   ·exact hf p hp
   ·have:=Aj.1 hp;subst this;exact⟨hkf,huf⟩
 | some q=>
  rw[hmi]at hfn;obtain⟨p,hp1,hp2,hp3⟩:=Yx (v:=u) (j:=q.1) (u:=q.2) hmi;have hlen:es.toList.length=m.kvs.length:=by have:=Qd List.length he;simpa using this
  have hql:q.1 < es.size:=by
   have:=(Qaz.1 hp1).1;simp at hlen;omega
  have hej:es[q.1]? =some es[q.1]:=Qdo hql;have hkk:es[q.1].key=k.val:=by
   have h1:(es.toList.map (fun e=>(e.key,e.val)))[q.1]? =(m.kvs.map fun p=>(p.1.val,rO m.agg p.2))[q.1]? :=by rw[he]
   simp only[Qbb,hp1,GZ]at h1;rw[Qb8,hej]at h1;simp at h1;rw[h1.1,hp2]
  refine fin (es.modify q.1 fun e=>{e with key:=k.val,val:=rO m.agg u}) n ?_ ?_ ?_
  ·simp only[GZ,BZ]at hfn;simp[Instr.mapUpdate,run_underlying xK,MapKept.run_getObj_map hh,hck,hfn,hej,hkk,MapKept.run_keyThatStays hkey,MapKept.run_setObj_map _ hh]
  ·rw[hp3];refine List.ext_getElem? fun i=> ?_;have h1:(es.toList.map (fun e=>(e.key,e.val)))[i]? =(m.kvs.map fun p=>(p.1.val,rO m.agg p.2))[i]? :=by rw[he]
   simp only[Qbb,Qb8]at h1;rw[Qbb,Qb8,Qco,Qbb,List.getElem?_set];by_cases hiq:q.1=i
   ·subst hiq;have hlt:q.1 < m.kvs.length:=(Qaz.1 hp1).1;rw[hej];simp[hlt]
   ·rw[qC hiq,qC hiq];exact h1
  ·rw[hp3];intro p' hp';rcases Qcn hp' with hp' | rfl
   ·exact hf p' hp'
   ·exact⟨hkf,huf⟩
theorem afi (ns:List Int):∀(b:ByteArray),ns.foldl (fun r n=>r.push (UInt8.ofNat n.toNat)) b=⟨(b.data.toList++ns.map fun n=>UInt8.ofNat n.toNat).toArray⟩:=by
 induction ns with
 | nil=>intro b;simp
 | cons n ns ih=>
  intro b;rw[List.foldl_cons,ih];congr 2;simp[ByteArray.push]
theorem abC {f:Nat->Bool}:∀{n:Nat},HY f n=true->∀i,i < n->f i=true
 | 0,_,i,hi=>by omega
 | n+1,h,i,hi=>by
  simp only[HY,jY]at h;by_cases e:i=n
  ·subst e;exact h.1
  ·exact abC h.2 i au
theorem aer {d:D}{n:Nat}(h:KO S d n=true)(i:Nat)(hi:i < n):∃k,S.cell d i 0= .int .u8 k:=by
 have:=abC h i hi;unfold aG2 at this;split at this
 ·rename_i k hk;exact⟨k,hk⟩
 ·cases this
theorem alf {d:D}{n:Nat}(h:Z_ S d n=true)(i:Nat)(hi:i < n):∃k,S.cell d i 0= .int .u8 k/\0<=k/\k < 256:=by
 have:=abC h i hi;unfold apB at this;split at this
 ·rename_i k hk;simp only[jY,Qbj]at this;exact⟨k,hk,this.1,this.2⟩
 ·cases this
theorem X0 {f g:Nat->Bool}(h:∀i,f i=true->g i=true):∀{n:Nat},HY f n=true->HY g n=true
 | 0,_=>rfl
 | n+1,hn=>by
  simp only[HY,jY]at hn⊢;exact⟨h n hn.1,X0 h hn.2⟩
theorem afD {d:D}{n:Nat}(h:Z_ S d n=true):KO S d n=true:=
 X0 (fun i hi=>by
  unfold apB at hi;split at hi
  ·rename_i k hk;rw[hk];rfl
  ·cases hi) h
theorem Tv {d:D}{news:List Value}{M:Nat->Prop}{g:Nat->Option Value}(hs:S.size d=1)(hb:KO S d (S.len d)=true)(hl:news.length=S.len d*S.size d)
  (hc:∀i j,i < S.len d->j < S.size d->∃u,news[i*S.size d+j]? =some u/\(S.cell d i j).Rel S M w g u):∃ns:List Int,news=ns.map (Value.int .u8)/\ns.map (fun n=>UInt8.ofNat n.toNat)=bytesOf S d:=by
 rw[hs,Qdb]at hl;have key:∀i,i < S.len d->∃k,S.cell d i 0= .int .u8 k/\news[i]? =some (.int .u8 k):=fun i hi=>by
  obtain⟨k,hk⟩:=aer hb i hi;obtain⟨u,hu,hr⟩:=hc i 0 hi au;rw[hk]at hr;rw[hs,Qdb,MB]at hu;have hr:u= .int .u8 k:=hr;exact⟨k,hk,by rw[hu,hr]⟩
 refine⟨(List.range (S.len d)).map fun i=>match S.cell d i 0 with
  | .int .u8 n=>n
  | _=>0,?_,?_⟩
 ·refine List.ext_getElem? fun i=> ?_;by_cases hi:i < S.len d
  ·obtain⟨k,hk,hn⟩:=key i hi;simp[hn,Qbb,Qec hi,hk]
  ·rw[Qc au,Qc qbo]
 ·unfold bytesOf;rw[Qc2];refine Qbn fun i hi=> ?_;obtain⟨k,hk,_⟩:=key i (Qcs.1 hi);simp[hk,aA6]
theorem agq {t dst:TypeId}{x:Operand}(hS:jd S)(ho:o.op= .convert t dst x)(hTy:∀t ty,T t=some ty->fU P t ty)(h:Hp S w0 N blk g al w)(hx:(aH slot x).Rel S (aW N blk g) w g (a.eval x))
  (hout:Yr T S blk t dst (aH slot x)=some out) (hpre:lZ out.pre) (hK:Post S w0 N blk g al w fr out o.dst a K):o.wp P a w K Q:=by
 unfold Yr at hout;split at hout
 ·rename_i ts td hts htd;split at hout
  ·cases hout
  rename_i e hel;split at hout
  ·cases hout
  rename_i te hte;have hsl:=kY (hTy _ _ hts) hel;split at hout
  ·rename_i hc;simp only[jY]at hc;obtain⟨c1,c2,c3⟩:=hc;have c1:=Qa c1;have c2:=Qa c2;obtain⟨dd,hdd,hkd⟩:=ny (hTy _ _ htd);obtain⟨de,hde,hke⟩:=ny (hTy _ _ hte);have hdd:P.underlying dst=some .string:=by
    rw[c1]at hkd;cases dd<;>simp[kindOf]at hkd<;>first | exact hdd | (rename_i k;cases k<;>simp[rV]at hkd)
   have hde:P.underlying e=some (.int .u8):=by
    rw[c2]at hke;cases de<;>simp[kindOf]at hke<;>(rename_i k;cases k<;>simp[rV]at hke;exact hde)
   split at hout
   ·rename_i hex;rw[hex]at hx;have hx:a.eval x= .slice none 0 0:=hx;injection hout with hout
    subst hout;refine bf (v:= .string ⟨#[]⟩) ?_ h hK rfl ⟨rfl,by simp⟩;simp only[execOp,ho,hx,Sem.run_bind,run_convert_bytes_string w t dst e none 0 0 hsl hde hdd];rfl
   ·split at hout
    ·rename_i d hd;split at hout
     ·rename_i hc;have hs:=Qa hc;injection hout with hout
      subst hout;obtain⟨av,cap,news,hv,hl,hmem,hnone,hone,hcell⟩:=GN hS h hx hd au;obtain⟨ns,hn1,hn2⟩:=Tv hs hpre hl hcell;have hlen:(bytesOf S d).length=S.len d:=by simp[bytesOf]
      have hle:S.len d<=9223372036854775807:=by
       unfold Jd at hd;split at hd
       ·rename_i d' hex;injection hd with hd
        subst hd;rw[hex]at hx;exact dA.ah5 hx
       ·rename_i l hex;rw[hex]at hx;have hx:g l=some (a.eval x):=hx;split at hd
        ·rename_i e' d' hb;injection hd with hd
         subst hd;obtain⟨_,_,hm,_⟩:=h.dH l _ hb;exact hm.2.1
        ·rename_i d' hb;injection hd with hd
         subst hd;obtain⟨_,_,hm⟩:=h.dH l _ hb;exact dA.ah5 hm
        ·cases hd
       ·cases hd
      refine bf (v:= .string ⟨(bytesOf S d).toArray⟩) ?_ h hK rfl ⟨rfl,by omega⟩;have hcv:=run_convert_bytes_string w t dst e av (S.len d) cap hsl hde hdd;have hb:(Conv.bytesToString (.slice av (S.len d) cap)).run P w= .ok (.string ⟨(bytesOf S d).toArray⟩) w:=by
       cases av with
       | none=>
        have h0:=hnone rfl;have:bytesOf S d=[]:=Qda au;rw[this];rfl
       | some ad=>
        have hld:(loadCells ad (S.len d)).run P w= .ok (ns.map (Value.int .u8)).toArray w:=by
         have:=run_loadCells (P:=P) (w:=w) ad news 0 #[] (fun k u hk=>by have:=hmem ad rfl k u hk;simpa using this);rw[hl,hs,Qdb]at this;simpa[loadCells,hn1]using this
        rw[run_bytesToString w ad (S.len d) cap ns hld,afi,hn2];simp
      simp only[execOp,ho,hv,Sem.run_bind,hcv,hb,Result.andThen_ok,Sem.run_pure]
     ·cases hout
    ·cases hout
  ·cases hout
 ·cases hout
theorem asP {x:Lf D}{p:Dl D}{v:Value}{M:Nat->Prop}{g:Nat->Option Value}(h:x.dl=some p)(hr:x.Rel S M w g v):p.Rel S M w v:=by
 unfold Lf.dl at h;split at h<;>first | (injection h with h;subst h;exact hr) | cases h
theorem aiY {M:Nat->Prop}{g:Nat->Option Value}:∀{xs:List (Lf D)} {ps:List (Dl D)} {vs:List Value},dls xs=some ps->aZ S M w g xs vs->uy S M w ps vs
 | [],ps,[],h,_=>by simp[dls]at h;subst h;trivial
 | x::xs,ps,v::vs,h,hr=>by
  unfold dls at h;split at h
  ·rename_i p ps' h1 h2;injection h with h
   subst h;exact⟨asP h1 hr.1,aiY h2 hr.2⟩
  ·cases h
theorem YT {M:Nat->Prop}{g:Nat->Option Value}{x:Sl D}{ag:Bool}{ps:List (Dl D)}{v:Value}(h:aj6 x=some (ag,ps))(hr:x.Rel S M w g v):Nv S M w ag ps v:=by
 unfold aj6 at h;split at h
 ·split at h
  ·rename_i p hp;injection h with h
   injection h with h1 h2
   subst h1 h2;exact asP hp hr
  ·cases h
 ·split at h
  ·rename_i ps' hp;injection h with h
   injection h with h1 h2
   subst h1 h2;obtain⟨vs,hv,hr⟩:=hr;exact⟨vs,hv,aiY hp hr⟩
  ·cases h
 ·cases h
theorem Dl.VZ {M:Nat->Prop}{g:Nat->Option Value}{p:Dl D}{v:Value}(h:p.Rel S M w v):p.lf.Rel S M w g v:=by
 cases p<;>exact h
theorem atF {M:Nat->Prop}{g:Nat->Option Value}:∀{ps:List (Dl D)} {vs:List Value},uy S M w ps vs->aZ S M w g (ps.map Dl.lf) vs
 | [],[],_=>trivial
 | p::ps,v::vs,h=>⟨Dl.VZ h.1,atF h.2⟩
theorem adU {M:Nat->Prop}{g:Nat->Option Value}{ag:Bool}{ps:List (Dl D)}{x:Sl D}{v:Value}(h:amo ag ps=some x)(hr:Nv S M w ag ps v):x.Rel S M w g v:=by
 unfold amo at h;split at h
 ·injection h with h
  subst h;exact Dl.VZ hr
 ·injection h with h
  subst h;obtain⟨vs,hv,hr⟩:=hr;exact⟨vs,hv,atF hr⟩
 ·cases h
theorem amb {t:TypeId}{x:Operand}(ho:o.op= .makeInterface t x)(hTy:∀t ty,T t=some ty->fU P t ty)(h:Hp S w0 N blk g al w)(hx:(aH slot x).Rel S (aW N blk g) w g (a.eval x))
  (hout:aB8 T t (aH slot x)=some out) (hK:Post S w0 N blk g al w fr out o.dst a K):o.wp P a w K Q:=by
 unfold aB8 at hout;split at hout
 ·cases hout
 ·rename_i ty hty;split at hout
  ·cases hout
  ·rename_i hk;have hk:ty.kind≠0:=fun e=>hk qcx
   have hrun:=run_makeInterface (P:=P) w t (a.eval x) (yf (hTy _ _ hty) hk);split at hout
   ·rename_i ag ps hd;injection hout with hout
    subst hout;refine bf (v:= .iface t (a.eval x)) ?_ h hK rfl ⟨_,rfl,YT hd hx⟩;simp[execOp,ho,hrun]
   ·cases hout
theorem ahN {P:Program}{t:TypeId}{ty:Ty}{z:Sv D}{M:Nat->Prop}{g:Nat->Option Value}(h:fU P t ty)(hz:agS ty=some z)(w:World):∃u,(zeroValue t).run P w= .ok u w/\z.Rel S M w g u:=by
 obtain⟨u,hu,hc,ha⟩:=agp h w;refine⟨u,hu,?_⟩;unfold agS at hz;split at hz
 ·split at hz
  ·rename_i hzg;injection hz with hz
   subst hz;rw[hzg]at ha;cases u<;>simp[yX]at ha
   rename_i cs;refine⟨cs.toList,by simp,?_⟩;have:cs.toList=ty.zero:=by rw[<-hc];simp[Value.cells]
   rw[this];exact rG _
  ·cases hz
 ·split at hz
  ·rename_i z0 hz0;split at hz
   ·cases hz
   ·rename_i hzg;injection hz with hz
    subst hz;have hzg:ty.zag=false:=by simpa using hzg
    rw[hzg]at ha;rw[<-hc]at hz0;have:u=z0:=by cases u<;>first | (simp[Value.cells]at hz0;exact hz0) | (simp[yX]at ha)
    subst this;exact zZ _
  ·cases hz
theorem WX {t st:TypeId}{x:Operand}{ok:Bool}(ho:o.op= .typeAssert x st t ok)(hTy:∀t ty,T t=some ty->fU P t ty)(h:Hp S w0 N blk g al w)(hx:(aH slot x).Rel S (aW N blk g) w g (a.eval x))
  (hout:R_ T t (aH slot x) ok=some out) (hK:Post S w0 N blk g al w fr out o.dst a K):o.wp P a w K Q:=by
 unfold R_ at hout;split at hout
 ·cases hout
 rename_i ty hty;split at hout
 ·cases hout
 rename_i hk;have hk:ty.kind≠0:=fun e=>hk qcx
 have hc:=yf (hTy _ _ hty) hk;unfold Program.concrete at hc;split at hout
 ·rename_i t' ag ps hex;rw[hex]at hx;obtain⟨u,hv,hin⟩:∃u,a.eval x= .iface t' u/\Nv S (aW N blk g) w ag ps u:=hx;split at hout
  ·rename_i y hy;have hyr:y.Rel S (aW N blk g) w g u:=adU (x:= .one y) hy hin;cases hd:P.underlying t with
   | none=>rw[hd]at hc;cases hc
   | some d=>
    rw[hd]at hc;split at hout
    ·split at hout
     ·rename_i he;have he:=Qa he;subst he;injection hout with hout
      subst hout;refine bf (v:= .tuple #[u, .bool true]) ?_ h hK rfl ⟨[u, .bool true],rfl,hyr,rfl,trivial⟩;cases d<;>first | (cases hc;done) | simp[execOp,ho,Instr.typeAssert,run_underlying hd,hv]
     ·rename_i hne;have hne:¬t'=t:=fun e=>hne (by rw[e];simp)
      split at hout
      ·rename_i z hz;injection hout with hout
       subst hout;obtain⟨zu,hzr,aHy⟩:=ahN (S:=S) (M:=aW N blk g) (g:=g) (hTy _ _ hty) hz w;refine bf (v:= .tuple #[zu, .bool false]) ?_ h hK rfl ⟨[zu, .bool false],rfl,aHy,rfl,trivial⟩;cases d<;>first | (cases hc;done) | simp[execOp,ho,Instr.typeAssert,run_underlying hd,hv,hne,hzr]
      ·cases hout
    ·split at hout
     ·rename_i he;have he:=Qa he;subst he;injection hout with hout
      subst hout;refine bf (v:=u) ?_ h hK rfl hyr;cases d<;>first | (cases hc;done) | simp[execOp,ho,Instr.typeAssert,run_underlying hd,hv]
     ·cases hout
  ·cases hout
 ·cases hout
theorem alz {f:FuncId}{first caps:Array Operand}{x:Operand}(ho:o.op= .makeFunc (.func f) first caps)(h1:first.toList=[x])(h2:caps.toList=[])(h:Hp S w0 N blk g al w)(hx:(aH slot x).Rel S (aW N blk g) w g (a.eval x))
  (hout:aAG f (aH slot x)=some out) (hK:Post S w0 N blk g al w fr out o.dst a K):o.wp P a w K Q:=by
 unfold aAG at hout;split at hout
 ·rename_i ag ps hd;injection hout with hout
  subst hout;have e1:first= #[x]:=by rw[<-Io];exact h1
  have e2:caps= #[]:=by rw[<-Io];exact h2
  refine bf (v:= .func (.func f) #[a.eval x] #[]) ?_ h hK rfl ⟨_,rfl,YT hd hx⟩;simp[execOp,ho,Instr.makeFunc,e1,e2]
 ·cases hout
theorem ahU {op:BinOp}{t yt:TypeId}{x y:Operand}(ho:o.op= .binOp op t x y yt)(hTy:∀t ty,T t=some ty->fU P t ty)(h:Hp S w0 N blk g al w)(hx:(aH slot x).Rel S (aW N blk g) w g (a.eval x))
  (hy:(aH slot y).Rel S (aW N blk g) w g (a.eval y)) (hout:aqm T S op t (aH slot x) (aH slot y)=some out) (hK:Post S w0 N blk g al w fr out o.dst a K):o.wp P a w K Q:=by
 unfold aqm at hout;split at hout
 ·cases hout
 rename_i ty hty;split at hout
 ·split at hout
  ·rename_i e d he hex CE;split at hout
   ·rename_i hc;simp only[jY,Gf]at hc;have hsl:=kY (hTy _ _ hty) he;rw[hex]at hx;rw[CE]at hy;have hx:dA S (aW N blk g) w d (a.eval x):=hx;have hy:a.eval y= .slice none 0 0:=hy;obtain⟨av,cap,hv,hcap⟩:=dA.slice hx au;rw[hv]at hx;obtain⟨ad,rfl⟩:=dA.Af hx hc.1 hc.2;have hgd:=fun w=>lI (P:=P) (w:=w) (op:=op) (t:=t) (x:=x) (y:=y) (u:= .slice (some ad) (S.len d) cap) (v:= .slice none 0 0) rfl oJ
    split at hout
    ·injection hout with hout;subst hout
     refine bf (v:= .bool false) ?_ h hK rfl rfl;simp[execOp,ho,hv,hy,hgd,Lib.run_eql_slice_nil w t e (some ad) (S.len d) cap 0 0 hsl]
    ·injection hout with hout;subst hout
     refine bf (v:= .bool true) ?_ h hK rfl rfl;simp[execOp,ho,hv,hy,hgd,run_neq_slice_nil_any w t e (some ad) (S.len d) cap 0 0 hsl]
    ·cases hout
   ·cases hout
  ·cases hout
 ·cases hout
theorem alj {c:Call}{x:Operand}(ho:o.op= .call c)(hc:c.callee= .builtin .cap)(hx':c.args.toList=[x])(hTy:∀t ty,T t=some ty->fU P t ty)(h:Hp S w0 N blk g al w)(hx:(aH slot x).Rel S (aW N blk g) w g (a.eval x))
  (hout:aA5 T c.argTypes (aH slot x)=some out) (hK:Post S w0 N blk g al w fr out o.dst a K):o.wp P a w K Q:=by
 have hargs:c.args= #[x]:=by rw[<-Io];exact hx'
 unfold aA5 at hout;split at hout
 ·rename_i t htt hex;have hat:c.argTypes= #[t]:=by rw[<-Io];exact htt
  rw[hex]at hx;have hx:a.eval x= .slice none 0 0:=hx;split at hout
  ·rename_i ty hty;split at hout
   ·rename_i e hel;have hsl:=kY (hTy _ _ hty) hel;injection hout with hout
    subst hout;refine bf (v:= .int .i64 0) ?_ h hK rfl rfl;simp[execOp,ho,resolve,hc,invoke,builtin,hargs,hat,hx,Builtin.cap_,run_underlying hsl,goInt]
   ·cases hout
  ·cases hout
 ·cases hout
theorem WG {c:Call}{x y:Operand}(hS:jd S)(ho:o.op= .call c)(hc:c.callee= .builtin .append)(hx':c.args.toList=[x,y])(hTy:∀t ty,T t=some ty->fU P t ty)(h:Hp S w0 N blk g al w)(hfr:∀n,fr<=n->n < fr+64->¬al n)
  (hx:(aH slot x).Rel S (aW N blk g) w g (a.eval x)) (hy:(aH slot y).Rel S (aW N blk g) w g (a.eval y)) (hout:SX T S fr c.argTypes (aH slot x) (aH slot y)=some out) (hp:lZ out.pre) (hK:Post S w0 N blk g al w fr out o.dst a K):o.wp P a w K Q:=by
 have hargs:c.args= #[x,y]:=by rw[<-Io];exact hx'
 unfold SX at hout;split at hout
 ·rename_i t t' k n htt hex CE;have hat:c.argTypes= #[t,t']:=by rw[<-Io];exact htt
  rw[hex]at hx;rw[CE]at hy;have hx:a.eval x= .slice none 0 0:=hx;have hy:a.eval y= .int k n:=hy;split at hout
  ·rename_i ty ti hty hti;split at hout
   ·rename_i ki e hki hel;split at hout
    ·rename_i te hte;have hsl:=kY (hTy _ _ hty) hel;obtain⟨i,z,hi,hz,q1,q2,q3⟩:=qR (hTy _ _ hte);obtain⟨dd,hd,hkd⟩:=ny (hTy _ _ hti);have hd:P.underlying t'=some (.int ki):=by
      rw[<-hkd]at hki;cases dd<;>simp[kindOf,alq]at hki
      rw[hd,XY hki]
     split at hout
     ·rename_i hcc;simp only[jY]at hcc;have e2:0 < te.size:=by simpa[Gf]using hcc.1
      have e3:=Qa hcc.2;have hzs:z.cells.size=te.size:=by rw[<-e3,<-q3];simp
      split at hout
      ·rename_i d hdd;injection hout with hout
       subst hout;obtain⟨p1,p2,p3⟩:0 < n/\n*te.bytes<=281474976710656/\n<=1099511627776:=hp;obtain⟨z1,z2,z3⟩:=hS.zero _ _ _ _ hdd;have hsd:S.size d=te.size:=by rw[<-z2,Qbl,e3]
       obtain⟨m,rfl⟩:∃m:Nat,n=(m:Int):=⟨n.toNat,by omega⟩;have hb:m*i.bytes<=281474976710656:=by
        rw[q2];have:((m*te.bytes:Nat):Int)<=281474976710656:=by rw[Int.natCast_mul];exact p2
        omega
       have hrun:=Lib.run_append_nil_zeros (P:=P) w t t' o.type e i z k ki hsl hd hi hz m au au au hb;have hrun':(execOp a.eval o).run P w= .ok (.value (.slice (some ⟨w.heap.size,0,none⟩) m (grownCap w m 0 e))) (w.drew.alloc (.cells (Builtin.zeroCells z.cells m++Builtin.zeroCells z.cells (grownCap w m 0 e - m)) e)):=by
        simp only[execOp,ho,resolve,hc,invoke,builtin,hargs,hat,Sem.run_bind,Sem.run_pure,Result.andThen_ok,Qci,F_,Qcu,hx,hy,hrun]
       have hge:=grownCap_ge w m 0 e;have hcm:grownCap w m 0 e<=maxLen:=grownCap_le_maxLen w m 0 e (by simp only[maxLen];omega);have hB:Below w.heap.size w (w.drew.alloc (.cells (Builtin.zeroCells z.cells m++Builtin.zeroCells z.cells (grownCap w m 0 e - m)) e)):=⟨rfl,rfl,rfl,by simp,fun k hk=>Go.heap_alloc_old w.drew _ hk⟩;simp only[zk]at z1 z2 z3;obtain⟨g1,g2,g3⟩:=h.add (l:=fr) (bk:= .row e d) (v:= .slice (some ⟨w.heap.size,0,none⟩) m (grownCap w m 0 e)) hB (hfr fr (lU _) au) (fun b hb=>by simp[d_]at hb;omega)
        (fun M' hk _=>by
         refine⟨⟨fun b hb=> .inl ?_,by rw[z1];omega,hS.aca _ _ _ _ hdd⟩,(Builtin.zeroCells z.cells m).toList,⟨?_, .inr ⟨w.heap.size,grownCap w m 0 e,_,by rw[z1],uN _,heap_alloc_new w.drew _,by rw[z1];exact hge,hcm,?_,?_⟩⟩,fun i' j hi' hj=> ?_⟩
         ·simp only[d_,KZ]at hb;have:=h.below.size;omega
         ·rw[O5,size_zeroCells,hzs,z1,hsd]
         ·simp only[Qdh,size_zeroCells,hzs,hsd,<-QX];congr 1;omega
         ·rw[Qb3,List.take_left' (by rw[O5,size_zeroCells,hzs,z1,hsd])]
         ·rw[z1]at hi';obtain⟨x0,hx0,hle⟩:=z3 i' j hi' hj;have hlt:=nU hi' hj;have hjz:j < z.cells.size:=by omega
          have hzj:te.zero[j]? =some z.cells[j]:=by rw[<-q3];simp[hjz]
          refine⟨z.cells[j],?_,hS.data _ _ _ au hj,hle.rel ?_⟩
          ·have hmod:(i'*S.size d+j) % z.cells.size=j:=by rw[hzs,<-hsd,Qcv,Qe,Qb1 hj]
           rw[MZ (by rw[hzs,<-hsd];exact hlt),hmod];simp[hjz]
          ·simp only[Qbb,hzj,GZ,KZ]at hx0;rw[<-hx0];exact(zZ _).norm)
       exact lm hrun' (hK _ _ _ g3 g2 (g1.weaken TW) (upd_same _ _ _))
      ·cases hout
     ·cases hout
    ·cases hout
   ·cases hout
  ·cases hout
 ·cases hout
theorem WF {c:Call}{x y:Operand}(ho:o.op= .call c)(hc:c.callee= .builtin .append)(hx':c.args.toList=[x,y])(hTy:∀t ty,T t=some ty->fU P t ty)(h:Hp S w0 N blk g al w)
  (hx:(aH slot x).Rel S (aW N blk g) w g (a.eval x)) (hy:(aH slot y).Rel S (aW N blk g) w g (a.eval y)) (hout:zX T S blk c.argTypes (aH slot x) (aH slot y)=some out) (hK:Post S w0 N blk g al w fr out o.dst a K):o.wp P a w K Q:=by
 have hargs:c.args= #[x,y]:=by rw[<-Io];exact hx'
 unfold zX at hout;split at hout
 ·rename_i t t' htt CE;split at hout
  ·rename_i VY;have VY:=Qa VY;subst VY;have hat:c.argTypes= #[t,t]:=by rw[<-Io];exact htt
   rw[CE]at hy;have hy:a.eval y= .slice none 0 0:=hy;split at hout
   ·cases hout
   rename_i ty hty;split at hout
   ·cases hout
   rename_i e hel;split at hout
   ·cases hout
   rename_i te hte;have hsl:=kY (hTy _ _ hty) hel;obtain⟨i,z,hi,hz,q1,q2,q3⟩:=qR (hTy _ _ hte);have run:∀(b:Option Addr) (n cp:Nat),a.eval x= .slice b n cp->n<=cp->(execOp a.eval o).run P w= .ok (.value (a.eval x)) w:=by
    intro b n cp hv hle;have:(Builtin.append_ #[t,t] o.type #[.slice b n cp, .slice none 0 0]).run P w= .ok (.slice b n cp) w:=by
     cases b<;>simp[Builtin.append_,run_underlying hsl,sizeOf,typeInfo,hi,Builtin.lenOf,Builtin.firstCells,hle,storeCells]
    simp only[execOp,ho,resolve,hc,invoke,builtin,hargs,hat,Sem.run_bind,Sem.run_pure,Result.andThen_ok,Qci,F_,Qcu,hv,hy,this]
   split at hout
   ·rename_i hex;rw[hex]at hx;injection hout with hout
    subst hout;exact bf (v:=a.eval x) (run none 0 0 hx (lU _)) h hK rfl hx
   ·rename_i d hex;rw[hex]at hx;split at hout
    ·rename_i hzz;injection hout with hout
     subst hout;obtain⟨av,cap,hv,hcap⟩:=dA.slice hx (by simpa[Gf]using hzz);exact bf (v:=a.eval x) (run av _ cap hv hcap) h hK rfl hx
    ·cases hout
   ·rename_i l hex;rw[hex]at hx;split at hout
    ·rename_i e' d hb;injection hout with hout
     subst hout;have hx:g l=some (a.eval x):=hx;obtain⟨v,hv',_,xs,⟨_,hown⟩,_⟩:=h.dH l _ hb;rw[hx]at hv';injection hv' with hv'
     rcases hown with⟨h0,hn0⟩ | ⟨b,cap',cur,hvv,_,_,hnc,_⟩
     ·exact bf (v:=a.eval x) (run none 0 0 (by rw[hv',h0]) (lU _)) h hK rfl hx
     ·exact bf (v:=a.eval x) (run _ _ cap' (by rw[hv',hvv]) hnc) h hK rfl hx
    ·cases hout
   ·cases hout
  ·cases hout
 ·cases hout
theorem ZL {t:TypeId}{x:Operand}{lo hi:Option Operand}(hS:jd S)(ho:o.op= .slice t x lo hi none)(hTy:∀t ty,T t=some ty->fU P t ty)(h:Hp S w0 N blk g al w)
  (hr:∀x:Operand,(aH slot x).Rel S (aW N blk g) w g (a.eval x)) (hout:PL T S blk t (aH slot x) (lo.map (aH slot)) (hi.map (aH slot))=some out) (hp:lZ out.pre) (hK:Post S w0 N blk g al w fr out o.dst a K):o.wp P a w K Q:=by
 have hx:=hr x;unfold PL at hout;split at hout
 ·cases hout
 rename_i ty hty;split at hout
 ·split at hout
  ·rename_i l e hl hel;split at hout
   ·cases hout
   rename_i te hte;have hsl:=kY (hTy _ _ hty) hel;have hsz:=kH (hTy _ _ hte) w;split at hout
   ·rename_i q hex;rw[hex]at hx;have hx:g q=some (a.eval x):=hx;split at hout
    ·rename_i e' d hb;split at hout
     ·rename_i hc;simp only[jY]at hc;have h1:=Qa hc.1;split at hout
      ·rename_i hh hhi;split at hout
       ·rename_i d' hd';injection hout with hout
        subst hout;obtain⟨p1,p2,p3⟩:=hp;obtain⟨h2,k2,_,_⟩:=Hp.FP hS [q] blk oJ h;have hfm:[q].filterMap (jl blk)=[(q,some (.wE d))]:=by simp[jl,hb,rwD]
        rw[hfm]at h2 k2;obtain⟨v,hv',hd2⟩:=h2.dH q (.wE d) (by simp[lG,upd_same]);rw[hx]at hv';injection hv' with hv'
        subst hv';have hd2:dA S _ w d (a.eval x):=hd2;obtain⟨av,cap,hv,hcap⟩:=dA.slice' hd2 (hS.Gx _ _ _ _ hd').1;rw[hv]at hd2;have hres:=FD hS hd2 hd' au au;exact lm (IJ ho hsl hsz hv hcap hr hl hhi h1 p1 p2 p3) (hK _ w g (More.refl _) k2 (h2.weaken fun n hn=> .inl hn) hres)
       ·cases hout
      ·cases hout
     ·cases hout
    ·rename_i d hb;split at hout
     ·rename_i hc;simp only[jY]at hc;have h1:=Qa hc.1;split at hout
      ·rename_i hh hhi;split at hout
       ·rename_i d' hd';injection hout with hout
        subst hout;obtain⟨p1,p2,p3⟩:=hp;obtain⟨v,hv',hd2⟩:=h.dH q (.wE d) hb;rw[hx]at hv';injection hv' with hv'
        subst hv';have hd2:dA S _ w d (a.eval x):=hd2;obtain⟨av,cap,hv,hcap⟩:=dA.slice' hd2 (hS.Gx _ _ _ _ hd').1;rw[hv]at hd2;have hres:=FD hS hd2 hd' au au;exact bf (v:=_) (IJ ho hsl hsz hv hcap hr hl hhi h1 p1 p2 p3) h hK rfl hres
       ·cases hout
      ·cases hout
     ·cases hout
    ·cases hout
   ·cases hout
  ·cases hout
 ·cases hout
theorem adq {t e:TypeId}{x hi mx:Operand}{sz s n cap:Nat}{av:Option Addr}{kh km:IntKind}{hh:Int}(ho:o.op= .slice t x none (some hi) (some mx))(hsl:P.underlying t=some (.slice e))(hsz:(sizeOf e).run P w= .ok sz w)(hv:a.eval x= .slice av n cap)(hcap:n<=cap)
  (h1:a.eval hi= .int kh hh) (h2:a.eval mx= .int km hh) (e1:sz=s) (p1:0<=hh) (p3:hh<=n):(execOp a.eval o).run P w= .ok (.value (sliced av 0 hh.toNat hh.toNat s)) w:=by
 have ae9:P.elem t=e:=by simp[Program.elem,hsl]
 have Ae:P.underlying t=some (.slice (P.elem t)):=by rw[ae9];exact hsl
 have k:(execOp a.eval o).run P w=((Instr.slice t (.slice av n cap) none (some (.int kh hh)) (some (.int km hh))).run P w).andThen fun v w=> .ok (.value v) w:=by
  simp[execOp,ho,hv,h1,h2,run_sliceAt_slice w t _ _ _ _ Ae]
 rw[k,run_slice_hm w t _ _ _ Ae kh km hh hh p1 (PE _) au,ae9,hsz,<-e1];rfl
theorem ZO {t:TypeId}{x mx:Operand}{lo hi:Option Operand}(hS:jd S)(ho:o.op= .slice t x lo hi (some mx))(hTy:∀t ty,T t=some ty->fU P t ty)(h:Hp S w0 N blk g al w)
  (hr:∀x:Operand,(aH slot x).Rel S (aW N blk g) w g (a.eval x)) (hout:QD T S blk t (aH slot x) (lo.map (aH slot)) (hi.map (aH slot)) (aH slot mx)=some out) (hp:lZ out.pre) (hK:Post S w0 N blk g al w fr out o.dst a K):o.wp P a w K Q:=by
 have hx:=hr x;unfold QD at hout;split at hout
 ·rename_i kh hh km m hlo hhi hmx;have hlo:lo=none:=by cases lo with
   | none=>rfl
   | some l=>cases hlo
  obtain⟨hi',rfl,aId⟩:∃h',hi=some h'/\aH slot h'= .one (.lf (.int kh hh)):=by
   cases hi with
   | none=>cases hhi
   | some h'=>exact⟨h',rfl,by injection hhi⟩
  subst hlo;have e1:a.eval hi'= .int kh hh:=by have:=hr hi';rw[aId]at this;exact this
  have e2:a.eval mx= .int km m:=by have:=hr mx;rw[hmx]at this;exact this
  split at hout
  ·cases hout
  rename_i ty hty;split at hout
  ·cases hout
  rename_i e hel;split at hout
  ·cases hout
  rename_i te hte;have hsl:=kY (hTy _ _ hty) hel;have hsz:=kH (hTy _ _ hte) w;split at hout
  ·rename_i d hex;rw[hex]at hx;split at hout
   ·rename_i hc;simp only[jY]at hc;have h1:=Qa hc.1;split at hout
    ·rename_i d' hd';injection hout with hout
     subst hout;obtain⟨p1,p2,p3⟩:=hp;subst p2;have hx:dA S _ w d (a.eval x):=hx;obtain⟨av,cap,hv,hcap⟩:=dA.slice' hx (hS.Gx _ _ _ _ hd').1;rw[hv]at hx;have hlen:=(hS.sub _ _ _ _ hd' (uN _) (show hh.toNat<=S.len d by omega)).2.1;have hres:=FD hS hx hd' (uN _) (show hh.toNat<=S.len d by omega);refine bf (v:=_) (adq ho hsl hsz hv hcap e1 e2 h1 p1 p3) h hK rfl ?_;exact ajf hS hx hd' au hlen
    ·cases hout
   ·cases hout
  ·rename_i q hex;rw[hex]at hx;have hx:g q=some (a.eval x):=hx;split at hout
   ·rename_i e' d hb;split at hout
    ·rename_i hc;simp only[jY]at hc;have h1:=Qa hc.1;split at hout
     ·rename_i d' hd';injection hout with hout
      subst hout;obtain⟨p1,p2,p3⟩:=hp;subst p2;obtain⟨h2,k2,_,_⟩:=Hp.FP hS [q] blk oJ h;have hfm:[q].filterMap (jl blk)=[(q,some (.wE d))]:=by simp[jl,hb,rwD]
      rw[hfm]at h2 k2;obtain⟨v,hv',hd2⟩:=h2.dH q (.wE d) (by simp[lG,upd_same]);rw[hx]at hv';injection hv' with hv'
      subst hv';have hd2:dA S _ w d (a.eval x):=hd2;obtain⟨av,cap,hv,hcap⟩:=dA.slice' hd2 (hS.Gx _ _ _ _ hd').1;rw[hv]at hd2;have hlen:=(hS.sub _ _ _ _ hd' (uN _) (show hh.toNat<=S.len d by omega)).2.1;obtain⟨a',e',hres⟩:=ajf hS hd2 hd' (show hh.toNat<=S.len d by omega) hlen;refine lm (adq ho hsl hsz hv hcap e1 e2 h1 p1 p3) (hK _ w g (More.refl _) k2 (h2.weaken fun n hn=> .inl hn) ?_);exact hres
     ·cases hout
    ·cases hout
   ·cases hout
  ·cases hout
 ·cases hout
theorem O_ (t ty e:TypeId)(i:TypeInfo)(z:Value)(size bytes:Nat)(ht:P.underlying t=some (.slice e))(hi:P.info? e=some i)(hz:i.zero=some z)
  (hsize:i.size=size) (hby:i.bytes=bytes) (hzs:z.cells.size=size) (hsz:0 < size)
  (bv:Option Addr) (n:Nat) (olds:List Value) (hlo:olds.length=n*size) (holds:∀ad,bv=some ad->∀j u,olds[j]? =some u->w.cell? (ad.add j)=some u) (hbn:bv=none->n=0)
  (ad:Addr) (m c:Nat) (news:List Value) (hl:news.length=m*size) (hnews:∀j u,news[j]? =some u->w.cell? (ad.add j)=some u) (h1:∀u∈news,u.oneCell'=true) (hm:0 < m)
  (h63:n+m<=maxLen) (hbytes:(n+m)*bytes<=140737488355328):
  ∃v' w',(Builtin.append_ #[t,t] ty #[.slice bv n n, .slice (some ad) m c]).run P w= .ok v' w'/\w'.ownsRow 0 e size v' (n+m) (olds++news)/\w.grownBy w' none/\v'.ownBlock=some w.heap.size:=by
 cases bv with
 | none=>
  obtain rfl:=hbn rfl;obtain rfl:olds=[]:=Qda (by simpa using hlo);obtain⟨v',w',h2,h3,h4,h5,h6⟩:=run_append_own_at (P:=P) w 0 t ty e i z size bytes ht hi hz hsize hby hzs hsz (.slice none 0 0) 0 [] (World.ownsRow_nil w 0 e size) ad m c news hl hnews h1 h63 hbytes (uN _);refine⟨v',w',h2,h3,h4,?_⟩;rcases h6 with h6 | h6
  ·have hv:v'= .slice none 0 0:=by
    rcases h3.2 with⟨e,_⟩ | ⟨b,cp,cur,e,_⟩
    ·exact e
    ·rw[e]at h6;cases h6
   have:=(h5.1 hv).2;omega
  ·exact h6
 | some b=>
  subst hsize hby
  have hx:(olds++news).length=(n+m)*i.size:=by rw[pz,hlo,hl,QX]
  have hr:=run_append_grow (P:=P) w t ty e i z ht hi hz b n n olds hlo (holds b rfl) ad m c news hl hnews au (by simp only[maxLen]at h63;omega) (growslice_fits au hbytes);have hge:=grownCap_ge w (n+m) n e;have hcm:grownCap w (n+m) n e<=maxLen:=grownCap_le_maxLen w (n+m) n e h63;refine⟨_,_,hr,⟨hx, .inr ⟨w.heap.size,_,_,rfl,uN _,heap_alloc_new w.drew _,hge,hcm,?_,?_⟩⟩,⟨rfl,rfl,rfl,by simp,fun k hk _=>Go.heap_alloc_old w.drew _ hk⟩,rfl⟩
  ·simp only[Qdh,Qcl,size_zeroCells,hzs,hlo,hl,<-QX];congr 1;omega
  ·simp only[Qb3,Qba];rw[<-Qba,<-hx];exact Qc7
theorem Wp {c:Call}{x y:Operand}(hS:jd S)(ho:o.op= .call c)(hc:c.callee= .builtin .append)(hx':c.args.toList=[x,y])(hTy:∀t ty,T t=some ty->fU P t ty)(h:Hp S w0 N blk g al w)(hfr:∀n,fr<=n->n < fr+64->¬al n)
  (hx:(aH slot x).Rel S (aW N blk g) w g (a.eval x)) (hy:(aH slot y).Rel S (aW N blk g) w g (a.eval y)) (hout:zQ T S blk fr c.argTypes (aH slot x) (aH slot y)=some out) (hp:lZ out.pre)
  (hK:Post S w0 N blk g al w fr out o.dst a K):o.wp P a w K Q:=by
 have hargs:c.args= #[x,y]:=by rw[<-Io];exact hx'
 have hmg:∀v',More g (upd g fr (some v')):=fun v' l v hl=>by
  rw[bK _ _ _ _ qbf];exact hl
 unfold zQ at hout;split at hout
 ·rename_i ex hex;rw[hex]at hx;split at hout
  ·rename_i d1;split at hout
   ·rename_i t t' htt;split at hout
    ·rename_i VY;have VY:=Qa VY;subst VY;have hat:c.argTypes= #[t,t]:=by rw[<-Io];exact htt
     split at hout
     ·cases hout
     rename_i ty hty;split at hout
     ·cases hout
     rename_i e hel;split at hout
     ·cases hout
     rename_i te hte;split at hout
     ·cases hout
     rename_i d2 hd2;have hsl:=kY (hTy _ _ hty) hel;obtain⟨i,z,hi,hz,q1,q2,q3⟩:=qR (hTy _ _ hte);split at hout
     ·rename_i hcc;simp only[jY]at hcc;have e1:=Qa hcc.1;have e2:0 < te.size:=by simpa[Gf]using hcc.2.1
      have e3:=Qa hcc.2.2;split at hout
      ·rename_i d FV;injection hout with hout
       subst hout;obtain⟨p1,p2⟩:=hp;obtain⟨c1,c2,c3,c4,c5⟩:=hS.cat _ _ _ FV;have hzs:z.cells.size=te.size:=by rw[<-e3,<-q3];simp
       obtain⟨av,cap,news,hv2,hl2,hc2,hn2,h12,hcell2⟩:=GN hS h hy hd2 au;obtain⟨bv,hv1,hd1⟩:=hx;obtain⟨bv',cap',olds,aHt,hlo,hco,hbn,_,hcell1⟩:=IC hS hd1 (show 0 < S.size d1 by omega);rw[hv1]at aHt;injection aHt with f1 f2 f3
       subst f1;obtain⟨ad,rfl⟩:∃ad,av=some ad:=by
        cases av with
        | none=>have:=hn2 rfl;omega
        | some ad=>exact⟨ad,rfl⟩
       obtain⟨v',w',r1,r2,r3,r4⟩:=O_ (P:=P) (w:=w) t o.type e i z te.size te.bytes hsl hi hz q1 q2 hzs e2 bv (S.len d1) olds (by rw[hlo];congr 1;omega) hco hbn ad (S.len d2) cap news (by rw[hl2];congr 1;omega) (hc2 ad rfl) h12 p1 (by have:=p2.1;simp only[maxLen];omega) p2.2;have hrun:(execOp a.eval o).run P w= .ok (.value v') w':=by
        simp only[execOp,ho,resolve,hc,invoke,builtin,hargs,hat,Sem.run_bind,Sem.run_pure,Result.andThen_ok,Qci,F_,Qcu,hv1,hv2,r1]
       have hB:Below w.heap.size w w':=⟨r3.os,r3.tape,r3.output,r3.size,fun k hk=>r3.block k hk oJ⟩;have Ae:∃a n c,v'= .slice a n c:=by rcases r2.2 with⟨rfl,_⟩ | ⟨b,cp,cur,rfl,_⟩<;>exact⟨_,_,_,rfl⟩
       have hpos:∀b,d_ v'=some b->w.heap.size<=b:=by
        intro b hb;rw[pg v' Ae]at r4;rw[hb]at r4;injection r4 with r4
        omega
       obtain⟨g1,g2,g3⟩:=h.add (l:=fr) (bk:= .row e d) (v:=v') hB (hfr fr (lU _) au) hpos (fun M' hk _=>by
        refine⟨⟨fun b hb=> .inl (Ak h.below.size (hpos b hb)),⟨by have:=p2.1;omega,hS.V3 _ _ _ ‹_›⟩⟩,olds++news,?_,fun i' j hi' hj=> ?_⟩
        ·have:=r2;rw[show te.size=S.size d by omega,<-c3]at this;exact this
        ·rw[c3]at hi';have hxl:olds.length=S.len d1*S.size d:=by rw[hlo,c1]
         by_cases hlt:i' < S.len d1
         ·obtain⟨u,hu,hr⟩:=hcell1 i' j hlt au;rw[c4 i' j hlt];refine⟨u,?_,hS.data _ _ _ au au,?_⟩
          ·rw[Qa9 (by rw[hxl];exact nU hlt hj),<-hu,c1]
          ·exact(Lf.Rel.keep hr hk (hmg _))
         ·obtain⟨k,rfl⟩:∃k,i'=S.len d1+k:=⟨i' - S.len d1,by omega⟩;obtain⟨u,hu,hr⟩:=hcell2 k j au au;rw[c5 k j au];refine⟨u,?_,hS.data _ _ _ au au,hr.keep hk (hmg _)⟩;rw[Qa6 (by rw[hxl,QX];omega),<-hu,hxl,QX,c2];congr 1;omega)
       exact lm hrun (hK _ _ _ g3 g2 (g1.weaken TW) (upd_same _ _ _))
      ·cases hout
     ·cases hout
    ·cases hout
   ·cases hout
  ·cases hout
 ·cases hout
theorem ac5 {src dst:TypeId}{x:Operand}(hS:jd S)(ho:o.op= .convert src dst x)(hTy:∀t ty,T t=some ty->fU P t ty)(h:Hp S w0 N blk g al w)
  (hx:(aH slot x).Rel S (aW N blk g) w g (a.eval x)) (hout:af4 T S src dst (aH slot x)=some out) (hK:Post S w0 N blk g al w fr out o.dst a K):o.wp P a w K Q:=by
 unfold af4 at hout;split at hout
 ·rename_i ts td hts htd;split at hout
  ·cases hout
  rename_i e hel;split at hout
  ·cases hout
  rename_i te hte;split at hout
  ·rename_i hc;simp only[jY]at hc;split at hout
   ·rename_i s hex;rw[hex]at hx;obtain⟨hx,hlen⟩:=hx;split at hout
    ·cases hout
    rename_i d2 hd2;split at hout
    ·rename_i hs2;injection hout with hout
     subst hout;have hs2:=Qa hs2;obtain⟨dd,hdd,hkd⟩:=ny (hTy _ _ hts);obtain⟨de,hde,hke⟩:=ny (hTy _ _ hte);have hstr:P.underlying src=some .string:=by
      rw[Qa hc.1]at hkd;cases dd<;>simp[kindOf]at hkd<;>first | exact hdd | (rename_i k;cases k<;>simp[rV]at hkd)
     have hu8:P.underlying e=some (.int .u8):=by
      rw[Qa hc.2.1]at hke;cases de<;>simp[kindOf]at hke<;>(rename_i k;cases k<;>simp[rV]at hke;exact hde)
     have hsl:=kY (hTy _ _ htd) hel;have hrun:(execOp a.eval o).run P w= .ok (.value (.slice (some ⟨w.heap.size,0,none⟩) s.length (grownCap w s.length 0 e))) (Lib.bytesWorld w e ⟨s.toArray⟩):=by
      have hz:(⟨s.toArray⟩:ByteArray).size=s.length:=by show s.toArray.size=_;simp
      have:=Lib.run_convert_string_bytes (P:=P) w src dst e ⟨s.toArray⟩ hstr hsl hu8;rw[hz]at this;simp[execOp,ho,hx,this]
     have hB:Below w.heap.size w (Lib.bytesWorld w e ⟨s.toArray⟩):=⟨rfl,rfl,rfl,by rw[Lib.bytesWorld_size];omega,fun k hk=>Lib.bytesWorld_at_old w e _ k hk⟩;obtain⟨g1,g2⟩:=h.grow hB;obtain⟨m1,m2,m3⟩:=hS.text _ _ _ hd2;refine lm hrun (hK _ _ g (More.refl _) g2 (g1.weaken fun n hn=> .inl hn) ?_);show dA S _ _ d2 _
     intro w'' hw;have hz:(⟨s.toArray⟩:ByteArray).size=s.length:=by show s.toArray.size=_;simp
     have hnm:¬aW N blk g w.heap.size:=fun hm=>Nat.lt_irrefl _ (h.mlt hm)
     have hblk:=hw w.heap.size (by rw[Lib.bytesWorld_size];omega) hnm;rw[<-m2];refine Ac.mk d2 (hS.anA au) (some ⟨w.heap.size,0,none⟩) _ (fun i j=> .int .u8 (s.getD i 0).toNat) (by rw[m2];exact grownCap_ge w s.length 0 e) au (fun i j hi hj=> ?_) (fun i j hi hj=> ?_) (fun i j d' hi hj he=> ?_)
     ·obtain rfl:j=0:=by omega
      refine⟨_,rfl,?_⟩;have hc:=Lib.bytesWorld_cell w e ⟨s.toArray⟩ i (by rw[hz];omega);rw[hs2,Qdb,MB,show((⟨w.heap.size,0,none⟩:Addr).add i)=⟨w.heap.size,i,none⟩ by simp[Addr.add];exact Eq.symm];rw[show w''.cell? ⟨w.heap.size,i,none⟩=(Lib.bytesWorld w e ⟨s.toArray⟩).cell? ⟨w.heap.size,i,none⟩ by simp only[World.cell?,hblk]];rw[hc]
     ·obtain rfl:j=0:=by omega
      rw[m3 i au];rfl
     ·obtain rfl:j=0:=by omega
      rw[m3 i au]at he;cases he
    ·cases hout
   ·cases hout
  ·cases hout
 ·cases hout
theorem Z5 {t:TypeId}(ho:o.op= .alloc t)(hTy:∀t ty,T t=some ty->fU P t ty)(h:Hp S w0 N blk g al w)(hfr:∀n,fr<=n->n < fr+64->¬al n)
  (hout:abG T fr t=some out) (hK:Post S w0 N blk g al w fr out o.dst a K):o.wp P a w K Q:=by
 unfold abG at hout;split at hout
 ·cases hout
 rename_i ty hty;split at hout
 ·rename_i aD7;injection hout with hout
  subst hout;obtain⟨z,hz,hzc⟩:=Ap (hTy _ _ hty) w;have hzero:ty.zero=[.pointer none, .slice none 0 0]:=by
   unfold azF at aD7;split at aD7
   ·assumption
   ·cases aD7
  have hrun:(execOp a.eval o).run P w= .ok (.value (.pointer (some ⟨w.heap.size,0,none⟩))) (w.alloc (.cells z.cells t)):=by
   simp[execOp,ho,Instr.alloc,hz,newVar,newRow,newObj,Sem.run]
  obtain⟨h1,h2,h3⟩:=h.add (l:=fr) (bk:= .tc t [.val (.slice none 0 0)]) (v:= .pointer (some ⟨w.heap.size,0,none⟩)) ((Below.refl w.heap.size w).alloc (lU _) (.cells z.cells t)) (hfr fr (lU _) au) (fun b hb=>by simp[d_]at hb;omega)
   (fun M' hk _=>⟨w.heap.size,[.slice none 0 0],rfl, .inl h.below.size,⟨.pointer none,by
    have aIr:z.cells= #[.pointer none, .slice none 0 0]:=by rw[<-Io,<-hzero,<-hzc]
    rw[aIr];simpa using heap_alloc_new w (.cells #[.pointer none, .slice none 0 0] t), .inl rfl⟩,rfl,trivial⟩)
  exact lm hrun (hK _ _ _ h3 h2 (h1.weaken TW) ⟨w.heap.size,upd_same _ _ _,rfl⟩)
 ·cases hout
theorem acu {t:TypeId}{x:Operand}(ho:o.op= .load t x)(hTy:∀t ty,T t=some ty->fU P t ty)(h:Hp S w0 N blk g al w)(hx:(aH slot x).Rel S (aW N blk g) w g (a.eval x))
  (hout:aaS T blk t (aH slot x)=some out) (hK:Post S w0 N blk g al w fr out o.dst a K):o.wp P a w K Q:=by
 unfold aaS at hout;split at hout
 ·cases hout
 rename_i ty hty;have hagg:=w_ (hTy _ _ hty) w;split at hout
 ·rename_i l off hex;rw[hex]at hx;obtain⟨b,hg,hv⟩:=hx;split at hout
  ·rename_i t' cs hb;obtain⟨v',hv',b',vs,rfl,_,⟨u0,hh,_⟩,hr⟩:=h.dH l _ hb;rw[hg]at hv';injection hv' with hv'
   injection hv' with hv'
   injection hv' with hv'
   injection hv' with hv'
   subst hv';split at hout
   ·cases hout
   rename_i hag;split at hout
   ·cases hout
   rename_i off;split at hout
   ·rename_i y hy;injection hout with hout
    subst hout;obtain⟨u,hu,hrel⟩:=hr.get off hy;refine bf (v:=u) ?_ h hK rfl hrel;have hu':(u0::vs)[off+1]? =some u:=by simpa using hu
    simp[execOp,ho,Instr.loadAt,Instr.sureAddr,hv,loadVar,hagg,hag,load,Sem.run,cell_of hh,hu]
   ·cases hout
  ·cases hout
 ·cases hout
theorem Zj {t:TypeId}{x y:Operand}(ho:o.op= .store t x y)(hTy:∀t ty,T t=some ty->fU P t ty)(h:Hp S w0 N blk g al w)(hx:(aH slot x).Rel S (aW N blk g) w g (a.eval x))
  (hy:(aH slot y).Rel S (aW N blk g) w g (a.eval y)) (hout:PU T blk t (aH slot x) (aH slot y)=some out) (hK:Post S w0 N blk g al w fr out o.dst a K):o.wp P a w K Q:=by
 unfold PU at hout;split at hout
 ·rename_i ty l off u hty hex CE;have hsz:=kH (hTy _ _ hty) w;rw[hex]at hx;rw[CE]at hy;obtain⟨b,hg,hv⟩:=hx;split at hout
  ·rename_i t' cs hb;split at hout
   ·cases hout
   rename_i off;split at hout
   ·rename_i hc;injection hout with hout
    subst hout;simp only[jY,Qbi,Gf]at hc;obtain⟨c1,c2,c3,c4⟩:=hc;have c1:=Qa c1;obtain⟨v',hv',b',vs,rfl,hm,⟨u0,hh,hu0⟩,hr⟩:=h.dH l _ hb;rw[hg]at hv';injection hv' with hv'
    injection hv' with hv'
    injection hv' with hv'
    injection hv' with hv'
    subst hv';have hall:(Sv.lf u:Sv D).cells.all Lf.storable=true:=by simp[Sv.cells,c4]
    have hu:=rE (u:= .lf u) h.refs (AQ hall) hy;have hlen:=hu.length;have hl1:(Sv.lf u:Sv D).cells.length=1:=rfl;obtain⟨w',hrun,hb',hn,hs,q1,q2,q3⟩:=kT (P:=P) b t' (a.eval y).cells.toList w (u0::vs) (off+1) 0 hh (by rw[xH,<-hr.length,<-hlen,hl1];omega) (kG h.refs hall hu);have hrun':(execOp a.eval o).run P w= .ok .skip w':=by
     have hsz2:(a.eval y).cells.size=ty.size:=by rw[c1,<-hl1,hlen];simp
     simp[execOp,ho,Instr.storeAt,Instr.sureAddr,hv,storeVar,hsz,hsz2,hrun]
    obtain⟨hp',hk'⟩:=h.write (bk':= .tc t' (putAt cs off [u])) hb rfl rfl hg rfl q1 q2 q3 hs hn (fun hk=>by
     have h9:=(hr.putAt hu off).keep hk (More.refl _);refine⟨b,_,rfl,hm,⟨u0,?_,hu0⟩,by simpa[Sv.cells]using h9⟩;have e2:List.drop (off+1+(a.eval y).cells.size) (u0::vs)=List.drop (off+(a.eval y).cells.size) vs:=by
      rw[show off+1+(a.eval y).cells.size=(off+(a.eval y).cells.size)+1 by omega];rfl
     simp only[MB,O5,Qed,e2,Qbu]at hb';simpa using hb')
    exact KA hrun' (hK _ _ _ (More.refl _) hk' (hp'.weaken fun _ h=> .inl h) trivial)
   ·cases hout
  ·cases hout
 ·cases hout
theorem awm {e:TypeId}{te:Ty}{i:TypeInfo}(h:fU P e te)(hz:arB te=true)(hi:P.info? e=some i):i.zero=some (.int .u8 0):=by
 obtain⟨i',d',z',lt',hi',hd',hz',rfl⟩:=mF h;rw[hi]at hi';injection hi' with hi'
 subst hi';rw[hz'];unfold arB at hz;dsimp only at hz;split at hz
 ·rename_i hc;simp only[Qbi]at hz;congr 1;cases z'<;>first | exact(List.cons.inj hc).1 | (simp[yX]at hz)
 ·cases hz
theorem ar2 {e:Nat}{s:List UInt8}{d2:D}(hS:jd S)(hd:S.text e s=some d2)(hs:S.size d2=1):S.len d2=s.length/\∀i,i < s.length->∃u,(Lib.strCells ⟨s.toArray⟩)[i]? =some u/\(S.cell d2 i 0).jJ=true/\∀(M:Nat->Prop) (w:World) (g:Nat->Option Value),(S.cell d2 i 0).Rel S M w g u:=by
 obtain⟨_,m2,m3⟩:=hS.text _ _ _ hd;refine⟨m2,fun i hi=> ?_⟩;have hcell:=m3 i hi;refine⟨.int .u8 (s.getD i 0).toNat,?_,hS.data _ _ _ au au,fun M w g=> ?_⟩
 ·simp[Lib.strCells,List.getD,hi]
 ·rw[hcell];rfl
theorem WA {c:Call}{x y:Operand}(hS:jd S)(ho:o.op= .call c)(hc:c.callee= .builtin .append)(hx':c.args.toList=[x,y])(hTy:∀t ty,T t=some ty->fU P t ty)(h:Hp S w0 N blk g al w)(hfr:∀n,fr<=n->n < fr+64->¬al n)
  (hx:(aH slot x).Rel S (aW N blk g) w g (a.eval x)) (hy:(aH slot y).Rel S (aW N blk g) w g (a.eval y)) (hout:zq T S blk fr c.argTypes (aH slot x) (aH slot y)=some out) (hp:lZ out.pre)
  (hK:Post S w0 N blk g al w fr out o.dst a K):o.wp P a w K Q:=by
 have hargs:c.args= #[x,y]:=by rw[<-Io];exact hx'
 have hmg:∀v',More g (upd g fr (some v')):=fun v' l v hl=>by
  rw[bK _ _ _ _ qbf];exact hl
 unfold zq at hout;split at hout
 ·rename_i t t' s htt CE;have hat:c.argTypes= #[t,t']:=by rw[<-Io];exact htt
  rw[CE]at hy;obtain⟨hyv,hyl⟩:a.eval y= .string ⟨s.toArray⟩/\s.length<=9223372036854775807:=hy;split at hout
  ·rename_i ty ty' hty hty';split at hout
   ·cases hout
   rename_i e hel;split at hout
   ·cases hout
   rename_i te hte;have hsl:=kY (hTy _ _ hty) hel;obtain⟨i,z,hi,hz,q1,q2,q3⟩:=qR (hTy _ _ hte);split at hout
   ·rename_i hcc;simp only[jY]at hcc;obtain⟨c1,c2,c3,c4⟩:=hcc;have c2:=Qa c2;have c3:=Qa c3;have c4:=Qa c4;obtain⟨ds,hds,hks⟩:=ny (hTy _ _ hty');have hds:P.underlying t'=some .string:=by
     rw[c4]at hks;cases ds<;>simp[kindOf]at hks<;>first | exact hds | (rename_i k;cases k<;>simp[rV]at hks)
    have hz0:i.zero=some (.int .u8 0):=awm (hTy _ _ hte) c1 hi;split at hout
    ·cases hout
    rename_i d2 hd2;split at hout
    ·rename_i hs2;have hs2:=Qa hs2;obtain⟨hl2,hcell2⟩:=ar2 hS hd2 hs2;have hsz:(ByteArray.mk s.toArray).size=s.length:=by show s.toArray.size=_;simp
     have hnews:(Lib.strCells ⟨s.toArray⟩).length=s.length:=by rw[Lib.strCells_length,hsz]
     have run:∀(v1:Value) (n:Nat) (xs:List Value),a.eval x=v1->w.ownsRow 0 e 1 v1 n xs->bT (n+s.length) 1->
       ∃v' w',(execOp a.eval o).run P w= .ok (.value v') w'/\w'.ownsRow 0 e 1 v' (n+s.length) (xs++Lib.strCells ⟨s.toArray⟩)/\w.grownBy w' v1.ownBlock/\(v'.ownBlock=v1.ownBlock\/v'.ownBlock=some w.heap.size\/v'.ownBlock=none):=by
      intro v1 n xs hv1 hown hroom;obtain⟨r1,r2⟩:=hroom;obtain⟨v',w',h1,h2,h3,h4⟩:=Lib.run_append_own_string (P:=P) (w:=w) 0 t t' o.type e i hsl hds hi hz0 au au v1 n xs hown ⟨s.toArray⟩ (by rw[hsz];simp only[maxLen];omega) qcr (uN _);rw[hsz]at h2;refine⟨v',w',?_,h2,h3,?_⟩
      ·simp only[execOp,ho,resolve,hc,invoke,builtin,hargs,hat,Sem.run_bind,Sem.run_pure,Result.andThen_ok,Qci,F_,Qcu,hv1,hyv,h1]
      ·rcases hown.2 with⟨rfl,rfl⟩ | ⟨b,cap,cur,rfl,hbg,hg',hnc,hcm,hcs,htake⟩
       ·obtain⟨v2,w2,g1,g2,g3,g4⟩:=Lib.run_append_own_string (P:=P) (w:=w) w.heap.size t t' o.type e i hsl hds hi hz0 au au (.slice none 0 0) 0 [] (World.ownsRow_nil w w.heap.size e 1) ⟨s.toArray⟩ (by rw[hsz];simp only[maxLen];omega) qcr (lU _);by_cases hm:s.length=0
        ·have:v'= .slice none 0 0:=h4.2 ⟨rfl,by rw[hsz];exact hm⟩;exact .inl (by rw[this])
        ·have hr:=run_append_nil_string (P:=P) w t t' o.type e i (.int .u8 0) hsl hds hi hz0 ⟨s.toArray⟩ qcr qcr (by rw[hsz,q2,c3];omega);rw[hr]at h1;injection h1 with h1 _
         exact .inr (.inl (by rw[<-h1];rfl))
       ·have hcs':cur.size=cap:=by simpa using hcs
        by_cases hroom':n+(ByteArray.mk s.toArray).size<=cap
        ·have hr:=Lib.run_append_room_string (P:=P) w t t' o.type e i hsl hds hi au b n cap cur hg' ⟨s.toArray⟩ hroom' au;rw[hr]at h1;injection h1 with h1 _
         exact .inl (by rw[<-h1];rfl)
        ·have hxl:xs.length=n:=by simpa using hown.1
         have holds:∀j u,xs[j]? =some u->w.cell? ((⟨b,0,none⟩:Addr).add j)=some u:=hown.cells (g:=b) rfl;have hr:=Lib.run_append_grow_string (P:=P) w t t' o.type e i (.int .u8 0) hsl hds hi hz0 ⟨b,0,none⟩ n cap xs (by rw[q1,c2];simpa using hxl) holds ⟨s.toArray⟩ au qcr (by rw[q2,c3];exact growslice_fits au qcr);rw[hr]at h1;injection h1 with h1 _
         exact .inr (.inl (by rw[<-h1];rfl))
     split at hout
     ·rename_i hex;injection hout with hout
      subst hout;rw[hex]at hx;obtain⟨v',w',r1,r2,r3,r4⟩:=run (.slice none 0 0) 0 [] hx (World.ownsRow_nil w 0 e 1) (by rw[BZ];exact hp);have hB:Below w.heap.size w w':=⟨r3.os,r3.tape,r3.output,r3.size,fun k hk=>r3.block k hk (by simp[Value.ownBlock])⟩;have Ae:∃a n c,v'= .slice a n c:=by rcases r2.2 with⟨rfl,_⟩ | ⟨b,cp,cur,rfl,_⟩<;>exact⟨_,_,_,rfl⟩
      have hpos:∀b,d_ v'=some b->w.heap.size<=b:=by
       intro b hb;rw[pg v' Ae]at r4;rcases r4 with r4 | r4 | r4
       ·rw[hb]at r4;simp[Value.ownBlock]at r4
       ·rw[hb]at r4;injection r4 with r4;omega
       ·rw[hb]at r4;cases r4
      obtain⟨g1,g2,g3⟩:=h.add (l:=fr) (bk:= .row e d2) (v:=v') hB (hfr fr (lU _) au) hpos (fun M' hk _=>by
       refine⟨⟨fun b hb=> .inl (Ak h.below.size (hpos b hb)),⟨by rw[hl2];have:bT s.length 1:=hp;have:=this.1;omega,hS.anA au⟩⟩,Lib.strCells ⟨s.toArray⟩,?_,fun i' j hi' hj=> ?_⟩
       ·have:=r2;rw[BZ,Qcc]at this;rw[hs2,hl2];exact this
       ·rw[hs2]at hj⊢;obtain rfl:j=0:=by omega
        obtain⟨u,hu,hda,hr⟩:=hcell2 i' au;exact⟨u,by simpa using hu,hda,hr _ _ _⟩)
      exact lm r1 (hK _ _ _ g3 g2 (g1.weaken TW) (upd_same _ _ _))
     ·rename_i l hex;rw[hex]at hx;have hx:g l=some (a.eval x):=hx;split at hout
      ·rename_i e' d1 hb;split at hout
       ·rename_i hee;simp only[jY]at hee;have hs1:=Qa hee.2;have hee:=Qa hee.1;subst hee;split at hout
        ·rename_i d FV;injection hout with hout
         subst hout;obtain⟨c1',c2',c3',c4',c5'⟩:=hS.cat _ _ _ FV;obtain⟨v1,hv1,hm,xs,hown,hcell⟩:=h.dH l _ hb;rw[hx]at hv1;injection hv1 with hv1
         rw[hs1]at hown;obtain⟨v',w',r1,r2,r3,r4⟩:=run v1 (S.len d1) xs hv1 hown hp;have hsl1:∃a n c,v1= .slice a n c:=by rcases hown.2 with⟨rfl,_⟩ | ⟨b,cp,cur,rfl,_⟩<;>exact⟨_,_,_,rfl⟩
         have Ae:∃a n c,v'= .slice a n c:=by rcases r2.2 with⟨rfl,_⟩ | ⟨b,cp,cur,rfl,_⟩<;>exact⟨_,_,_,rfl⟩
         rw[pg v' Ae,pg v1 hsl1]at r4;rw[pg v1 hsl1]at r3;have hsd:S.size d=1:=by omega
         obtain⟨g1,g2,g3⟩:=h.move (l:=l) (fr:=fr) (bk':= .row e d) (v:=v1) (v':=v') qch (hv1▸hx) (hfr fr (lU _) au) r3.os r3.tape r3.output r3.size (fun n hn hne=>r3.block n hn fun e=>hne e.symm)
          (fun b hb'=>by
           rcases r4 with r4 | r4 | r4
           ·exact .inl (r4▸hb')
           ·rw[hb']at r4;injection r4 with r4;exact .inr au
           ·rw[hb']at r4;cases r4)
          (fun M' hk _=>by
           refine⟨⟨fun b hb'=> ?_,⟨by rw[c3',hl2];have:bT (S.len d1+s.length) 1:=hp;have:=this.1;omega,hS.anA au⟩⟩,xs++Lib.strCells ⟨s.toArray⟩,?_,fun i' j hi' hj=> ?_⟩
           ·rcases r4 with r4 | r4 | r4
            ·exact hm.1 b (r4▸hb')
            ·rw[hb']at r4;injection r4 with r4;exact .inl (r4▸h.below.size)
            ·rw[hb']at r4;cases r4
           ·have:=r2;rw[hsd,c3',hl2];exact this
           ·rw[hsd]at hj⊢;obtain rfl:j=0:=by omega
            rw[c3',hl2]at hi';have hxl:xs.length=S.len d1:=by simpa using hown.1
            by_cases hlt:i' < S.len d1
            ·obtain⟨u,hu,hda,hr⟩:=hcell i' 0 hlt au;rw[c4' i' 0 hlt];refine⟨u,?_,hda,hr.keep hk (hmg _)⟩;rw[Qdb,MB,Qa9 au,<-hu,hs1,Qdb,MB]
            ·obtain⟨k,rfl⟩:∃k,i'=S.len d1+k:=⟨i' - S.len d1,by omega⟩;obtain⟨u,hu,hda,hr⟩:=hcell2 k au;rw[c5' k 0 au];refine⟨u,?_,hda,hr _ _ _⟩;rw[Qdb,MB,Qa6 au,<-hu,hxl];congr 1;omega)
         exact lm r1 (hK _ _ _ g3 g2 (g1.weaken TW) (upd_same _ _ _))
        ·cases hout
       ·cases hout
      ·cases hout
     ·cases hout
    ·cases hout
   ·cases hout
  ·cases hout
 ·cases hout
theorem Hp.aH9 (h:Hp S w0 N blk g al w){l b:Nat}{v:Value}(hl:hot (blk l)=true)(hg:g l=some v)(hv:d_ v=some b)(hos:w'.os=w.os)(htp:w'.tape=w.tape)(hout:w'.output=w.output)(hsz:w'.heap.size=w.heap.size)
  (hsame:∀n,n≠b->w'.heap[n]? =w.heap[n]?):Hp S w0 N (upd blk l none) g al w'/\Keeps (aW N blk g) w (aW N (upd blk l none) g) w':=by
 have ayV:hot (upd blk l none l)=false:=by rw[upd_same];rfl
 have hsub:∀n,hot (upd blk l none n)=true->hot (blk n)=true:=fun n hn=>by
  by_cases he:n=l
  ·subst he;rw[ayV]at hn;cases hn
  ·rwa [bK _ _ _ _ he]at hn
 have hbM:aW N blk g b:= .inr ⟨l,v,hl,hg,hv⟩;obtain⟨hblt,hbm⟩:=h.mine hl hg hv;have hk:Keeps (aW N blk g) w (aW N (upd blk l none) g) w':=by
  refine⟨by omega,fun c _ hm=>⟨?_,hsame c fun e=>hm (e▸hbM)⟩⟩;rintro(hn | ⟨n,u,h1,h2,h3⟩)
  ·exact hm (.inl hn)
  ·exact hm (.inr ⟨n,u,hsub n h1,h2,h3⟩)
 refine⟨⟨⟨hos.trans h.below.os,htp.trans h.below.tape,hout.trans h.below.output,by rw[hsz];exact h.below.size,fun k hk' hx=> ?_⟩,h.hN,fun n bk hn=> ?_,fun n c vn vc d hn hc=>h.sep n c vn vc d (hsub n hn) (hsub c hc),h.al,h.refs,h.gl.keep hk⟩,hk⟩
 ·refine(hsame k fun e=> ?_).trans (h.below.block k hk' hx);subst e;rcases hbm with q | q
  ·omega
  ·exact hx q
 ·by_cases hne:n=l
  ·subst hne;rw[upd_same]at hn;cases hn
  ·rw[bK _ _ _ _ hne]at hn;obtain⟨u,hu,VV⟩:=h.dH n bk hn;refine⟨u,hu,VV.keep hk (More.refl _) fun hh c hc=>hsame c fun e=> ?_⟩;subst e;exact hne (h.sep n l u v c (by rw[hn];exact hh) hl hu hg hc hv)
theorem Pj {c:Call}{x:Operand}(ho:o.op= .call c)(hc:c.callee= .builtin .unsafeSliceData)(hx':c.args.toList=[x])(h:Hp S w0 N blk g al w)(hx:(aH slot x).Rel S (aW N blk g) w g (a.eval x))
  (hout:AA S blk (aH slot x)=some out) (hp:lZ out.pre) (hK:Post S w0 N blk g al w fr out o.dst a K):o.wp P a w K Q:=by
 have hargs:c.args= #[x]:=by rw[<-Io];exact hx'
 unfold AA at hout;split at hout
 ·rename_i l hex;rw[hex]at hx;have hx:g l=some (a.eval x):=hx;split at hout
  ·rename_i e d hb;split at hout
   ·injection hout with hout
    subst hout;have hp:0 < S.len d:=hp;obtain⟨v,hv',_,xs,⟨_,hown⟩,_⟩:=h.dH l _ hb;rw[hx]at hv';injection hv' with hv'
    rcases hown with⟨_,hn0⟩ | ⟨b,cap,cur,hvv,_,_,hnc,_⟩
    ·omega
    ·have hev:a.eval x= .slice (some ⟨b,0,none⟩) (S.len d) cap:=by rw[hv',hvv]
     refine bf (v:= .pointer (some ⟨b,0*1+0,none⟩)) ?_ h hK rfl ⟨b,S.len d,cap,by rw[hx,hev],rfl⟩;simp only[execOp,ho,resolve,hc,invoke,builtin,hargs,Sem.run_bind,Sem.run_pure,Result.andThen_ok,Qci,F_,Qcu,hev,Lib.run_unsafeSliceData_row _ _ _ _ _ _ (show cap≠0 by omega)]
   ·cases hout
  ·cases hout
 ·rename_i hex;rw[hex]at hx;have hx:a.eval x= .slice none 0 0:=hx;injection hout with hout
  subst hout;refine bf (v:= .pointer none) ?_ h hK rfl rfl;simp only[execOp,ho,resolve,hc,invoke,builtin,hargs,Sem.run_bind,Sem.run_pure,Result.andThen_ok,Qci,F_,Qcu,hx,Lib.run_unsafeSliceData_nil]
 ·cases hout
theorem Jl (w:World)(b n m:Nat):(w.freeze ⟨b,0,none⟩ n).os=w.os/\(w.freeze ⟨b,0,none⟩ n).tape=w.tape/\(w.freeze ⟨b,0,none⟩ n).output=w.output/\(w.freeze ⟨b,0,none⟩ n).heap.size=w.heap.size/\(m≠b->(w.freeze ⟨b,0,none⟩ n).heap[m]? =w.heap[m]?):=by
 unfold World.freeze;split
 ·exact⟨rfl,rfl,rfl,rfl,fun _=>rfl⟩
 ·refine⟨rfl,rfl,rfl,by simp,fun hm=> ?_⟩;simp[Qco,Ne.symm hm]
theorem O7 {c:Call}{x y:Operand}(ho:o.op= .call c)(hc:c.callee= .builtin .unsafeString)(hx':c.args.toList=[x,y])(hTy:∀t ty,T t=some ty->fU P t ty)(h:Hp S w0 N blk g al w)(hx:(aH slot x).Rel S (aW N blk g) w g (a.eval x))
  (hy:(aH slot y).Rel S (aW N blk g) w g (a.eval y)) (hout:BK T S blk c.argTypes (aH slot x) (aH slot y)=some out) (hp:lZ out.pre) (hK:Post S w0 N blk g al w fr out o.dst a K):o.wp P a w K Q:=by
 have hargs:c.args= #[x,y]:=by rw[<-Io];exact hx'
 unfold BK at hout;split at hout
 ·rename_i l n hex CE;rw[hex]at hx;rw[CE]at hy;have hy:a.eval y= .int .i64 n:=hy;obtain⟨b,n',cap',hg,hv⟩:=hx;have hv:a.eval x= .pointer (some ⟨b,0,none⟩):=by simpa using hv
  split at hout
  ·rename_i e d hb;split at hout
   ·rename_i hcc;injection hout with hout
    subst hout;simp only[jY]at hcc;obtain⟨c0,c1⟩:=hcc;have c1:=Qa c1;obtain⟨p1,p2,c2⟩:n=S.len d/\0 < n/\Z_ S d (S.len d)=true:=hp;subst p1;have p2:0 < S.len d:=by omega
    unfold ptrTo at c0;split at c0
    ·rename_i pt it hts;have hat:c.argTypes= #[pt,it]:=by rw[<-Io];exact hts
     split at c0
     ·rename_i ty te hty hte;simp only[jY]at c0;obtain⟨k1,k2,k3⟩:=c0;have k1:=Qa k1;have k2:=Qa k2;split at k3
      ·rename_i e' e'' hmp;have k3:=Qa k3;subst k3;have hpt:=amU (hTy _ _ hty) hmp k1;obtain⟨i,z,hi,hz,q1,q2,q3⟩:=qR (hTy _ _ hte);have hcells:P.cellsOf e=1:=by simp[Program.cellsOf,hi,q1,k2]
       obtain⟨v,hv',hm,xs,hown,hcell⟩:=h.dH l _ hb;rw[hg]at hv';injection hv' with hv'
       rcases hown.2 with⟨_,hn0⟩ | ⟨b',cap,cur,hvv,_,hh,hnc,hcm,hcs,htake⟩
       ·omega
       ·rw[hvv]at hv';injection hv' with hv1 hv2 hv3
        injection hv1 with hv1
        injection hv1 with hv1
        subst hv1;have hl:xs.length=S.len d*S.size d:=hown.1;obtain⟨ns,hn1,hn2⟩:=Tv c1 (afD c2) hl (fun i j hi hj=>by obtain⟨u,h1,_,h3⟩:=hcell i j hi hj;exact⟨u,h1,h3⟩);have hlen:(bytesOf S d).length=S.len d:=by simp[bytesOf]
        have hcl:∀j x,(bytesOf S d)[j]? =some x->w.cell? ((⟨b,0,none⟩:Addr).add j)=some (.int .u8 x.toNat):=by
         intro j x hj;have hjl:j < S.len d:=by rw[<-hlen];exact(Qaz.1 hj).1
         obtain⟨k,hk,hk0,hk1⟩:=alf c2 j hjl;obtain⟨u,hu,_,hr⟩:=hcell j 0 hjl au;rw[hk]at hr;have hr:u= .int .u8 k:=hr;rw[c1,Qdb,MB,hr]at hu;have hx:x=UInt8.ofNat k.toNat:=by
          unfold bytesOf at hj;rw[Qbb,Qec hjl]at hj;simp[hk,aA6]at hj;exact hj.symm
         have hkx:(x.toNat:Int)=k:=by
          rw[hx];have:k.toNat < 256:=by omega
          simp[UInt8.toNat_ofNat',Qb1 this];omega
         rw[hkx];exact hown.cells (g:=b) (by rw[hvv];rfl) j _ hu
        have hrun:=Lib.run_unsafeString_row (P:=P) w pt it o.type e hpt hcells b cur.size (by simp[World.shape?,hh]) (bytesOf S d) (fun e=>by rw[e]at hlen;simp at hlen;omega) (by rw[hlen,hcs,c1];omega) (by rw[hlen];exact hm.2.1) hcl;obtain⟨f1,f2,f3,f4,_⟩:=Jl w b (bytesOf S d).length 0;obtain⟨hp',hk'⟩:=h.aH9 (w':=w.freeze ⟨b,0,none⟩ (bytesOf S d).length) qch hg rfl f1 f2 f3 f4 (fun m hm=>(Jl w b (bytesOf S d).length m).2.2.2.2 hm);refine lm (v:= .string ⟨(bytesOf S d).toArray⟩) ?_ (hK _ _ _ (More.refl _) hk' (hp'.weaken fun n hn=> .inl hn) ⟨rfl,by rw[hlen];exact hm.2.1⟩);simp only[execOp,ho,resolve,hc,invoke,builtin,hargs,hat,Sem.run_bind,Sem.run_pure,Result.andThen_ok,Qci,F_,Qcu,hv,hy];rw[hlen]at hrun⊢;rw[hrun];rfl
      ·cases k3
     ·cases c0
    ·cases c0
   ·cases hout
  ·cases hout
 ·rename_i n hex CE;rw[hex]at hx;rw[CE]at hy;have hx:a.eval x= .pointer none:=hx;have hy:a.eval y= .int .i64 n:=hy;split at hout
  ·rename_i pt it hts;have hat:c.argTypes= #[pt,it]:=by rw[<-Io];exact hts
   injection hout with hout
   subst hout;have hp:n=0:=hp;subst hp;refine bf (v:= .string ⟨#[]⟩) ?_ h hK rfl ⟨rfl,by simp⟩;simp only[execOp,ho,resolve,hc,invoke,builtin,hargs,hat,Sem.run_bind,Sem.run_pure,Result.andThen_ok,Qci,F_,Qcu,hx,hy,Lib.run_unsafeString_none];rfl
  ·cases hout
 ·cases hout
theorem acV (hS:jd S){f:FuncId}{args:List (Sl D)}{vals:List Value}(hΓ:∀f ct,Γ f=some ct->fV P S f ct)(h:Hp S w0 N blk g al w)(hfr:∀n,fr<=n->n < fr+64->¬al n)
  (hargs:iw S (aW N blk g) w g args vals) (hrun:∀ct,fV P S f ct->(execOp a.eval o).run P w= .ok (.enter f vals.toArray) w) (hout:JH Γ f blk args fr=some out) (hp:lZ out.pre) (hK:Post S w0 N blk g al w fr out o.dst a K):o.wp P a w K Q:=by
 unfold JH at hout;split at hout
 ·cases hout
 ·rename_i ct hct;have hok:=hΓ f ct hct;have hrun:=hrun ct hok;have fin:(Calls P f vals.toArray w fun e w'=>∃v g',e= .returned v/\More g g'/\Keeps (aW N blk g) w (aW N (lG blk out.blks) g') w'/\Hp S w0 N (lG blk out.blks) g' (fun n=>al n\/(fr<=n/\n < fr+64)) w'/\
    out.val.Rel S (aW N (lG blk out.blks) g') w' g' v)->o.wp P a w K Q:=by
   intro hcall;simp only[Oper.wp,hrun,Oper.upon_enter];refine hcall.mono ?_;rintro e w' ⟨v,g',rfl,h1,h2,h3,h4⟩;exact hK v w' g' h1 h2 h3 h4
  dsimp only at hout;have hn:=hargs.norm;generalize args.map Sl.norm=as at hn hout;cases h1:AX ct blk fr (as.map (Sl.view blk)) (lX [] (as.flatMap Sl.owns))with
  | some out'=>
   rw[h1]at hout;simp only[Ba,KZ]at hout;subst hout;refine fin (vU hS hok h hfr (fun ids dH hg hv=> ?_) (fun l hl=> ?_) (fun l hl=> ?_) h1 hp)
   ·refine iw.view hS (jr:=lX [] (as.flatMap Sl.owns)) h ⟨fun b hb=>(uY hg b hb).1,fun l hl v b hh hgl hbl hb=> ?_⟩ (fun l hl=>(eU _ _ _).2 (.inr hl)) hn;rcases(uY hg b hb).2 with q | ⟨l',v',⟨q1,q2,q3,q4⟩ | ⟨q1,q2,q3,q4⟩⟩
    ·exact h.afc hh hgl hbl q
    ·have:=h.sep l l' v v' b hh q1 hgl q3 hbl q4;subst this;exact q2 hl
    ·have:=h.sep l l' v v' b hh q2 hgl q3 hbl q4;subst this;exact hv l hl q1
   ·exact Zo hn (((eU _ _ _).1 hl).resolve_left oJ)
   ·obtain⟨x,hx,hlx⟩:=vZ.1 (((eU _ _ _).1 hl).resolve_left oJ);rcases ai_ (blk:=blk) hlx with q | q | q
    ·exact .inl q
    ·exact .inr (.inl q)
    ·exact .inr (.inr (vZ.2 ⟨_,Ik.2 ⟨x,hx,rfl⟩,q⟩))
  | none=>
   rw[h1]at hout;simp only[Ba]at hout;exact fin (vU (jr:=[]) hS hok h hfr (fun ids dH hg hv=>hn.less fun b hb=>(uY hg b hb).1) (fun l hl=>by simp at hl) (fun l hl=>by simp at hl) hout hp)
theorem ado (hS:jd S){c:Call}{fo:Operand}(ho:o.op= .call c)(hc:c.callee= .value fo)(hΓ:∀f ct,Γ f=some ct->fV P S f ct)(h:Hp S w0 N blk g al w)(hfr:∀n,fr<=n->n < fr+64->¬al n)
  (hs:∀t,(slot t).Rel S (aW N blk g) w g (a.tmps.getD t undef)) (hout:Zy Γ blk fr (aH slot fo) (c.args.toList.map (aH slot))=some out) (hp:lZ out.pre) (hK:Post S w0 N blk g al w fr out o.dst a K):o.wp P a w K Q:=by
 have hfv:=oG hs fo;unfold Zy at hout;split at hout
 ·rename_i f ag ps hex;rw[hex]at hfv;obtain⟨u,hu,hin⟩:∃u,a.eval fo= .func (.func f) #[u] #[]/\Nv S (aW N blk g) w ag ps u:=hfv;split at hout
  ·rename_i x hx;refine acV hS (args:=x::c.args.toList.map (aH slot)) (vals:=u::c.args.toList.map a.eval) hΓ h hfr ⟨adU hx hin,MH hs _⟩ (fun ct hok=> ?_) hout hp hK;have hen:=hok.enters (u::c.args.toList.map a.eval).toArray w;simp only[execOp,ho,resolve,hc,Deferred.ofValue,hu,Sem.run_bind,Sem.run_pure,Result.andThen_ok,invoke];have:(#[u]++c.args.map a.eval:Array Value)++ #[]=(u::c.args.toList.map a.eval).toArray:=by rw[<-Io];simp
   rw[this,hen]
  ·cases hout
 ·cases hout
theorem TJ (hTy:∀t ty,T t=some ty->fU P t ty)(hΓ:∀f ct,Γ f=some ct->fV P S f ct)(hS:jd S)(h:Hp S w0 N blk g al w)(hfr:∀n,fr<=n->n < fr+64->¬al n)
  (hs:∀t,(slot t).Rel S (aW N blk g) w g (a.tmps.getD t undef)) (hout:xB T S Γ slot blk fr o.op=some out) (hp:lZ out.pre) (hK:Post S w0 N blk g al w fr out o.dst a K):o.wp P a w K Q:=by
 have hr:=oG hs;unfold xB at hout;split at hout
 ·rename_i t ho;exact Z5 ho hTy h hfr hout hK
 ·rename_i t x ho;exact acu ho hTy h (hr x) hout hK
 ·rename_i t x y ho;exact Zj ho hTy h (hr x) (hr y) hout hK
 ·rename_i t x i ho;exact acd ho hTy h (hr x) (hr i) hout hp hK
 ·rename_i t x i ho;exact ZK ho hTy h (hr x) (hr i) hout hp hK
 ·rename_i t ho;exact WR hS ho h hfr hout hK
 ·rename_i t x lo hi ho;exact ZL hS ho hTy h hr hout hp hK
 ·rename_i t x lo hi mx ho;exact ZO hS ho hTy h hr hout hp hK
 ·rename_i t x i ok ho;exact aas hS ho hTy h (hr x) (hr i) hout hK
 ·rename_i t x i v ho;exact JD hS (.inl ho) hTy h (hr x) (hr i) (hr v) hout hK
 ·rename_i t x i v ho;exact JD hS (.inr ho) hTy h (hr x) (hr i) (hr v) hout hK
 ·rename_i t d x ho;split at hout
  ·rename_i out' hx;injection hout with hout
   subst hout;exact agq hS ho hTy h (hr x) hx hp hK
  ·exact ac5 hS ho hTy h (hr x) hout hK
 ·rename_i t x ho;exact amb ho hTy h (hr x) hout hK
 ·rename_i x st t ok ho;exact WX ho hTy h (hr x) hout hK
 ·rename_i op t x y yt ho;exact ahU ho hTy h (hr x) (hr y) hout hK
 ·rename_i f first caps ho
  split at hout
  ·rename_i x h1 h2;exact alz ho h1 h2 h (hr x) hout hK
  ·cases hout
 ·rename_i x ho;split at hout
  ·rename_i e hex;split at hout
   ·rename_i f ag ps;have hx:=hr x;rw[hex]at hx;injection hout with hout
    subst hout;refine bf (v:=a.eval x) ?_ h hK rfl hx;obtain⟨u,hu,_⟩:=hx;simp[execOp,ho,hu]
   ·cases hout
  ·cases hout
 ·rename_i c ho;split at hout
  ·rename_i f hc;exact ado hS ho hc hΓ h hfr hs hout hp hK
  ·rename_i hc;split at hout
   ·rename_i x y hargs;split at hout
    ·rename_i out' hx;injection hout with hout
     subst hout;exact WG hS ho hc hargs hTy h hfr (hr x) (hr y) hx hp hK
    split at hout
    ·rename_i out' hx;injection hout with hout
     subst hout;exact WF ho hc hargs hTy h (hr x) (hr y) hx hK
    split at hout
    ·rename_i out' hx;injection hout with hout
     subst hout;exact Wp hS ho hc hargs hTy h hfr (hr x) (hr y) hx hp hK
    ·exact WA hS ho hc hargs hTy h hfr (hr x) (hr y) hout hp hK
   ·cases hout
  ·rename_i hc;split at hout
   ·rename_i x hargs;exact alj ho hc hargs hTy h (hr x) hout hK
   ·cases hout
  ·rename_i hc;split at hout
   ·rename_i x hargs;exact Pj ho hc hargs h (hr x) hout hp hK
   ·cases hout
  ·rename_i hc;split at hout
   ·rename_i x y hargs;exact O7 ho hc hargs hTy h (hr x) (hr y) hout hp hK
   ·cases hout
  ·cases hout
 ·cases hout
theorem aeS (hTy:∀t ty,T t=some ty->fU P t ty)(hΓ:∀f ct,Γ f=some ct->fV P S f ct)(hS:jd S)(h:Hp S w0 N blk g al w)(hfr:∀n,fr<=n->n < fr+64->¬al n)
  (hs:∀t,(slot t).Rel S (aW N blk g) w g (a.tmps.getD t undef)) (hout:Nq T S Γ slot blk fr o.op=some out) (hp:lZ out.pre) (hK:Post S w0 N blk g al w fr out o.dst a K):o.wp P a w K Q:=by
 unfold Nq at hout;dsimp only at hout;split at hout
 ·rename_i hc;simp only[jY,MX]at hc;split at hout
  ·rename_i out' hx;injection hout with hout
   subst hout;have hnd:(iK slot o.op).Nodup:=qj _ _ Qeg;obtain⟨h1,k1,s1,o1⟩:=Hp.FP hS (iK slot o.op) blk hnd h;refine TJ hTy hΓ hS h1 hfr (fun t=> ?_) hx hp (fun v w' g' m k hp' hr=> ?_)
   ·unfold Ce;split
    ·rename_i ht;have ht:=gX.1 ht;refine Sl.Rel.view (jr:=iK slot o.op) hS h ⟨?_,fun l hl v b hh hg hb=> ?_⟩ (fun l hl=>(eU _ _ _).2 (.inr (vZ.2 ⟨t,ht,hl⟩))) (hs t)
     ·rintro b (hb | ⟨n,u,q1,q2,q3⟩)
      ·exact .inl hb
      ·exact .inr ⟨n,u,s1 n q1,q2,q3⟩
     ·rintro(q | ⟨n,u,q1,q2,q3⟩)
      ·exact h.afc hh hg hb q
      ·have:=h.sep l n v u b hh (s1 n q1) hg q2 hb q3;subst this;rw[o1 l hl (hc.2 l hl)]at q1;cases q1
    ·exact(hs t).keep k1 (More.refl _)
   ·have e:lG blk ((iK slot o.op).filterMap (jl blk)++out'.blks)=lG (lG blk ((iK slot o.op).filterMap (jl blk))) out'.blks:=Rn _ _ _;refine hK v w' g' m ?_ ?_ ?_
    ·rw[e];exact k1.comp k
    ·rw[e];exact hp'
    ·rw[e];exact hr
  ·cases hout
 ·cases hout
theorem af2 (hTy:∀t ty,T t=some ty->fU P t ty)(hΓ:∀f ct,Γ f=some ct->fV P S f ct)(hS:jd S)(h:Hp S w0 N blk g al w)(hfr:∀n,fr<=n->n < fr+64->¬al n)
  (hs:∀t,(slot t).Rel S (aW N blk g) w g (a.tmps.getD t undef)) (hout:Does T S Γ slot blk fr o.op out) (hp:lZ out.pre) (hK:Post S w0 N blk g al w fr out o.dst a K):o.wp P a w K Q:=by
 rcases hout with hout | ⟨b,o1,o2,hx,rfl⟩
 ·unfold amG at hout;split at hout
  ·rename_i out' hx;injection hout with hout
   subst hout;exact TJ hTy hΓ hS h hfr hs hx hp hK
  ·split at hout
   ·rename_i out' hx;injection hout with hout
    subst hout;exact aeS hTy hΓ hS h hfr hs hx hp hK
   ·unfold aql at hout;split at hout
    ·rename_i t x ho;exact adS ho hTy h hfr (oG hs x) hout hK
    ·exact alP hTy hΓ hS h hfr hs hout hp hK
 ·exact ag6 h hs hx hK
end
end Go.Vc
