/- Own engine: Vei, Vek, Vel, Ven, Vem. -/
import Derived.Test.YtjojefbphdmnjaaGreatDoorEng12
import Derived.Lib.Bytealg
import GoSem.ClaimGoes
set_option linter.unusedVariables false
set_option linter.unusedSimpArgs false
namespace Go.Vc
open Go.RowKit
theorem ahC {k:IntKind}(a:k.signed=false)(n:Nat):wrp k (n:Int)=((n % 2 ^ k.bits:Nat):Int):=by
 cases k<;>simp[IntKind.signed]at a<;>simp[wrp,IntKind.wrap,IntKind.signed,IntKind.bits]
theorem Aw {k:IntKind}(a:k.signed=false){n:Nat}(h:n < 2 ^ k.bits):wrp k (n:Int)=(n:Int):=by
 rw[ahC a,Qbv h]
theorem aiD {k:IntKind}(c:k.signed=false){x y:Nat}(b:x < 2 ^ k.bits)(a:y < 2 ^ k.bits):orI k (x:Int) (y:Int)=((x ||| y:Nat):Int):=by
 have:(BitVec.ofInt k.bits (x:Int) ||| BitVec.ofInt k.bits (y:Int)).toNat=x ||| y:=by
  grind
 unfold orI;rw[this];exact Aw c (Nat.or_lt_two_pow b a)
theorem auG {k:IntKind}(b:k.signed=false){x y:Nat}(c:x < 2 ^ k.bits)(a:y < 2 ^ k.bits):qE k (x:Int) (y:Int)=((x &&& y:Nat):Int):=by
 have:(BitVec.ofInt k.bits (x:Int) &&& BitVec.ofInt k.bits (y:Int)).toNat=x &&& y:=by
  grind
 unfold qE;rw[this];exact Aw b (Nat.and_lt_two_pow x a)
theorem abq {k:IntKind}(x n:Nat)(a:n<=k.bits):qM k (x:Int) (n:Int)=((x / 2 ^ n:Nat):Int):=by
 unfold qM
 grind
theorem aqF {k:IntKind}(a:k.signed=false){x n:Nat}(b:n<=k.bits)(h:x*2 ^ n < 2 ^ k.bits):UN k (x:Int) (n:Int)=((x*2 ^ n:Nat):Int):=by
 unfold UN;rw[u_,Nat.min_eq_left b];have:(x:Int)*2 ^ n=((x*2 ^ n:Nat):Int):=by norm_cast
 rw[this];exact Aw a h
end Go.Vc
namespace Go.Vc
open Go.RowKit
def encV:Nat->Nat->List Nat
 | 0,_=>[]
 | k+1,x=>if x < 128 then[x]else(x % 128+128)::encV k (x / 128)
def awY:List Nat->Nat
 | []=>0
 | c::l=>c % 128+128*awY l
def wfV:List Nat->Prop
 | []=>False
 | [c]=>c < 128
 | c::l=>128<=c/\c < 256/\wfV l
theorem awX {l:List Nat}(h:wfV l):1<=l.length:=by
 cases l with
 | nil=>exact h.elim
 | cons c l=>simp
def takeV:Nat->List UInt8->Nat×Nat×Int
 | _,[]=>(0,0,4)
 | i,c::r=>if i=9/\1 < c.toNat then(0,0,6)else if c.toNat < 128 then(c.toNat,1,0)else(match takeV (i+1) r with
  | (u,n,e)=>if e=0 then(c.toNat % 128+128*u,n+1,0)else(0,0,e))
theorem O8:∀(s:List UInt8) (i:Nat),i<=9->(takeV i s).2.2=0->∃l:List Nat,wfV l/\(s.take (takeV i s).2.1).map UInt8.toNat=l/\(takeV i s).2.1=l.length/\(takeV i s).2.1<=s.length/\awY l=(takeV i s).1/\l.length+i<=10/\(takeV i s).1 < 2 ^ (64 - 7*i)
 | [],i,_,h=>by simp[takeV]at h
 | c::r,i,x,h=>by
  unfold takeV at h⊢;have y:=c.toNat_lt;by_cases f:i=9/\1 < c.toNat
  ·grind
  ·rw[vF f]at h⊢;by_cases a:c.toNat < 128
   ·rw[Ai a]at h⊢;refine⟨[c.toNat],a,by simp,rfl,by simp,by simp[awY];omega,by simp;omega,?_⟩;rcases(by omega:i=9\/i<=8)with rfl | h8
    ·omega
    ·have:2 ^ 8<=2 ^ (64 - 7*i):=Qcs h_ ah;omega
   ·rw[vF a]at h⊢;generalize k:takeV (i+1) r=t at h⊢;obtain⟨u,n,e⟩:=t;dsimp only at h⊢;by_cases m:e=0
    ·rw[Ai m]at h⊢;have w:i≠9:=fun p=>f ⟨p,by omega⟩
     have:=O8 r (i+1) ah qP;rw[k]at this;obtain⟨l,j,v,b,q,g,z,o⟩:=this;dsimp only at v b q g o⊢;refine⟨c.toNat::l,?_,?_,by simp[b],by simp;omega,by simp only[awY];rw[g],by simp;omega,?_⟩
     ·cases l with
      | nil=>exact j.elim
      | cons d l=>exact⟨by omega,by omega,j⟩
     ·grind
     ·have A:64 - 7*i=(64 - 7*(i+1))+7:=by omega
      grind
    grind
end Go.Vc
namespace Go.Vc
open Go.RowKit
def kw (c:UInt8):List UInt8->List (List UInt8)
 | []=>[[]]
 | x::s=>if x==c then[]::kw c s else match kw c s with
  | []=>[[x]]
  | p::r=>(x::p)::r
theorem aeN {c x:UInt8}{s:List UInt8}(h:(x==c)=true):kw c (x::s)=[]::kw c s:=by
 conv=>lhs;unfold kw
 rw[h];rfl
theorem WH {c x:UInt8}{s:List UInt8}(h:(x==c)=false):kw c (x::s)=match kw c s with
  | []=>[[x]]
  | p::r=>(x::p)::r:=by
 conv=>lhs;unfold kw
 rw[h];rfl
def headB (a:List UInt8):List (List UInt8)->List (List UInt8)
 | []=>[a]
 | p::r=>(a++p)::r
theorem En {c:UInt8}:∀{s:List UInt8},Lib.indexByte s c= -1->kw c s=[s]/\Lib.countByte s c=0
 | [],_=>⟨rfl,rfl⟩
 | x::s,h=>by
  have f:=Lib.indexByte_ge s c;unfold Lib.indexByte at h;cases a:x==c with
  | true=>grind
  | false=>
   rw[a]at h;simp only[Qbl,if_false]at h;by_cases e:Lib.indexByte s c= -1
   ·obtain⟨d,b⟩:=En e;rw[WH a,d];refine⟨rfl,?_⟩;unfold Lib.countByte at b⊢
    grind
   grind
theorem EL {c:UInt8}:∀{s:List UInt8} {m:Nat},Lib.indexByte s c=(m:Int)->m < s.length/\kw c s=s.take m::kw c (s.drop (m+1))/\Lib.countByte s c=Lib.countByte (s.drop (m+1)) c+1
 | [],m,h=>by unfold Lib.indexByte at h;omega
 | x::s,m,h=>by
  have f:=Lib.indexByte_ge s c;unfold Lib.indexByte at h;cases a:x==c with
  | true=>
   rw[a]at h;simp only[if_true]at h;obtain rfl:m=0:=by omega
   rw[aeN a];refine⟨by simp,rfl,?_⟩;unfold Lib.countByte
   grind
  | false=>
   rw[a]at h;simp only[Qbl,if_false]at h;by_cases e:Lib.indexByte s c= -1
   ·grind
   ·have:(Lib.indexByte s c== -1)=false:=by simpa using e
    rw[this]at h;simp only[Qbl,if_false]at h;obtain⟨k,rfl⟩:∃k,m=k+1:=⟨m - 1,by omega⟩;obtain⟨g,b,d⟩:=EL (c:=c) (s:=s) (m:=k) ah;rw[WH a,b];refine⟨by simp;omega,rfl,?_⟩;unfold Lib.countByte at d⊢
    grind
theorem count_le (c:UInt8)(s:List UInt8):Lib.countByte s c<=s.length:=List.count_le_length
end Go.Vc
namespace Go.Vc
open Go.RowKit
section
variable {K V:Type}[DecidableEq K]
def Fj (l:List (K×V))(k:K):Bool:=l.any fun p=>decide (k=p.1)
def xP (z:V):List (K×V)->K->V
 | [],_=>z
 | p::r,k=>if k=p.1 then p.2 else xP z r k
def qp:List (K×V)->K->V->List (K×V)
 | [],k,v=>[(k,v)]
 | p::r,k,v=>if k=p.1 then(p.1,v)::r else p::qp r k v
end
structure Kv (K V:Type) where
 kind:Nat
 key:K->Pv
 unk:Pv->Option K
 agg:Bool
 enc:V->List Pv
 dec:List Pv->Option V
 z:V
structure auP {K V:Type}[DecidableEq K](c:Kv K V):Prop where
 kd:∀k,(c.key k).kind=c.kind
 un:∀p,p.kind=c.kind->∃k,c.unk p=some k/\c.key k=p
 beq:∀k k',Pv.beq (c.key k) (c.key k')=decide (k=k')
 dk:∀vs,vs.map Pv.kind=(c.enc c.z).map Pv.kind->∃v,c.dec vs=some v/\c.enc v=vs
def O9 {D K V:Type}[DecidableEq K](c:Kv K V)(inj:List (K×V)->D)(l:List (K×V)):Mp D where
 kind:=c.kind
 agg:=c.agg
 zero:=c.enc c.z
 kvs:=l.map fun p=>(c.key p.1,c.enc p.2)
 has:=fun p=>match c.unk p with
  | some k=>Fj l k
  | none=>false
 get:=fun p=>match c.unk p with
  | some k=>(c.enc (xP c.z l k)).map Pv.lf
  | none=>[]
 put:=fun p vs=>match c.unk p,c.dec vs with
  | some k,some v=>inj (qp l k v)
  | _,_=>inj l
 len:=l.length
theorem OY {K V:Type}[DecidableEq K]{c:Kv K V}(a:auP c)(k:K):∀l:List (K×V),vW (c.key k) (l.map fun p=>(c.key p.1,c.enc p.2))=if Fj l k then some (c.enc (xP c.z l k))else none
 | []=>rfl
 | p::r=>by
  by_cases h:k=p.1
  ·have e:Fj (p::r) k=true:=by simp[Fj,h]
   rw[e];simp[vW,a.beq,xP,h]
  ·have e:Fj (p::r) k=Fj r k:=by simp[Fj,h]
   have b:xP c.z (p::r) k=xP c.z r k:=by simp[xP,h]
   rw[e,b,<-OY a k r];simp[vW,a.beq,h]
theorem Ru {K V:Type}[DecidableEq K](z:V)(k:K):∀l:List (K×V),Fj l k=false->xP z l k=z
 | [],_=>rfl
 | p::r,h=>by
  simp only[Fj,List.any_cons,Bool.or_eq_false_iff,decide_eq_false_iff_not]at h;unfold xP;rw[vF h.1];exact Ru z k r h.2
theorem aju {K V:Type}[DecidableEq K]{c:Kv K V}(a:auP c)(k:K)(v:V):∀l:List (K×V),TQ (c.key k) (c.enc v) (l.map fun p=>(c.key p.1,c.enc p.2))=(qp l k v).map fun p=>(c.key p.1,c.enc p.2)
 | []=>rfl
 | p::r=>by
  simp only[MQ,TQ,a.beq,qp];by_cases h:k=p.1
  ·simp[h]
  ·simp[h,aju a k v r]
theorem aim {D K V:Type}[DecidableEq K]{S:Sh D}{c:Kv K V}{inj:List (K×V)->D}(hc:auP c)(hi:∀l,S.mp (inj l)=some (O9 c inj l))(l:List (K×V)):azl S (O9 c inj l) where
 keys:=fun p hp=>by
  obtain⟨q,_,rfl⟩:=Qbf.1 hp;exact hc.kd _
 has:=fun p hp=>by
  obtain⟨k,h1,rfl⟩:=hc.un p hp;simp only[O9,h1,OY hc]
  grind
 get:=fun p hp=>by
  obtain⟨k,h1,rfl⟩:=hc.un p hp;simp only[O9,h1,OY hc]
  grind [Ru]
 put:=fun p vs hp hv=>by
  obtain⟨k,h1,rfl⟩:=hc.un p hp;obtain⟨v,h2,rfl⟩:=hc.dk vs hv;refine⟨O9 c inj (qp l k v),?_,?_,rfl⟩
  ·simp only[O9,h1,h2];exact hi _
  ·simp only[O9];exact(aju hc k v l).symm
 len:=by simp[O9]
def apG:Kv (List UInt8) Bool where
 kind:=3
 key:= .str
 unk:=fun p=>match p with
  | .str s=>some s
  | _=>none
 agg:=false
 enc:=fun b=>[.bool b]
 dec:=fun vs=>match vs with
  | [.bool b]=>some b
  | _=>none
 z:=false
theorem G6 {k:IntKind}(h:qm k=3\/qm k=1):False:=by simp_all
theorem aks:auP apG where
 kd:=fun _=>rfl
 un:=fun p hp=>by
  cases p with
  | str s=>exact⟨s,rfl,rfl⟩
  | bool b=>simp[Pv.kind,apG]at hp
  | int k n=>exact(G6 (.inl hp)).elim
 beq:=fun a b=>by
  show(a==b)=decide (a=b)
  grind
 dk:=fun vs h=>by
  match vs,h with
  | [.bool b],_=>exact⟨b,rfl,rfl⟩
  | [.str s],h=>exact absurd h (by simp[apG,Pv.kind])
  | [.int k n],h=>exact absurd h (fun h=>G6 (k:=k) (.inr (by injection h)))
  | [],h=>exact absurd h (by simp[apG])
  | _::_::_,h=>exact absurd h (by simp[apG])
structure PvC (V:Type) where
 kinds:List Nat
 enc:V->List Pv
 dec:List Pv->Option V
class MH {V:Type} (c:PvC V):Prop where
 kd:∀v,(c.enc v).map Pv.kind=c.kinds
 dk:∀vs,vs.map Pv.kind=c.kinds->∃v,c.dec vs=some v/\c.enc v=vs
theorem aoJ {k a:IntKind}(h:qm k=qm a):k=a:=by cases k<;>cases a<;>first | rfl | (simp[qm]at h)
def pvB:PvC Bool:=⟨[1],fun b=>[.bool b],fun a=>match a with
 | [.bool b]=>some b
 | _=>none⟩
def pvI (k:IntKind):PvC Int:=⟨[qm k],fun n=>[.int k n],fun a=>match a with
 | [.int _ n]=>some n
 | _=>none⟩
def pvP {A B:Type}(c:PvC A)(d:PvC B):PvC (A×B):=⟨c.kinds++d.kinds,fun p=>c.enc p.1++d.enc p.2,fun e=>match c.dec (e.take c.kinds.length),d.dec (e.drop c.kinds.length)with
 | some a,some b=>some (a,b)
 | _,_=>none⟩
def ah6 {A B:Type}(c:PvC A)(f:A->B)(g:B->A):PvC B:=⟨c.kinds,fun b=>c.enc (g b),fun d=>match c.dec d with
 | some a=>some (f a)
 | none=>none⟩
instance aE7:MH pvB:=⟨fun _=>rfl,fun a h=>by
 match a,h with
 | [.bool b],_=>exact⟨b,rfl,rfl⟩
 | [.str s],h=>exact absurd h (by simp[pvB,Pv.kind])
 | [.int k n],h=>exact absurd h (fun h=>G6 (k:=k) (.inr (by injection h)))
 | [],h=>exact absurd h (by simp[pvB])
 | _::_::_,h=>exact absurd h (by simp[pvB])⟩
instance avf (k:IntKind):MH (pvI k):=⟨fun _=>rfl,fun a h=>by
 match a,h with
 | [.int c b],h=>
  have h:qm c=qm k:=by injection h
  rw[aoJ h];exact⟨b,rfl,rfl⟩
 | [.bool s],h=>exact absurd h.symm (fun h=>G6 (k:=k) (.inr (by injection h)))
 | [.str s],h=>exact absurd h.symm (fun h=>G6 (k:=k) (.inl (by injection h)))
 | [],h=>exact absurd h (by simp[pvI])
 | _::_::_,h=>exact absurd h (by simp[pvI])⟩
instance aE8 {A B:Type} {c:PvC A} {d:PvC B} [hc:MH c] [hd:MH d]:MH (pvP c d):=⟨fun p=>by simp[pvP,hc.kd,hd.kd],fun e h=>by
 have h:e.map Pv.kind=c.kinds++d.kinds:=h;have g:(e.take c.kinds.length).map Pv.kind=c.kinds:=by rw[List.map_take,h,Qch]
 have f:(e.drop c.kinds.length).map Pv.kind=d.kinds:=by rw[List.map_drop,h,Qcr]
 obtain⟨a,a1,a2⟩:=hc.dk _ g;obtain⟨b,b1,i⟩:=hd.dk _ f;refine⟨(a,b),by simp only[pvP,a1,b1],?_⟩;show c.enc a++d.enc b=e
 simp_all⟩
theorem asT {A B:Type}{c:PvC A}{f:A->B}{g:B->A}(d:MH c)(i:∀a,g (f a)=a):MH (ah6 c f g):=⟨fun b=>d.kd _,fun e h=>by
 obtain⟨a,a1,a2⟩:=d.dk e h;exact⟨f a,by simp only[ah6,a1],by simp only[ah6,i,a2]⟩⟩
def kvS {V:Type}(agg:Bool)(c:PvC V)(z:V):Kv (List UInt8) V where
 kind:=3
 key:= .str
 unk:=fun p=>match p with
  | .str s=>some s
  | _=>none
 agg:=agg
 enc:=c.enc
 dec:=c.dec
 z:=z
theorem apm {V:Type}{agg:Bool}{c:PvC V}{z:V}(hc:MH c):auP (kvS agg c z) where
 kd:=fun _=>rfl
 un:=aks.un
 beq:=aks.beq
 dk:=fun vs h=>hc.dk vs (h.trans (hc.kd _))
section
variable {D α:Type}{S:Sh D}
def ap_ (b:α->D)(c:D->Option α):gK D α:=⟨1,fun a=>[.dat (b a)],fun e=>match e with
 | [.dat d]=>c d
 | _=>none⟩
theorem akg {b:α->D}{c:D->Option α}(f:∀d a,c d=some a->d=b a):bz S (ap_ b c):=by
 refine⟨fun g a h=> ?_,fun a=>rfl,fun a x e=> ?_⟩
 ·simp only[ap_]at h⊢;split at h
  ·rw[f _ _ h];exact⟨.inl rfl,rfl,trivial⟩
  ·cases h
 ·simp only[ap_,Be]at e;subst e;rfl
def amW (b:α->D)(c:D->Option α):Blk D α:=⟨fun a=> .map (b a),fun x=>match x with
 | .map d=>c d
 | _=>none⟩
theorem awU {b:α->D}{c:D->Option α}(e:∀d a,c d=some a->d=b a):sH S (amW b c):=⟨fun x a h=>by
 simp only[amW]at h⊢;split at h
 ·exact e _ _ h
 ·cases h⟩
def XV (n:Nat):Blk D Unit:=⟨fun _=> .cells [.own n],fun x=>match x with
 | .cells [.own k]=>if Nat.beq k n then some ()else none
 | _=>none⟩
instance aIX (n:Nat):sH S (XV (D:=D) n):=⟨fun x a h=>by
 simp only[XV]at h⊢;split at h
 ·split at h
  ·rename_i b;rw[Qa b];exact⟨.inl rfl,trivial⟩
  ·cases h
 ·cases h⟩
def adh (k:IntKind)(n:Int):Blk D Unit:=⟨fun _=> .cells [.int k n],fun x=>match x with
 | .cells [.int a m]=>if Yl a k && decide (m=n)then some ()else none
 | _=>none⟩
instance aIW (k:IntKind) (n:Int):sH S (adh (D:=D) k n):=⟨fun x a h=>by
 simp only[adh]at h⊢;split at h
 ·split at h
  ·rename_i c m b;simp only[iW,Um,Yl,Qb6]at b;rw[b.1,b.2];exact⟨.inl rfl,trivial⟩
  ·cases h
 ·cases h⟩
def bFn (f:Nat)(a:List Nat):Blk D Unit:=⟨fun _=> .cells [.fn f a],fun x=>match x with
 | .cells [.fn c b]=>if Nat.beq f c && Lh a b then some ()else none
 | _=>none⟩
instance aJi (f:Nat) (c:List Nat):sH S (bFn (D:=D) f c):=⟨fun x a h=>by
 simp only[bFn]at h⊢;split at h
 ·split at h
  ·rename_i b;simp only[iW]at b;rw[<-Qa b.1,<-Hg b.2];exact⟨.inl rfl,trivial⟩
  ·cases h
 ·cases h⟩
end
end Go.Vc
namespace Go.Vc
theorem axx {P:Program}(h:P.funcs.any Func.goes=false)(f:FuncId):P.goes f=false:=by
 have a:∀g:Nat,(P.funcs[g]?).any Func.goes=false:=fun g=>by
  grind
 unfold Program.goes
 grind
theorem am3 {P:Program}{c:OpenClaim}(h:P.funcs.any Func.goes=false)(a:c.start= .entering):false=c.goesBy P:=by
 unfold OpenClaim.goesBy Program.goesAt Program.goesFrom;rw[a];cases b:P.funcNamed c.func with
 | none=>rfl
 | some f=>simp[axx h f]
end Go.Vc
