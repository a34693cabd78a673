/- Own engine: Vei, Vek, Vel, Ven, Vem. -/
import Derived.Test.YtgdmjfkdbfafjaaGreatDoorEng11
import Derived.Lib.Bytealg
import GoSem.ClaimGoes
set_option linter.unusedVariables false
set_option linter.unusedSimpArgs false
namespace Go.Vc
open Go.RowKit
theorem aoU {k:IntKind}(a:k.signed=false)(n:Nat):dA k (n:Int)=((n % 2 ^ k.bits:Nat):Int):=by
 cases k<;>simp[IntKind.signed]at a<;>simp[dA,IntKind.wrap,IntKind.signed,IntKind.bits]
theorem Po {k:IntKind}(a:k.signed=false){n:Nat}(h:n < 2 ^ k.bits):dA k (n:Int)=(n:Int):=by
 rw[aoU a,Qcm h]
theorem ame {k:IntKind}(c:k.signed=false){x y:Nat}(a:x < 2 ^ k.bits)(b:y < 2 ^ k.bits):orI k (x:Int) (y:Int)=((x ||| y:Nat):Int):=by
 have:(BitVec.ofInt k.bits (x:Int) ||| BitVec.ofInt k.bits (y:Int)).toNat=x ||| y:=by
  grind
 unfold orI;rw[this];exact Po c (Nat.or_lt_two_pow a b)
theorem XF {k:IntKind}(b:k.signed=false){x y:Nat}(c:x < 2 ^ k.bits)(a:y < 2 ^ k.bits):uO k (x:Int) (y:Int)=((x &&& y:Nat):Int):=by
 have:(BitVec.ofInt k.bits (x:Int) &&& BitVec.ofInt k.bits (y:Int)).toNat=x &&& y:=by
  grind
 unfold uO;rw[this];exact Po b (Nat.and_lt_two_pow x a)
theorem ahg {k:IntKind}(x n:Nat)(a:n<=k.bits):Ar k (x:Int) (n:Int)=((x / 2 ^ n:Nat):Int):=by
 unfold Ar
 grind
theorem as1 {k:IntKind}(b:k.signed=false){x n:Nat}(a:n<=k.bits)(h:x*2 ^ n < 2 ^ k.bits):Zj k (x:Int) (n:Int)=((x*2 ^ n:Nat):Int):=by
 unfold Zj;rw[xw,Nat.min_eq_left a];have:(x:Int)*2 ^ n=((x*2 ^ n:Nat):Int):=by norm_cast
 rw[this];exact Po b h
end Go.Vc
namespace Go.Vc
open Go.RowKit
def aiU:Nat->Nat->List Nat
 | 0,_=>[]
 | k+1,x=>if x < 128 then[x]else(x % 128+128)::aiU k (x / 128)
def aBI:List Nat->Nat
 | []=>0
 | c::l=>c % 128+128*aBI l
def wfV:List Nat->Prop
 | []=>False
 | [c]=>c < 128
 | c::l=>128<=c/\c < 256/\wfV l
theorem aDk {l:List Nat}(h:wfV l):1<=l.length:=by
 cases l with
 | nil=>exact h.elim
 | cons c l=>simp
def oz:Nat->List UInt8->Nat×Nat×Int
 | _,[]=>(0,0,4)
 | i,c::r=>if i=9/\1 < c.toNat then(0,0,6)else if c.toNat < 128 then(c.toNat,1,0)else(match oz (i+1) r with
  | (u,n,e)=>if e=0 then(c.toNat % 128+128*u,n+1,0)else(0,0,e))
theorem Vu:∀(s:List UInt8) (i:Nat),i<=9->(oz i s).2.2=0->∃l:List Nat,wfV l/\(s.take (oz i s).2.1).map UInt8.toNat=l/\(oz i s).2.1=l.length/\(oz i s).2.1<=s.length/\aBI l=(oz i s).1/\l.length+i<=10/\(oz i s).1 < 2 ^ (64 - 7*i)
 | [],i,_,h=>by simp[oz]at h
 | c::r,i,A,h=>by
  unfold oz at h⊢;have z:=c.toNat_lt;by_cases b:i=9/\1 < c.toNat
  ·rw[yY b]at h;simp at h
  ·rw[yc b]at h⊢;by_cases f:c.toNat < 128
   ·rw[yY f]at h⊢;refine⟨[c.toNat],f,by simp,rfl,by simp,by simp[aBI];omega,by simp;omega,?_⟩;rcases(by omega:i=9\/i<=8)with rfl | h8
    ·show c.toNat < 2;omega
    ·have:2 ^ 8<=2 ^ (64 - 7*i):=Qd0 mi au;show c.toNat < 2 ^ (64 - 7*i)
     omega
   ·rw[yc f]at h⊢;generalize j:oz (i+1) r=t at h⊢;obtain⟨u,n,e⟩:=t;dsimp only at h⊢;by_cases a:e=0
    ·rw[yY a]at h⊢;have x:i≠9:=fun w=>b ⟨w,by omega⟩
     have:=Vu r (i+1) au (by rw[j];exact a);rw[j]at this;obtain⟨l,g,k,o,v,m,y,q⟩:=this;dsimp only at k o v m q⊢;refine⟨c.toNat::l,?_,?_,by simp[o],by simp;omega,by simp only[aBI];rw[m],by simp;omega,?_⟩
     ·cases l with
      | nil=>exact g.elim
      | cons d l=>exact⟨by omega,by omega,g⟩
     ·rw[Qcx,Kq,k]
     ·have p:64 - 7*i=(64 - 7*(i+1))+7:=by omega
      rw[p,Nat.pow_add];omega
    ·rw[yc a]at h;exact absurd h a
end Go.Vc
namespace Go.Vc
open Go.RowKit
def iU (c:UInt8):List UInt8->List (List UInt8)
 | []=>[[]]
 | x::s=>if x==c then[]::iU c s else match iU c s with
  | []=>[[x]]
  | p::r=>(x::p)::r
theorem yK {c x:UInt8}{s:List UInt8}(h:(x==c)=true):iU c (x::s)=[]::iU c s:=by
 conv=>lhs;unfold iU
 rw[h];rfl
theorem xM {c x:UInt8}{s:List UInt8}(h:(x==c)=false):iU c (x::s)=match iU c s with
  | []=>[[x]]
  | p::r=>(x::p)::r:=by
 conv=>lhs;unfold iU
 rw[h];rfl
theorem PE (c:UInt8)(s:List UInt8):iU c s≠[]:=by
 cases s with
 | nil=>simp[iU]
 | cons x s=>
  unfold iU;split
  ·simp
  ·split<;>simp
def headB (a:List UInt8):List (List UInt8)->List (List UInt8)
 | []=>[a]
 | p::r=>(a++p)::r
theorem abA {l:List (List UInt8)}(h:l≠[]):headB [] l=l:=by
 cases l with
 | nil=>exact absurd rfl h
 | cons p r=>rfl
theorem aj6 (c:UInt8)(x:UInt8)(s a:List UInt8)(h:(x==c)=false):headB a (iU c (x::s))=headB (a++[x]) (iU c s):=by
 rw[xM h];cases iU c s with
 | nil=>rfl
 | cons p r=>simp[headB]
theorem JZ {c:UInt8}:∀{s:List UInt8},Lib.indexByte s c= -1->iU c s=[s]/\Lib.countByte s c=0
 | [],_=>⟨rfl,rfl⟩
 | x::s,h=>by
  have f:=Lib.indexByte_ge s c;unfold Lib.indexByte at h;cases a:x==c with
  | true=>rw[a]at h;simp at h
  | false=>
   rw[a]at h;simp only[Qa8,if_false]at h;by_cases d:Lib.indexByte s c= -1
   ·obtain⟨e,b⟩:=JZ d;rw[xM a,e];refine⟨rfl,?_⟩;unfold Lib.countByte at b⊢;rw[List.count_cons,b,a];rfl
   ·have:(Lib.indexByte s c== -1)=false:=by simpa using d
    rw[this]at h;simp only[Qa8,if_false]at h;omega
theorem Jv {c:UInt8}:∀{s:List UInt8} {m:Nat},Lib.indexByte s c=(m:Int)->m < s.length/\iU c s=s.take m::iU c (s.drop (m+1))/\Lib.countByte s c=Lib.countByte (s.drop (m+1)) c+1
 | [],m,h=>by unfold Lib.indexByte at h;omega
 | x::s,m,h=>by
  have f:=Lib.indexByte_ge s c;unfold Lib.indexByte at h;cases a:x==c with
  | true=>
   rw[a]at h;simp only[if_true]at h;obtain rfl:m=0:=by omega
   rw[yK a];refine⟨by simp,rfl,?_⟩;unfold Lib.countByte;rw[List.count_cons,a];rfl
  | false=>
   rw[a]at h;simp only[Qa8,if_false]at h;by_cases d:Lib.indexByte s c= -1
   ·rw[d]at h;exact absurd h qb
   ·have:(Lib.indexByte s c== -1)=false:=by simpa using d
    rw[this]at h;simp only[Qa8,if_false]at h;obtain⟨k,rfl⟩:∃k,m=k+1:=⟨m - 1,by omega⟩;obtain⟨g,e,b⟩:=Jv (c:=c) (s:=s) (m:=k) au;rw[xM a,e];refine⟨by simp;omega,rfl,?_⟩;unfold Lib.countByte at b⊢;rw[List.count_cons,a];simpa using b
theorem count_le (c:UInt8)(s:List UInt8):Lib.countByte s c<=s.length:=List.count_le_length
end Go.Vc
namespace Go.Vc
open Go.RowKit
section
variable {K V:Type}[DecidableEq K]
def yS (l:List (K×V))(k:K):Bool:=l.any fun p=>decide (k=p.1)
def mZ (z:V):List (K×V)->K->V
 | [],_=>z
 | p::r,k=>if k=p.1 then p.2 else mZ z r k
def qO:List (K×V)->K->V->List (K×V)
 | [],k,v=>[(k,v)]
 | p::r,k,v=>if k=p.1 then(p.1,v)::r else p::qO r k v
theorem arR (z:V)(l:List (K×V))(k:K)(v:V)(a:K):mZ z (qO l k v) a=if a=k then v else mZ z l a:=by
 induction l with
 | nil=>rfl
 | cons p r b=>
  unfold qO;split
  ·rename_i h;subst h;simp only[mZ]
   grind
  ·rename_i h;simp only[mZ,b]
   grind
end
structure Kv (K V:Type) where
 kind:Nat
 key:K->Pv
 unk:Pv->Option K
 agg:Bool
 enc:V->List Pv
 dec:List Pv->Option V
 z:V
structure azb {K V:Type}[DecidableEq K](c:Kv K V):Prop where
 kd:∀k,(c.key k).kind=c.kind
 un:∀p,p.kind=c.kind->∃k,c.unk p=some k/\c.key k=p
 beq:∀k k',Pv.beq (c.key k) (c.key k')=decide (k=k')
 dk:∀vs,vs.map Pv.kind=(c.enc c.z).map Pv.kind->∃v,c.dec vs=some v/\c.enc v=vs
def SC {D K V:Type}[DecidableEq K](c:Kv K V)(inj:List (K×V)->D)(l:List (K×V)):Mp D where
 kind:=c.kind
 agg:=c.agg
 zero:=c.enc c.z
 kvs:=l.map fun p=>(c.key p.1,c.enc p.2)
 has:=fun p=>match c.unk p with
  | some k=>yS l k
  | none=>false
 get:=fun p=>match c.unk p with
  | some k=>(c.enc (mZ c.z l k)).map Pv.lf
  | none=>[]
 put:=fun p vs=>match c.unk p,c.dec vs with
  | some k,some v=>inj (qO l k v)
  | _,_=>inj l
 len:=l.length
theorem VH {K V:Type}[DecidableEq K]{c:Kv K V}(a:azb c)(k:K):∀l:List (K×V),Am (c.key k) (l.map fun p=>(c.key p.1,c.enc p.2))=if yS l k then some (c.enc (mZ c.z l k))else none
 | []=>rfl
 | p::r=>by
  by_cases h:k=p.1
  ·have e:yS (p::r) k=true:=by simp[yS,h]
   rw[e];simp[Am,a.beq,mZ,h]
  ·have e:yS (p::r) k=yS r k:=by simp[yS,h]
   have b:mZ c.z (p::r) k=mZ c.z r k:=by simp[mZ,h]
   rw[e,b,<-VH a k r];simp[Am,a.beq,h]
theorem YE {K V:Type}[DecidableEq K](z:V)(k:K):∀l:List (K×V),yS l k=false->mZ z l k=z
 | [],_=>rfl
 | p::r,h=>by
  simp only[yS,Qc8,Bool.or_eq_false_iff,decide_eq_false_iff_not]at h;unfold mZ;rw[yc h.1];exact YE z k r h.2
theorem amZ {K V:Type}[DecidableEq K]{c:Kv K V}(a:azb c)(k:K)(v:V):∀l:List (K×V),XH (c.key k) (c.enc v) (l.map fun p=>(c.key p.1,c.enc p.2))=(qO l k v).map fun p=>(c.key p.1,c.enc p.2)
 | []=>rfl
 | p::r=>by
  simp only[Kq,XH,a.beq,qO];by_cases h:k=p.1
  ·simp[h]
  ·simp[h,amZ a k v r]
theorem aoz {D K V:Type}[DecidableEq K]{S:Sh D}{c:Kv K V}{inj:List (K×V)->D}(hc:azb c)(hi:∀l,S.mp (inj l)=some (SC c inj l))(l:List (K×V)):aDR S (SC c inj l) where
 keys:=fun p hp=>by
  obtain⟨q,_,rfl⟩:=MN.1 hp;exact hc.kd _
 has:=fun p hp=>by
  obtain⟨k,h1,rfl⟩:=hc.un p hp;simp only[SC,h1,VH hc]
  grind
 get:=fun p hp=>by
  obtain⟨k,h1,rfl⟩:=hc.un p hp;simp only[SC,h1,VH hc];cases h:yS l k with
  | true=>rfl
  | false=>rw[YE _ _ _ h];rfl
 put:=fun p vs hp hv=>by
  obtain⟨k,h1,rfl⟩:=hc.un p hp;obtain⟨v,h2,rfl⟩:=hc.dk vs hv;refine⟨SC c inj (qO l k v),?_,?_,rfl⟩
  ·simp only[SC,h1,h2];exact hi _
  ·simp only[SC];exact(amZ hc k v l).symm
 len:=by simp[SC]
def ayD:Kv (List UInt8) Bool where
 kind:=3
 key:= .str
 unk:=fun p=>match p with
  | .str s=>some s
  | _=>none
 agg:=false
 enc:=fun b=>[.bool b]
 dec:=fun vs=>match vs with
  | [.bool b]=>some b
  | _=>none
 z:=false
theorem LM {k:IntKind}(h:uH k=3\/uH k=1):False:=by simp_all
theorem ao2:azb ayD where
 kd:=fun _=>rfl
 un:=fun p hp=>by
  cases p with
  | str s=>exact⟨s,rfl,rfl⟩
  | bool b=>simp[Pv.kind,ayD]at hp
  | int k n=>exact(LM (.inl hp)).elim
 beq:=fun a b=>by
  show(a==b)=decide (a=b)
  grind
 dk:=fun vs h=>by
  match vs,h with
  | [.bool b],_=>exact⟨b,rfl,rfl⟩
  | [.str s],h=>exact absurd h (by simp[ayD,Pv.kind])
  | [.int k n],h=>exact absurd h (fun h=>LM (k:=k) (.inr (by injection h)))
  | [],h=>exact absurd h (by simp[ayD])
  | _::_::_,h=>exact absurd h (by simp[ayD])
structure PvC (V:Type) where
 kinds:List Nat
 enc:V->List Pv
 dec:List Pv->Option V
class Si {V:Type} (c:PvC V):Prop where
 kd:∀v,(c.enc v).map Pv.kind=c.kinds
 dk:∀vs,vs.map Pv.kind=c.kinds->∃v,c.dec vs=some v/\c.enc v=vs
theorem atr {k a:IntKind}(h:uH k=uH a):k=a:=by cases k<;>cases a<;>first | rfl | (simp[uH]at h)
def pvB:PvC Bool:=⟨[1],fun b=>[.bool b],fun a=>match a with
 | [.bool b]=>some b
 | _=>none⟩
def pvI (k:IntKind):PvC Int:=⟨[uH k],fun n=>[.int k n],fun a=>match a with
 | [.int _ n]=>some n
 | _=>none⟩
def pvP {A B:Type}(c:PvC A)(d:PvC B):PvC (A×B):=⟨c.kinds++d.kinds,fun p=>c.enc p.1++d.enc p.2,fun e=>match c.dec (e.take c.kinds.length),d.dec (e.drop c.kinds.length)with
 | some a,some b=>some (a,b)
 | _,_=>none⟩
def anW {A B:Type}(c:PvC A)(f:A->B)(g:B->A):PvC B:=⟨c.kinds,fun b=>c.enc (g b),fun d=>match c.dec d with
 | some a=>some (f a)
 | none=>none⟩
instance aJr:Si pvB:=⟨fun _=>rfl,fun a h=>by
 match a,h with
 | [.bool b],_=>exact⟨b,rfl,rfl⟩
 | [.str s],h=>exact absurd h (by simp[pvB,Pv.kind])
 | [.int k n],h=>exact absurd h (fun h=>LM (k:=k) (.inr (by injection h)))
 | [],h=>exact absurd h (by simp[pvB])
 | _::_::_,h=>exact absurd h (by simp[pvB])⟩
instance azE (k:IntKind):Si (pvI k):=⟨fun _=>rfl,fun c h=>by
 match c,h with
 | [.int a b],h=>
  have h:uH a=uH k:=by injection h
  rw[atr h];exact⟨b,rfl,rfl⟩
 | [.bool s],h=>exact absurd h.symm (fun h=>LM (k:=k) (.inr (by injection h)))
 | [.str s],h=>exact absurd h.symm (fun h=>LM (k:=k) (.inl (by injection h)))
 | [],h=>exact absurd h (by simp[pvI])
 | _::_::_,h=>exact absurd h (by simp[pvI])⟩
instance aJs {A B:Type} {c:PvC A} {d:PvC B} [hc:Si c] [hd:Si d]:Si (pvP c d):=⟨fun p=>by simp[pvP,hc.kd,hd.kd],fun e h=>by
 have h:e.map Pv.kind=c.kinds++d.kinds:=h;have f:(e.take c.kinds.length).map Pv.kind=c.kinds:=by rw[List.map_take,h,Qdc]
 have g:(e.drop c.kinds.length).map Pv.kind=d.kinds:=by rw[List.map_drop,h,List.drop_left]
 obtain⟨a,a1,a2⟩:=hc.dk _ f;obtain⟨b,b1,i⟩:=hd.dk _ g;refine⟨(a,b),by simp only[pvP,a1,b1],?_⟩;show c.enc a++d.enc b=e
 simp_all⟩
theorem awe {A B:Type}{c:PvC A}{f:A->B}{g:B->A}(d:Si c)(e:∀a,g (f a)=a):Si (anW c f g):=⟨fun b=>d.kd _,fun i h=>by
 obtain⟨a,a1,a2⟩:=d.dk i h;exact⟨f a,by simp only[anW,a1],by simp only[anW,e,a2]⟩⟩
def kvS {V:Type}(agg:Bool)(c:PvC V)(z:V):Kv (List UInt8) V where
 kind:=3
 key:= .str
 unk:=fun p=>match p with
  | .str s=>some s
  | _=>none
 agg:=agg
 enc:=c.enc
 dec:=c.dec
 z:=z
theorem atC {V:Type}{agg:Bool}{c:PvC V}{z:V}(hc:Si c):azb (kvS agg c z) where
 kd:=fun _=>rfl
 un:=ao2.un
 beq:=ao2.beq
 dk:=fun vs h=>hc.dk vs (h.trans (hc.kd _))
section
variable {D α:Type}{S:Sh D}
def atp (b:α->D)(c:D->Option α):jQ D α:=⟨1,fun a=>[.dat (b a)],fun e=>match e with
 | [.dat d]=>c d
 | _=>none⟩
theorem aoM {b:α->D}{e:D->Option α}(f:∀d a,e d=some a->d=b a):dG S (atp b e):=by
 refine⟨fun g a h=> ?_,fun a=>rfl,fun a x c=> ?_⟩
 ·simp only[atp]at h⊢;split at h
  ·rw[f _ _ h];exact⟨.inl rfl,rfl,trivial⟩
  ·cases h
 ·simp only[atp,Ko]at c;subst c;rfl
def arH (b:α->D)(c:D->Option α):Blk D α:=⟨fun a=> .map (b a),fun x=>match x with
 | .map d=>c d
 | _=>none⟩
theorem aDt {b:α->D}{c:D->Option α}(e:∀d a,c d=some a->d=b a):uV S (arH b c):=⟨fun x a h=>by
 simp only[arH]at h⊢;split at h
 ·exact e _ _ h
 ·cases h⟩
def ac6 (n:Nat):Blk D Unit:=⟨fun _=> .cells [.own n],fun x=>match x with
 | .cells [.own k]=>if Nat.beq k n then some ()else none
 | _=>none⟩
instance aNb (n:Nat):uV S (ac6 (D:=D) n):=⟨fun x a h=>by
 simp only[ac6]at h⊢;split at h
 ·split at h
  ·rename_i b;rw[Qa b];exact⟨.inl rfl,trivial⟩
  ·cases h
 ·cases h⟩
def ahN (k:IntKind)(n:Int):Blk D Unit:=⟨fun _=> .cells [.int k n],fun x=>match x with
 | .cells [.int a m]=>if ZA a k && decide (m=n)then some ()else none
 | _=>none⟩
instance aNa (k:IntKind) (n:Int):uV S (ahN (D:=D) k n):=⟨fun x a h=>by
 simp only[ahN]at h⊢;split at h
 ·split at h
  ·rename_i c m b;simp only[kW,X6,ZA,Qb6]at b;rw[b.1,b.2];exact⟨.inl rfl,trivial⟩
  ·cases h
 ·cases h⟩
def bFn (f:Nat)(a:List Nat):Blk D Unit:=⟨fun _=> .cells [.fn f a],fun x=>match x with
 | .cells [.fn c b]=>if Nat.beq f c && Ru a b then some ()else none
 | _=>none⟩
instance aNx (f:Nat) (b:List Nat):uV S (bFn (D:=D) f b):=⟨fun x a h=>by
 simp only[bFn]at h⊢;split at h
 ·split at h
  ·rename_i c;simp only[kW]at c;rw[<-Qa c.1,<-Lt c.2];exact⟨.inl rfl,trivial⟩
  ·cases h
 ·cases h⟩
end
end Go.Vc
namespace Go.Vc
theorem aBs {P:Program}(h:P.funcs.any Func.goes=false)(f:FuncId):P.goes f=false:=by
 have a:∀g:Nat,(P.funcs[g]?).any Func.goes=false:=fun g=>by
  cases d:P.funcs[g]? with
  | none=>rfl
  | some c=>
   show c.goes=false
   obtain⟨e,b⟩:=Qdb.1 d;have:=Array.any_eq_false.1 h g e;rw[b]at this;simpa using this
 unfold Program.goes;rw[h,Bool.and_false,Bool.or_false,Qc];intro g _;simp[a g]
theorem arI {P:Program}{c:OpenClaim}(h:P.funcs.any Func.goes=false)(a:c.start= .entering):false=c.goesBy P:=by
 unfold OpenClaim.goesBy Program.goesAt Program.goesFrom;rw[a];cases b:P.funcNamed c.func with
 | none=>rfl
 | some f=>simp[aBs h f]
end Go.Vc
