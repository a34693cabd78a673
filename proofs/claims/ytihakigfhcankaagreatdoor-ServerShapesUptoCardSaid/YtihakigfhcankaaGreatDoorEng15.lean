/- Own engine: Vei, Vek, Vel, Ven, Vem. -/
import Derived.Test.YtihakigfhcankaaGreatDoorEng11
import Derived.Lib.Bytealg
import GoSem.ClaimGoes
set_option linter.unusedVariables false
set_option linter.unusedSimpArgs false
namespace Go.Vc
open Go.RowKit
theorem aiJ {k:IntKind}(hu:k.signed=false)(n:Nat):dD k (n:Int)=((n % 2 ^ k.bits:Nat):Int):=by
 cases k<;>simp[IntKind.signed]at hu<;>simp[dD,IntKind.wrap,IntKind.signed,IntKind.bits]
theorem MJ {k:IntKind}(hu:k.signed=false){n:Nat}(h:n < 2 ^ k.bits):dD k (n:Int)=(n:Int):=by
 rw[aiJ hu,Qb1 h]
theorem ajz {k:IntKind}(hu:k.signed=false){x y:Nat}(hx:x < 2 ^ k.bits)(hy:y < 2 ^ k.bits):orI k (x:Int) (y:Int)=((x ||| y:Nat):Int):=by
 have:(BitVec.ofInt k.bits (x:Int) ||| BitVec.ofInt k.bits (y:Int)).toNat=x ||| y:=by
  rw[BitVec.toNat_or,Qdk,Qdk,Qdx,Qdx,Qb1 hx,Qb1 hy]
 unfold orI;rw[this];exact MJ hu (Nat.or_lt_two_pow hx hy)
theorem apd {k:IntKind}(hu:k.signed=false){x y:Nat}(hx:x < 2 ^ k.bits)(hy:y < 2 ^ k.bits):vk k (x:Int) (y:Int)=((x &&& y:Nat):Int):=by
 have:(BitVec.ofInt k.bits (x:Int) &&& BitVec.ofInt k.bits (y:Int)).toNat=x &&& y:=by
  rw[BitVec.toNat_and,Qdk,Qdk,Qdx,Qdx,Qb1 hx,Qb1 hy]
 unfold vk;rw[this];exact MJ hu (Nat.and_lt_two_pow x hy)
theorem acE {k:IntKind}(x n:Nat)(hn:n<=k.bits):Aq k (x:Int) (n:Int)=((x / 2 ^ n:Nat):Int):=by
 unfold Aq;rw[zk,Qct hn,Int.fdiv_eq_ediv_of_nonneg _ (by exact_mod_cast uN _)]
 norm_cast
theorem an5 {k:IntKind}(hu:k.signed=false){x n:Nat}(hn:n<=k.bits)(h:x*2 ^ n < 2 ^ k.bits):WQ k (x:Int) (n:Int)=((x*2 ^ n:Nat):Int):=by
 unfold WQ;rw[zk,Qct hn];have:(x:Int)*2 ^ n=((x*2 ^ n:Nat):Int):=by norm_cast
 rw[this];exact MJ hu h
end Go.Vc
namespace Go.Vc
open Go.RowKit
def ahq:Nat->Nat->List Nat
 | 0,_=>[]
 | k+1,x=>if x < 128 then[x]else(x % 128+128)::ahq k (x / 128)
def auZ:List Nat->Nat
 | []=>0
 | c::l=>c % 128+128*auZ l
def wfV:List Nat->Prop
 | []=>False
 | [c]=>c < 128
 | c::l=>128<=c/\c < 256/\wfV l
theorem axM {l:List Nat}(h:wfV l):1<=l.length:=by
 cases l with
 | nil=>exact h.elim
 | cons c l=>simp
def m_:Nat->List UInt8->Nat×Nat×Int
 | _,[]=>(0,0,4)
 | i,c::r=>if i=9/\1 < c.toNat then(0,0,6)else if c.toNat < 128 then(c.toNat,1,0)else(match m_ (i+1) r with
  | (u,n,e)=>if e=0 then(c.toNat % 128+128*u,n+1,0)else(0,0,e))
theorem RZ:∀(s:List UInt8) (i:Nat),i<=9->(m_ i s).2.2=0->∃l:List Nat,wfV l/\(s.take (m_ i s).2.1).map UInt8.toNat=l/\(m_ i s).2.1=l.length/\(m_ i s).2.1<=s.length/\auZ l=(m_ i s).1/\l.length+i<=10/\(m_ i s).1 < 2 ^ (64 - 7*i)
 | [],i,_,h=>by simp[m_]at h
 | c::r,i,hi,h=>by
  unfold m_ at h⊢;have hc:=c.toNat_lt;by_cases h9:i=9/\1 < c.toNat
  ·rw[Qb h9]at h;simp at h
  ·rw[qC h9]at h⊢;by_cases h1:c.toNat < 128
   ·rw[Qb h1]at h⊢;refine⟨[c.toNat],h1,by simp,rfl,by simp,by simp[auZ];omega,by simp;omega,?_⟩;rcases(by omega:i=9\/i<=8)with rfl | h8
    ·show c.toNat < 2;omega
    ·have:2 ^ 8<=2 ^ (64 - 7*i):=Qd9 lY au;show c.toNat < 2 ^ (64 - 7*i)
     omega
   ·rw[qC h1]at h⊢;generalize ht:m_ (i+1) r=t at h⊢;obtain⟨u,n,e⟩:=t;dsimp only at h⊢;by_cases he:e=0
    ·rw[Qb he]at h⊢;have hi9:i≠9:=fun e9=>h9 ⟨e9,by omega⟩
     have:=RZ r (i+1) au (by rw[ht];exact he);rw[ht]at this;obtain⟨l,w1,w2,w3,w4,w5,w6,w7⟩:=this;dsimp only at w2 w3 w4 w5 w7⊢;refine⟨c.toNat::l,?_,?_,by simp[w3],by simp;omega,by simp only[auZ];rw[w5],by simp;omega,?_⟩
     ·cases l with
      | nil=>exact w1.elim
      | cons d l=>exact⟨by omega,by omega,w1⟩
     ·rw[Qed,F_,w2]
     ·have e7:64 - 7*i=(64 - 7*(i+1))+7:=by omega
      rw[e7,Nat.pow_add];omega
    ·rw[qC he]at h;exact absurd h he
end Go.Vc
namespace Go.Vc
open Go.RowKit
def jD (c:UInt8):List UInt8->List (List UInt8)
 | []=>[[]]
 | x::s=>if x==c then[]::jD c s else match jD c s with
  | []=>[[x]]
  | p::r=>(x::p)::r
theorem Vg {c x:UInt8}{s:List UInt8}(h:(x==c)=true):jD c (x::s)=[]::jD c s:=by
 conv=>lhs;unfold jD
 rw[h];rfl
theorem LZ {c x:UInt8}{s:List UInt8}(h:(x==c)=false):jD c (x::s)=match jD c s with
  | []=>[[x]]
  | p::r=>(x::p)::r:=by
 conv=>lhs;unfold jD
 rw[h];rfl
theorem YA (c:UInt8)(s:List UInt8):jD c s≠[]:=by
 cases s with
 | nil=>simp[jD]
 | cons x s=>
  unfold jD;split
  ·simp
  ·split<;>simp
def headB (a:List UInt8):List (List UInt8)->List (List UInt8)
 | []=>[a]
 | p::r=>(a++p)::r
theorem Yl {l:List (List UInt8)}(h:l≠[]):headB [] l=l:=by
 cases l with
 | nil=>exact absurd rfl h
 | cons p r=>rfl
theorem afE (c:UInt8)(x:UInt8)(s a:List UInt8)(h:(x==c)=false):headB a (jD c (x::s))=headB (a++[x]) (jD c s):=by
 rw[LZ h];cases jD c s with
 | nil=>rfl
 | cons p r=>simp[headB]
theorem H5 {c:UInt8}:∀{s:List UInt8},Lib.indexByte s c= -1->jD c s=[s]/\Lib.countByte s c=0
 | [],_=>⟨rfl,rfl⟩
 | x::s,h=>by
  have hge:=Lib.indexByte_ge s c;unfold Lib.indexByte at h;cases hx:x==c with
  | true=>rw[hx]at h;simp at h
  | false=>
   rw[hx]at h;simp only[Qbr,if_false]at h;by_cases hs:Lib.indexByte s c= -1
   ·obtain⟨h1,h2⟩:=H5 hs;rw[LZ hx,h1];refine⟨rfl,?_⟩;unfold Lib.countByte at h2⊢;rw[List.count_cons,h2,hx];rfl
   ·have:(Lib.indexByte s c== -1)=false:=by simpa using hs
    rw[this]at h;simp only[Qbr,if_false]at h;omega
theorem GI {c:UInt8}:∀{s:List UInt8} {m:Nat},Lib.indexByte s c=(m:Int)->m < s.length/\jD c s=s.take m::jD c (s.drop (m+1))/\Lib.countByte s c=Lib.countByte (s.drop (m+1)) c+1
 | [],m,h=>by unfold Lib.indexByte at h;omega
 | x::s,m,h=>by
  have hge:=Lib.indexByte_ge s c;unfold Lib.indexByte at h;cases hx:x==c with
  | true=>
   rw[hx]at h;simp only[if_true]at h;obtain rfl:m=0:=by omega
   rw[Vg hx];refine⟨by simp,rfl,?_⟩;unfold Lib.countByte;rw[List.count_cons,hx];rfl
  | false=>
   rw[hx]at h;simp only[Qbr,if_false]at h;by_cases hs:Lib.indexByte s c= -1
   ·rw[hs]at h;exact absurd h oJ
   ·have:(Lib.indexByte s c== -1)=false:=by simpa using hs
    rw[this]at h;simp only[Qbr,if_false]at h;obtain⟨k,rfl⟩:∃k,m=k+1:=⟨m - 1,by omega⟩;obtain⟨h1,h2,h3⟩:=GI (c:=c) (s:=s) (m:=k) au;rw[LZ hx,h2];refine⟨by simp;omega,rfl,?_⟩;unfold Lib.countByte at h3⊢;rw[List.count_cons,hx];simpa using h3
theorem count_le (c:UInt8)(s:List UInt8):Lib.countByte s c<=s.length:=List.count_le_length
end Go.Vc
namespace Go.Vc
open Go.RowKit
section
variable {K V:Type}[DecidableEq K]
def CP (l:List (K×V))(k:K):Bool:=l.any fun p=>decide (k=p.1)
def zD (z:V):List (K×V)->K->V
 | [],_=>z
 | p::r,k=>if k=p.1 then p.2 else zD z r k
def sU:List (K×V)->K->V->List (K×V)
 | [],k,v=>[(k,v)]
 | p::r,k,v=>if k=p.1 then(p.1,v)::r else p::sU r k v
end
structure Kv (K V:Type) where
 kind:Nat
 key:K->Pv
 unk:Pv->Option K
 agg:Bool
 enc:V->List Pv
 dec:List Pv->Option V
 z:V
structure auj {K V:Type}[DecidableEq K](c:Kv K V):Prop where
 kd:∀k,(c.key k).kind=c.kind
 un:∀p,p.kind=c.kind->∃k,c.unk p=some k/\c.key k=p
 beq:∀k k',Pv.beq (c.key k) (c.key k')=decide (k=k')
 dk:∀vs,vs.map Pv.kind=(c.enc c.z).map Pv.kind->∃v,c.dec vs=some v/\c.enc v=vs
def Vu {D K V:Type}[DecidableEq K](c:Kv K V)(inj:List (K×V)->D)(l:List (K×V)):Mp D where
 kind:=c.kind
 agg:=c.agg
 zero:=c.enc c.z
 kvs:=l.map fun p=>(c.key p.1,c.enc p.2)
 has:=fun p=>match c.unk p with
  | some k=>CP l k
  | none=>false
 get:=fun p=>match c.unk p with
  | some k=>(c.enc (zD c.z l k)).map Pv.lf
  | none=>[]
 put:=fun p vs=>match c.unk p,c.dec vs with
  | some k,some v=>inj (sU l k v)
  | _,_=>inj l
 len:=l.length
theorem TR {K V:Type}[DecidableEq K]{c:Kv K V}(hc:auj c)(k:K):∀l:List (K×V),yz (c.key k) (l.map fun p=>(c.key p.1,c.enc p.2))=if CP l k then some (c.enc (zD c.z l k))else none
 | []=>rfl
 | p::r=>by
  by_cases h:k=p.1
  ·have e:CP (p::r) k=true:=by simp[CP,h]
   rw[e];simp[yz,hc.beq,zD,h]
  ·have e:CP (p::r) k=CP r k:=by simp[CP,h]
   have e2:zD c.z (p::r) k=zD c.z r k:=by simp[zD,h]
   rw[e,e2,<-TR hc k r];simp[yz,hc.beq,h]
theorem VE {K V:Type}[DecidableEq K](z:V)(k:K):∀l:List (K×V),CP l k=false->zD z l k=z
 | [],_=>rfl
 | p::r,h=>by
  simp only[CP,List.any_cons,Bool.or_eq_false_iff,decide_eq_false_iff_not]at h;unfold zD;rw[qC h.1];exact VE z k r h.2
theorem akc {K V:Type}[DecidableEq K]{c:Kv K V}(hc:auj c)(k:K)(v:V):∀l:List (K×V),TP (c.key k) (c.enc v) (l.map fun p=>(c.key p.1,c.enc p.2))=(sU l k v).map fun p=>(c.key p.1,c.enc p.2)
 | []=>rfl
 | p::r=>by
  simp only[F_,TP,hc.beq,sU];by_cases h:k=p.1
  ·simp[h]
  ·simp[h,akc hc k v r]
theorem ajb {D K V:Type}[DecidableEq K]{S:Sh D}{c:Kv K V}{inj:List (K×V)->D}(hc:auj c)(hi:∀l,S.mp (inj l)=some (Vu c inj l))(l:List (K×V)):ayD S (Vu c inj l) where
 keys:=fun p hp=>by
  obtain⟨q,_,rfl⟩:=Ik.1 hp;exact hc.kd _
 has:=fun p hp=>by
  obtain⟨k,h1,rfl⟩:=hc.un p hp;simp only[Vu,h1,TR hc];cases CP l k<;>rfl
 get:=fun p hp=>by
  obtain⟨k,h1,rfl⟩:=hc.un p hp;simp only[Vu,h1,TR hc];cases h:CP l k with
  | true=>rfl
  | false=>rw[VE _ _ _ h];rfl
 put:=fun p vs hp hv=>by
  obtain⟨k,h1,rfl⟩:=hc.un p hp;obtain⟨v,h2,rfl⟩:=hc.dk vs hv;refine⟨Vu c inj (sU l k v),?_,?_,rfl⟩
  ·simp only[Vu,h1,h2];exact hi _
  ·simp only[Vu];exact(akc hc k v l).symm
 len:=by simp[Vu]
def aqB:Kv (List UInt8) Bool where
 kind:=3
 key:= .str
 unk:=fun p=>match p with
  | .str s=>some s
  | _=>none
 agg:=false
 enc:=fun b=>[.bool b]
 dec:=fun vs=>match vs with
  | [.bool b]=>some b
  | _=>none
 z:=false
theorem JK {k:IntKind}(h:rV k=3\/rV k=1):False:=by cases k<;>simp[rV]at h
theorem ak2:auj aqB where
 kd:=fun _=>rfl
 un:=fun p hp=>by
  cases p with
  | str s=>exact⟨s,rfl,rfl⟩
  | bool b=>simp[Pv.kind,aqB]at hp
  | int k n=>exact(JK (.inl hp)).elim
 beq:=fun a b=>by
  show(a==b)=decide (a=b)
  by_cases h:a=b<;>simp[h]
 dk:=fun vs h=>by
  match vs,h with
  | [.bool b],_=>exact⟨b,rfl,rfl⟩
  | [.str s],h=>exact absurd h (by simp[aqB,Pv.kind])
  | [.int k n],h=>exact absurd h (fun h=>JK (k:=k) (.inr (by injection h)))
  | [],h=>exact absurd h (by simp[aqB])
  | _::_::_,h=>exact absurd h (by simp[aqB])
structure PvC (V:Type) where
 kinds:List Nat
 enc:V->List Pv
 dec:List Pv->Option V
class OZ {V:Type} (c:PvC V):Prop where
 kd:∀v,(c.enc v).map Pv.kind=c.kinds
 dk:∀vs,vs.map Pv.kind=c.kinds->∃v,c.dec vs=some v/\c.enc v=vs
theorem aqi {k k':IntKind}(h:rV k=rV k'):k=k':=by cases k<;>cases k'<;>first | rfl | (simp[rV]at h)
def pvB:PvC Bool:=⟨[1],fun b=>[.bool b],fun vs=>match vs with
 | [.bool b]=>some b
 | _=>none⟩
def pvI (k:IntKind):PvC Int:=⟨[rV k],fun n=>[.int k n],fun vs=>match vs with
 | [.int _ n]=>some n
 | _=>none⟩
def pvP {A B:Type}(c:PvC A)(d:PvC B):PvC (A×B):=⟨c.kinds++d.kinds,fun p=>c.enc p.1++d.enc p.2,fun vs=>match c.dec (vs.take c.kinds.length),d.dec (vs.drop c.kinds.length)with
 | some a,some b=>some (a,b)
 | _,_=>none⟩
def aja {A B:Type}(c:PvC A)(f:A->B)(g:B->A):PvC B:=⟨c.kinds,fun b=>c.enc (g b),fun vs=>match c.dec vs with
 | some a=>some (f a)
 | none=>none⟩
instance aEi:OZ pvB:=⟨fun _=>rfl,fun vs h=>by
 match vs,h with
 | [.bool b],_=>exact⟨b,rfl,rfl⟩
 | [.str s],h=>exact absurd h (by simp[pvB,Pv.kind])
 | [.int k n],h=>exact absurd h (fun h=>JK (k:=k) (.inr (by injection h)))
 | [],h=>exact absurd h (by simp[pvB])
 | _::_::_,h=>exact absurd h (by simp[pvB])⟩
instance auK (k:IntKind):OZ (pvI k):=⟨fun _=>rfl,fun vs h=>by
 match vs,h with
 | [.int k' b],h=>
  have h:rV k'=rV k:=by injection h
  rw[aqi h];exact⟨b,rfl,rfl⟩
 | [.bool s],h=>exact absurd h.symm (fun h=>JK (k:=k) (.inr (by injection h)))
 | [.str s],h=>exact absurd h.symm (fun h=>JK (k:=k) (.inl (by injection h)))
 | [],h=>exact absurd h (by simp[pvI])
 | _::_::_,h=>exact absurd h (by simp[pvI])⟩
instance aEj {A B:Type} {c:PvC A} {d:PvC B} [hc:OZ c] [hd:OZ d]:OZ (pvP c d):=⟨fun p=>by simp[pvP,hc.kd,hd.kd],fun vs h=>by
 have h:vs.map Pv.kind=c.kinds++d.kinds:=h;have h1:(vs.take c.kinds.length).map Pv.kind=c.kinds:=by rw[List.map_take,h,Qc7]
 have h2:(vs.drop c.kinds.length).map Pv.kind=d.kinds:=by rw[List.map_drop,h,List.drop_left]
 obtain⟨a,a1,a2⟩:=hc.dk _ h1;obtain⟨b,b1,b2⟩:=hd.dk _ h2;refine⟨(a,b),by simp only[pvP,a1,b1],?_⟩;show c.enc a++d.enc b=vs
 rw[a2,b2,Qcq]⟩
theorem ap_ {A B:Type}{c:PvC A}{f:A->B}{g:B->A}(hc:OZ c)(hg:∀a,g (f a)=a):OZ (aja c f g):=⟨fun b=>hc.kd _,fun vs h=>by
 obtain⟨a,a1,a2⟩:=hc.dk vs h;exact⟨f a,by simp only[aja,a1],by simp only[aja,hg,a2]⟩⟩
def kvS {V:Type}(agg:Bool)(c:PvC V)(z:V):Kv (List UInt8) V where
 kind:=3
 key:= .str
 unk:=fun p=>match p with
  | .str s=>some s
  | _=>none
 agg:=agg
 enc:=c.enc
 dec:=c.dec
 z:=z
theorem apt {V:Type}{agg:Bool}{c:PvC V}{z:V}(hc:OZ c):auj (kvS agg c z) where
 kd:=fun _=>rfl
 un:=ak2.un
 beq:=ak2.beq
 dk:=fun vs h=>hc.dk vs (h.trans (hc.kd _))
section
variable {D α:Type}{S:Sh D}
def aoR (inj:α->D)(Nz:D->Option α):jq D α:=⟨1,fun a=>[.dat (inj a)],fun xs=>match xs with
 | [.dat d]=>Nz d
 | _=>none⟩
theorem ajp {inj:α->D}{Nz:D->Option α}(hp:∀d a,Nz d=some a->d=inj a):cZ S (aoR inj Nz):=by
 refine⟨fun xs a h=> ?_,fun a=>rfl,fun a x hx=> ?_⟩
 ·simp only[aoR]at h⊢;split at h
  ·rw[hp _ _ h];exact⟨.inl rfl,rfl,trivial⟩
  ·cases h
 ·simp only[aoR,Aj]at hx;subst hx;rfl
def alr (inj:α->D)(Nz:D->Option α):Blk D α:=⟨fun a=> .map (inj a),fun x=>match x with
 | .map d=>Nz d
 | _=>none⟩
theorem ayh {inj:α->D}{Nz:D->Option α}(hp:∀d a,Nz d=some a->d=inj a):tu S (alr inj Nz):=⟨fun x a h=>by
 simp only[alr]at h⊢;split at h
 ·exact hp _ _ h
 ·cases h⟩
def ZU (n:Nat):Blk D Unit:=⟨fun _=> .cells [.own n],fun x=>match x with
 | .cells [.own k]=>if Nat.beq k n then some ()else none
 | _=>none⟩
instance aHK (n:Nat):tu S (ZU (D:=D) n):=⟨fun x a h=>by
 simp only[ZU]at h⊢;split at h
 ·split at h
  ·rename_i he;rw[Qa he];exact⟨.inl rfl,trivial⟩
  ·cases h
 ·cases h⟩
def ad7 (k:IntKind)(n:Int):Blk D Unit:=⟨fun _=> .cells [.int k n],fun x=>match x with
 | .cells [.int k' m]=>if WB k' k && decide (m=n)then some ()else none
 | _=>none⟩
instance aHJ (k:IntKind) (n:Int):tu S (ad7 (D:=D) k n):=⟨fun x a h=>by
 simp only[ad7]at h⊢;split at h
 ·split at h
  ·rename_i k' m hc;simp only[jY,Qbj,WB,Qc6]at hc;rw[hc.1,hc.2];exact⟨.inl rfl,trivial⟩
  ·cases h
 ·cases h⟩
def bFn (f:Nat)(caps:List Nat):Blk D Unit:=⟨fun _=> .cells [.fn f caps],fun x=>match x with
 | .cells [.fn f' ae1]=>if Nat.beq f f' && NM caps ae1 then some ()else none
 | _=>none⟩
instance aH6 (f:Nat) (caps:List Nat):tu S (bFn (D:=D) f caps):=⟨fun x a h=>by
 simp only[bFn]at h⊢;split at h
 ·split at h
  ·rename_i hc;simp only[jY]at hc;rw[<-Qa hc.1,<-J8 hc.2];exact⟨.inl rfl,trivial⟩
  ·cases h
 ·cases h⟩
end
end Go.Vc
namespace Go.Vc
theorem awF {P:Program}(h:P.funcs.any Func.goes=false)(f:FuncId):P.goes f=false:=by
 have key:∀g:Nat,(P.funcs[g]?).any Func.goes=false:=fun g=>by
  cases hg:P.funcs[g]? with
  | none=>rfl
  | some fn=>
   show fn.goes=false
   obtain⟨hi,he⟩:=Qcj.1 hg;have:=Array.any_eq_false.1 h g hi;rw[he]at this;simpa using this
 unfold Program.goes;rw[h,Bool.and_false,Bool.or_false,Qck];intro g _;simp[key g]
theorem ani {P:Program}{c:OpenClaim}(h:P.funcs.any Func.goes=false)(hs:c.start= .entering):false=c.goesBy P:=by
 unfold OpenClaim.goesBy Program.goesAt Program.goesFrom;rw[hs];cases hf:P.funcNamed c.func with
 | none=>rfl
 | some f=>simp[awF h f]
end Go.Vc
