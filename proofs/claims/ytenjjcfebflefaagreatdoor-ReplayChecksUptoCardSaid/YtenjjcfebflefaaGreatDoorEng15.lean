/- Own engine: Vei, Vek, Vel, Ven, Vem. -/
import Derived.Test.YtenjjcfebflefaaGreatDoorEng11
import Derived.Lib.Bytealg
import GoSem.ClaimGoes
set_option linter.unusedVariables false
set_option linter.unusedSimpArgs false
namespace Go.Vc
open Go.RowKit
theorem anp {k:IntKind}(a:k.signed=false)(n:Nat):bJ k (n:Int)=((n % 2 ^ k.bits:Nat):Int):=by
 cases k<;>simp[IntKind.signed]at a<;>simp[bJ,IntKind.wrap,IntKind.signed,IntKind.bits]
theorem yO {k:IntKind}(a:k.signed=false){n:Nat}(h:n < 2 ^ k.bits):bJ k (n:Int)=(n:Int):=by
 rw[anp a,Qcs h]
theorem awJ {k:IntKind}(a:k.signed=false){x y:Nat}(b:x < 2 ^ k.bits)(c:y < 2 ^ k.bits):TE k (x:Int) (y:Int)=((x ^^^ y:Nat):Int):=by
 have:(BitVec.ofInt k.bits (x:Int) ^^^ BitVec.ofInt k.bits (y:Int)).toNat=x ^^^ y:=by
  grind
 unfold TE;rw[this];exact yO a (Nat.xor_lt_two_pow b c)
theorem afd {k:IntKind}(a:k.signed=false){x y:Nat}(b:x < 2 ^ k.bits)(c:y < 2 ^ k.bits):orI k (x:Int) (y:Int)=((x ||| y:Nat):Int):=by
 have:(BitVec.ofInt k.bits (x:Int) ||| BitVec.ofInt k.bits (y:Int)).toNat=x ||| y:=by
  grind
 unfold orI;rw[this];exact yO a (Nat.or_lt_two_pow b c)
theorem GH {k:IntKind}(a:k.signed=false){x y:Nat}(c:x < 2 ^ k.bits)(b:y < 2 ^ k.bits):uF k (x:Int) (y:Int)=((x &&& y:Nat):Int):=by
 have:(BitVec.ofInt k.bits (x:Int) &&& BitVec.ofInt k.bits (y:Int)).toNat=x &&& y:=by
  grind
 unfold uF;rw[this];exact yO a (Nat.and_lt_two_pow x b)
theorem XV {k:IntKind}(x n:Nat)(a:n<=k.bits):BD k (x:Int) (n:Int)=((x / 2 ^ n:Nat):Int):=by
 unfold BD
 grind
theorem aiw {k:IntKind}(a:k.signed=false){x n:Nat}(b:n<=k.bits)(h:x*2 ^ n < 2 ^ k.bits):WZ k (x:Int) (n:Int)=((x*2 ^ n:Nat):Int):=by
 unfold WZ;rw[uZ,Nat.min_eq_left b];have:(x:Int)*2 ^ n=((x*2 ^ n:Nat):Int):=by norm_cast
 rw[this];exact yO a h
theorem atc (x n:Nat):((x:Int).tdiv (n:Int))=((x / n:Nat):Int):=rfl
theorem aiY (x n:Nat):((x:Int).tmod (n:Int))=((x % n:Nat):Int):=rfl
end Go.Vc
namespace Go.Vc
open Go.RowKit
def aBI:List Nat->Nat
 | []=>0
 | c::l=>c % 128+128*aBI l
def wfV:List Nat->Prop
 | []=>False
 | [c]=>c < 128
 | c::l=>128<=c/\c < 256/\wfV l
theorem aBj {l:List Nat}(h:wfV l):1<=l.length:=by
 cases l with
 | nil=>exact h.elim
 | cons c l=>simp
def lN:Nat->List UInt8->Nat×Nat×Int
 | _,[]=>(0,0,4)
 | i,c::r=>if i=9/\1 < c.toNat then(0,0,6)else if c.toNat < 128 then(c.toNat,1,0)else(match lN (i+1) r with
  | (u,n,e)=>if e=0 then(c.toNat % 128+128*u,n+1,0)else(0,0,e))
theorem WF:∀(s:List UInt8) (i:Nat),i<=9->(lN i s).2.2=0->∃l:List Nat,wfV l/\(s.take (lN i s).2.1).map UInt8.toNat=l/\(lN i s).2.1=l.length/\(lN i s).2.1<=s.length/\aBI l=(lN i s).1/\l.length+i<=10/\(lN i s).1 < 2 ^ (64 - 7*i)
 | [],i,_,h=>by simp[lN]at h
 | c::r,i,A,h=>by
  unfold lN at h⊢;have y:=c.toNat_lt;by_cases b:i=9/\1 < c.toNat
  ·rw[nI b]at h;simp at h
  ·rw[kT b]at h⊢;by_cases f:c.toNat < 128
   ·rw[nI f]at h⊢;refine⟨[c.toNat],f,by simp,rfl,by simp,by simp[aBI];omega,by simp;omega,?_⟩;rcases(by omega:i=9\/i<=8)with rfl | h8
    ·show c.toNat < 2;omega
    ·have:2 ^ 8<=2 ^ (64 - 7*i):=Qee jy au;show c.toNat < 2 ^ (64 - 7*i)
     omega
   ·rw[kT f]at h⊢;generalize k:lN (i+1) r=t at h⊢;obtain⟨u,n,e⟩:=t;dsimp only at h⊢;by_cases a:e=0
    ·rw[nI a]at h⊢;have x:i≠9:=fun p=>b ⟨p,by omega⟩
     have:=WF r (i+1) au (by rw[k];exact a);rw[k]at this;obtain⟨l,j,o,g,q,m,z,v⟩:=this;dsimp only at o g q m v⊢;refine⟨c.toNat::l,?_,?_,by simp[g],by simp;omega,by simp only[aBI];rw[m],by simp;omega,?_⟩
     ·cases l with
      | nil=>exact j.elim
      | cons d l=>exact⟨by omega,by omega,j⟩
     ·rw[Qcb,Lj,o]
     ·have w:64 - 7*i=(64 - 7*(i+1))+7:=by omega
      rw[w,Nat.pow_add];omega
    ·rw[kT a]at h;exact absurd h a
end Go.Vc
namespace Go.Vc
open Go.RowKit
def iw (c:UInt8):List UInt8->List (List UInt8)
 | []=>[[]]
 | x::s=>if x==c then[]::iw c s else match iw c s with
  | []=>[[x]]
  | p::r=>(x::p)::r
theorem zC {c x:UInt8}{s:List UInt8}(h:(x==c)=true):iw c (x::s)=[]::iw c s:=by
 conv=>lhs;unfold iw
 rw[h];rfl
theorem yD {c x:UInt8}{s:List UInt8}(h:(x==c)=false):iw c (x::s)=match iw c s with
  | []=>[[x]]
  | p::r=>(x::p)::r:=by
 conv=>lhs;unfold iw
 rw[h];rfl
theorem QK (c:UInt8)(s:List UInt8):iw c s≠[]:=by
 cases s with
 | nil=>simp[iw]
 | cons x s=>
  unfold iw;split
  ·simp
  ·split<;>simp
def headB (a:List UInt8):List (List UInt8)->List (List UInt8)
 | []=>[a]
 | p::r=>(a++p)::r
theorem aaP {l:List (List UInt8)}(h:l≠[]):headB [] l=l:=by
 cases l with
 | nil=>exact absurd rfl h
 | cons p r=>rfl
theorem ajL (c:UInt8)(x:UInt8)(s a:List UInt8)(h:(x==c)=false):headB a (iw c (x::s))=headB (a++[x]) (iw c s):=by
 rw[yD h];cases iw c s with
 | nil=>rfl
 | cons p r=>simp[headB]
theorem KQ {c:UInt8}:∀{s:List UInt8},Lib.indexByte s c= -1->iw c s=[s]/\Lib.countByte s c=0
 | [],_=>⟨rfl,rfl⟩
 | x::s,h=>by
  have f:=Lib.indexByte_ge s c;unfold Lib.indexByte at h;cases a:x==c with
  | true=>rw[a]at h;simp at h
  | false=>
   rw[a]at h;simp only[RX,if_false]at h;by_cases b:Lib.indexByte s c= -1
   ·obtain⟨e,d⟩:=KQ b;rw[yD a,e];refine⟨rfl,?_⟩;unfold Lib.countByte at d⊢;rw[List.count_cons,d,a];rfl
   ·have:(Lib.indexByte s c== -1)=false:=by simpa using b
    rw[this]at h;simp only[RX,if_false]at h;omega
theorem KH {c:UInt8}:∀{s:List UInt8} {m:Nat},Lib.indexByte s c=(m:Int)->m < s.length/\iw c s=s.take m::iw c (s.drop (m+1))/\Lib.countByte s c=Lib.countByte (s.drop (m+1)) c+1
 | [],m,h=>by unfold Lib.indexByte at h;omega
 | x::s,m,h=>by
  have f:=Lib.indexByte_ge s c;unfold Lib.indexByte at h;cases a:x==c with
  | true=>
   rw[a]at h;simp only[if_true]at h;obtain rfl:m=0:=by omega
   rw[zC a];refine⟨by simp,rfl,?_⟩;unfold Lib.countByte;rw[List.count_cons,a];rfl
  | false=>
   rw[a]at h;simp only[RX,if_false]at h;by_cases b:Lib.indexByte s c= -1
   ·rw[b]at h;exact absurd h kM
   ·have:(Lib.indexByte s c== -1)=false:=by simpa using b
    rw[this]at h;simp only[RX,if_false]at h;obtain⟨k,rfl⟩:∃k,m=k+1:=⟨m - 1,by omega⟩;obtain⟨g,e,d⟩:=KH (c:=c) (s:=s) (m:=k) au;rw[yD a,e];refine⟨by simp;omega,rfl,?_⟩;unfold Lib.countByte at d⊢;rw[List.count_cons,a];simpa using d
theorem count_le (c:UInt8)(s:List UInt8):Lib.countByte s c<=s.length:=List.count_le_length
end Go.Vc
namespace Go.Vc
open Go.RowKit
section
variable {K V:Type}[DecidableEq K]
def zn (l:List (K×V))(k:K):Bool:=l.any fun p=>decide (k=p.1)
def mD (z:V):List (K×V)->K->V
 | [],_=>z
 | p::r,k=>if k=p.1 then p.2 else mD z r k
def qC:List (K×V)->K->V->List (K×V)
 | [],k,v=>[(k,v)]
 | p::r,k,v=>if k=p.1 then(p.1,v)::r else p::qC r k v
theorem ar8 (z:V)(l:List (K×V))(k:K)(v:V)(a:K):mD z (qC l k v) a=if a=k then v else mD z l a:=by
 induction l with
 | nil=>rfl
 | cons p r b=>
  unfold qC;split
  ·rename_i h;subst h;simp only[mD]
   grind
  ·rename_i h;simp only[mD,b]
   grind
end
structure Kv (K V:Type) where
 kind:Nat
 key:K->Pv
 unk:Pv->Option K
 agg:Bool
 enc:V->List Pv
 dec:List Pv->Option V
 z:V
structure ayC {K V:Type}[DecidableEq K](c:Kv K V):Prop where
 kd:∀k,(c.key k).kind=c.kind
 un:∀p,p.kind=c.kind->∃k,c.unk p=some k/\c.key k=p
 beq:∀k k',Pv.beq (c.key k) (c.key k')=decide (k=k')
 dk:∀vs,vs.map Pv.kind=(c.enc c.z).map Pv.kind->∃v,c.dec vs=some v/\c.enc v=vs
def TD {D K V:Type}[DecidableEq K](c:Kv K V)(inj:List (K×V)->D)(l:List (K×V)):Mp D where
 kind:=c.kind
 agg:=c.agg
 zero:=c.enc c.z
 kvs:=l.map fun p=>(c.key p.1,c.enc p.2)
 has:=fun p=>match c.unk p with
  | some k=>zn l k
  | none=>false
 get:=fun p=>match c.unk p with
  | some k=>(c.enc (mD c.z l k)).map Pv.lf
  | none=>[]
 put:=fun p vs=>match c.unk p,c.dec vs with
  | some k,some v=>inj (qC l k v)
  | _,_=>inj l
 len:=l.length
theorem Zg {K V:Type}[DecidableEq K]{c:Kv K V}(a:ayC c)(k:K):∀l:List (K×V),AU (c.key k) (l.map fun p=>(c.key p.1,c.enc p.2))=if zn l k then some (c.enc (mD c.z l k))else none
 | []=>rfl
 | p::r=>by
  by_cases h:k=p.1
  ·have e:zn (p::r) k=true:=by simp[zn,h]
   rw[e];simp[AU,a.beq,mD,h]
  ·have e:zn (p::r) k=zn r k:=by simp[zn,h]
   have b:mD c.z (p::r) k=mD c.z r k:=by simp[mD,h]
   rw[e,b,<-Zg a k r];simp[AU,a.beq,h]
theorem Yo {K V:Type}[DecidableEq K](z:V)(k:K):∀l:List (K×V),zn l k=false->mD z l k=z
 | [],_=>rfl
 | p::r,h=>by
  simp only[zn,Qct,Qcu,decide_eq_false_iff_not]at h;unfold mD;rw[kT h.1];exact Yo z k r h.2
theorem aoc {K V:Type}[DecidableEq K]{c:Kv K V}(a:ayC c)(k:K)(v:V):∀l:List (K×V),OD (c.key k) (c.enc v) (l.map fun p=>(c.key p.1,c.enc p.2))=(qC l k v).map fun p=>(c.key p.1,c.enc p.2)
 | []=>rfl
 | p::r=>by
  simp only[Lj,OD,a.beq,qC];by_cases h:k=p.1
  ·simp[h]
  ·simp[h,aoc a k v r]
theorem aoy {D K V:Type}[DecidableEq K]{S:Sh D}{c:Kv K V}{inj:List (K×V)->D}(hc:ayC c)(hi:∀l,S.mp (inj l)=some (TD c inj l))(l:List (K×V)):aB1 S (TD c inj l) where
 keys:=fun p hp=>by
  obtain⟨q,_,rfl⟩:=JC.1 hp;exact hc.kd _
 has:=fun p hp=>by
  obtain⟨k,h1,rfl⟩:=hc.un p hp;simp only[TD,h1,Zg hc]
  grind
 get:=fun p hp=>by
  obtain⟨k,h1,rfl⟩:=hc.un p hp;simp only[TD,h1,Zg hc];cases h:zn l k with
  | true=>rfl
  | false=>rw[Yo _ _ _ h];rfl
 put:=fun p vs hp hv=>by
  obtain⟨k,h1,rfl⟩:=hc.un p hp;obtain⟨v,h2,rfl⟩:=hc.dk vs hv;refine⟨TD c inj (qC l k v),?_,?_,rfl⟩
  ·simp only[TD,h1,h2];exact hi _
  ·simp only[TD];exact(aoc hc k v l).symm
 len:=by simp[TD]
def avU:Kv (List UInt8) Bool where
 kind:=3
 key:= .str
 unk:=fun p=>match p with
  | .str s=>some s
  | _=>none
 agg:=false
 enc:=fun b=>[.bool b]
 dec:=fun vs=>match vs with
  | [.bool b]=>some b
  | _=>none
 z:=false
theorem Nj {k:IntKind}(h:uQ k=3\/uQ k=1):False:=by simp_all
theorem apo:ayC avU where
 kd:=fun _=>rfl
 un:=fun p hp=>by
  cases p with
  | str s=>exact⟨s,rfl,rfl⟩
  | bool b=>simp[Pv.kind,avU]at hp
  | int k n=>exact(Nj (.inl hp)).elim
 beq:=fun a b=>by
  show(a==b)=decide (a=b)
  grind
 dk:=fun vs h=>by
  match vs,h with
  | [.bool b],_=>exact⟨b,rfl,rfl⟩
  | [.str s],h=>exact absurd h (by simp[avU,Pv.kind])
  | [.int k n],h=>exact absurd h (fun h=>Nj (k:=k) (.inr (by injection h)))
  | [],h=>exact absurd h (by simp[avU])
  | _::_::_,h=>exact absurd h (by simp[avU])
structure PvC (V:Type) where
 kinds:List Nat
 enc:V->List Pv
 dec:List Pv->Option V
class Tq {V:Type} (c:PvC V):Prop where
 kd:∀v,(c.enc v).map Pv.kind=c.kinds
 dk:∀vs,vs.map Pv.kind=c.kinds->∃v,c.dec vs=some v/\c.enc v=vs
theorem atj {k a:IntKind}(h:uQ k=uQ a):k=a:=by cases k<;>cases a<;>first | rfl | (simp[uQ]at h)
def pvB:PvC Bool:=⟨[1],fun b=>[.bool b],fun a=>match a with
 | [.bool b]=>some b
 | _=>none⟩
def pvI (k:IntKind):PvC Int:=⟨[uQ k],fun n=>[.int k n],fun a=>match a with
 | [.int _ n]=>some n
 | _=>none⟩
def pvP {A B:Type}(c:PvC A)(d:PvC B):PvC (A×B):=⟨c.kinds++d.kinds,fun p=>c.enc p.1++d.enc p.2,fun e=>match c.dec (e.take c.kinds.length),d.dec (e.drop c.kinds.length)with
 | some a,some b=>some (a,b)
 | _,_=>none⟩
def aoV {A B:Type}(c:PvC A)(f:A->B)(g:B->A):PvC B:=⟨c.kinds,fun b=>c.enc (g b),fun d=>match c.dec d with
 | some a=>some (f a)
 | none=>none⟩
instance aGt:Tq pvB:=⟨fun _=>rfl,fun a h=>by
 match a,h with
 | [.bool b],_=>exact⟨b,rfl,rfl⟩
 | [.str s],h=>exact absurd h (by simp[pvB,Pv.kind])
 | [.int k n],h=>exact absurd h (fun h=>Nj (k:=k) (.inr (by injection h)))
 | [],h=>exact absurd h (by simp[pvB])
 | _::_::_,h=>exact absurd h (by simp[pvB])⟩
instance ayY (k:IntKind):Tq (pvI k):=⟨fun _=>rfl,fun a h=>by
 match a,h with
 | [.int c b],h=>
  have h:uQ c=uQ k:=by injection h
  rw[atj h];exact⟨b,rfl,rfl⟩
 | [.bool s],h=>exact absurd h.symm (fun h=>Nj (k:=k) (.inr (by injection h)))
 | [.str s],h=>exact absurd h.symm (fun h=>Nj (k:=k) (.inl (by injection h)))
 | [],h=>exact absurd h (by simp[pvI])
 | _::_::_,h=>exact absurd h (by simp[pvI])⟩
instance aGu {A B:Type} {c:PvC A} {d:PvC B} [hc:Tq c] [hd:Tq d]:Tq (pvP c d):=⟨fun p=>by simp[pvP,hc.kd,hd.kd],fun e h=>by
 have h:e.map Pv.kind=c.kinds++d.kinds:=h;have g:(e.take c.kinds.length).map Pv.kind=c.kinds:=by rw[List.map_take,h,List.take_left]
 have f:(e.drop c.kinds.length).map Pv.kind=d.kinds:=by rw[List.map_drop,h,List.drop_left]
 obtain⟨a,a1,a2⟩:=hc.dk _ g;obtain⟨b,b1,i⟩:=hd.dk _ f;refine⟨(a,b),by simp only[pvP,a1,b1],?_⟩;show c.enc a++d.enc b=e
 simp_all⟩
theorem atF {A B:Type}{c:PvC A}{f:A->B}{g:B->A}(d:Tq c)(i:∀a,g (f a)=a):Tq (aoV c f g):=⟨fun b=>d.kd _,fun e h=>by
 obtain⟨a,a1,a2⟩:=d.dk e h;exact⟨f a,by simp only[aoV,a1],by simp only[aoV,i,a2]⟩⟩
def kvS {V:Type}(agg:Bool)(c:PvC V)(z:V):Kv (List UInt8) V where
 kind:=3
 key:= .str
 unk:=fun p=>match p with
  | .str s=>some s
  | _=>none
 agg:=agg
 enc:=c.enc
 dec:=c.dec
 z:=z
theorem atL {V:Type}{agg:Bool}{c:PvC V}{z:V}(hc:Tq c):ayC (kvS agg c z) where
 kd:=fun _=>rfl
 un:=apo.un
 beq:=apo.beq
 dk:=fun vs h=>hc.dk vs (h.trans (hc.kd _))
section
variable {D α:Type}{S:Sh D}
def axE (b:α->D)(c:D->Option α):kF D α:=⟨1,fun a=>[.dat (b a)],fun e=>match e with
 | [.dat d]=>c d
 | _=>none⟩
theorem ao0 {b:α->D}{e:D->Option α}(f:∀d a,e d=some a->d=b a):dK S (axE b e):=by
 refine⟨fun g a h=> ?_,fun a=>rfl,fun a x c=> ?_⟩
 ·simp only[axE]at h⊢;split at h
  ·rw[f _ _ h];exact⟨.inl rfl,rfl,trivial⟩
  ·cases h
 ·simp only[axE,FY]at c;subst c;rfl
def asG (b:α->D)(c:D->Option α):Blk D α:=⟨fun a=> .map (b a),fun x=>match x with
 | .map d=>c d
 | _=>none⟩
theorem azv {b:α->D}{c:D->Option α}(e:∀d a,c d=some a->d=b a):zH S (asG b c):=⟨fun x a h=>by
 simp only[asG]at h⊢;split at h
 ·exact e _ _ h
 ·cases h⟩
def avp (n:Nat):Blk D Unit:=⟨fun _=> .cells [.own n],fun x=>match x with
 | .cells [.own k]=>if Nat.beq k n then some ()else none
 | _=>none⟩
instance aIW (n:Nat):zH S (avp (D:=D) n):=⟨fun x a h=>by
 simp only[avp]at h⊢;split at h
 ·split at h
  ·rename_i b;rw[Qa b];exact⟨.inl rfl,trivial⟩
  ·cases h
 ·cases h⟩
def ai0 (k:IntKind)(n:Int):Blk D Unit:=⟨fun _=> .cells [.int k n],fun x=>match x with
 | .cells [.int a m]=>if kEq a k && decide (m=n)then some ()else none
 | _=>none⟩
instance aIV (k:IntKind) (n:Int):zH S (ai0 (D:=D) k n):=⟨fun x a h=>by
 simp only[ai0]at h⊢;split at h
 ·split at h
  ·rename_i c m b;simp only[jA,Lh,kEq,Vt]at b;rw[b.1,b.2];exact⟨.inl rfl,trivial⟩
  ·cases h
 ·cases h⟩
def bFn (f:Nat)(a:List Nat):Blk D Unit:=⟨fun _=> .cells [.fn f a],fun x=>match x with
 | .cells [.fn c b]=>if Nat.beq f c && R_ a b then some ()else none
 | _=>none⟩
instance aJp (f:Nat) (b:List Nat):zH S (bFn (D:=D) f b):=⟨fun x a h=>by
 simp only[bFn]at h⊢;split at h
 ·split at h
  ·rename_i c;simp only[jA]at c;rw[<-Qa c.1,<-MO c.2];exact⟨.inl rfl,trivial⟩
  ·cases h
 ·cases h⟩
end
end Go.Vc
namespace Go.Vc
theorem ay4 {P:Program}(h:P.funcs.any Func.goes=false)(f:FuncId):P.goes f=false:=by
 have a:∀g:Nat,(P.funcs[g]?).any Func.goes=false:=fun g=>by
  cases e:P.funcs[g]? with
  | none=>rfl
  | some c=>
   show c.goes=false
   obtain⟨d,b⟩:=Qdj.1 e;have:=Array.any_eq_false.1 h g d;rw[b]at this;simpa using this
 unfold Program.goes;rw[h,Qeh,Bool.or_false,Qc5];intro g _;simp[a g]
theorem ark {P:Program}{c:OpenClaim}(h:P.funcs.any Func.goes=false)(a:c.start= .entering):false=c.goesBy P:=by
 unfold OpenClaim.goesBy Program.goesAt Program.goesFrom;rw[a];cases b:P.funcNamed c.func with
 | none=>rfl
 | some f=>simp[ay4 h f]
end Go.Vc
