/- Own engine: Vei, Vek, Vel, Ven, Vem. -/
import Derived.Test.YtenjnekcoapajaaGreatDoorEng12
import Derived.Lib.Bytealg
import GoSem.ClaimGoes
set_option linter.unusedVariables false
set_option linter.unusedSimpArgs false
namespace Go.Vc
open Go.RowKit
theorem ab7 {k:IntKind}(a:k.signed=false)(n:Nat):aQ k (n:Int)=((n % 2 ^ k.bits:Nat):Int):=by
 cases k<;>simp[IntKind.signed]at a<;>simp[aQ,IntKind.wrap,IntKind.signed,IntKind.bits]
theorem kE {k:IntKind}(a:k.signed=false){n:Nat}(h:n < 2 ^ k.bits):aQ k (n:Int)=(n:Int):=by
 rw[ab7 a,Qc4 h]
theorem Tu {k:IntKind}(a:k.signed=false){x y:Nat}(c:x < 2 ^ k.bits)(b:y < 2 ^ k.bits):mJ k (x:Int) (y:Int)=((x ^^^ y:Nat):Int):=by
 have:(BitVec.ofInt k.bits (x:Int) ^^^ BitVec.ofInt k.bits (y:Int)).toNat=x ^^^ y:=by
  grind
 unfold mJ;rw[this];exact kE a (Qdo c b)
theorem Ry {k:IntKind}(a:k.signed=false){x y:Nat}(c:x < 2 ^ k.bits)(b:y < 2 ^ k.bits):orI k (x:Int) (y:Int)=((x ||| y:Nat):Int):=by
 have:(BitVec.ofInt k.bits (x:Int) ||| BitVec.ofInt k.bits (y:Int)).toNat=x ||| y:=by
  grind
 unfold orI;rw[this];exact kE a (Nat.or_lt_two_pow c b)
theorem Am {k:IntKind}(a:k.signed=false){x y:Nat}(c:x < 2 ^ k.bits)(b:y < 2 ^ k.bits):nT k (x:Int) (y:Int)=((x &&& y:Nat):Int):=by
 have:(BitVec.ofInt k.bits (x:Int) &&& BitVec.ofInt k.bits (y:Int)).toNat=x &&& y:=by
  grind
 unfold nT;rw[this];exact kE a (Nat.and_lt_two_pow x b)
theorem EJ {k:IntKind}(x n:Nat)(a:n<=k.bits):lN k (x:Int) (n:Int)=((x / 2 ^ n:Nat):Int):=by
 unfold lN
 grind
theorem adq {k:IntKind}(a:k.signed=false){x n:Nat}(b:n<=k.bits)(h:x*2 ^ n < 2 ^ k.bits):Tv k (x:Int) (n:Int)=((x*2 ^ n:Nat):Int):=by
 unfold Tv;rw[qA,Qdm b];have:(x:Int)*2 ^ n=((x*2 ^ n:Nat):Int):=by norm_cast
 rw[this];exact kE a h
theorem adc (x n:Nat):((x:Int).tdiv (n:Int))=((x / n:Nat):Int):=rfl
theorem KF (x n:Nat):((x:Int).tmod (n:Int))=((x % n:Nat):Int):=rfl
def QD (p r c:Nat):Nat:=bif r % 2 !=c % 2 then(r / 2) ^^^ p else r / 2
theorem Sm (p h l c:Nat):QD p ((2*h) ^^^ l) c=h ^^^ QD p l c:=by
 unfold QD;have d:((2*h) ^^^ l) % 2=l % 2:=by
  have:=Nat.xor_mod_two_pow (a:=2*h) (b:=l) (n:=1);simp_all
 have e:((2*h) ^^^ l) / 2=h ^^^ (l / 2):=by
  rw[Nat.xor_div_two];simp_all
 grind
def rf (p l c:Nat):Nat:=QD p (QD p (QD p (QD p l c) (c / 2)) (c / 2 / 2)) (c / 2 / 2 / 2)
theorem aol (p h l c:Nat):rf p ((16*h) ^^^ l) c=h ^^^ rf p l c:=by
 unfold rf;rw[show 16*h=2*(8*h) by omega,Sm,show 8*h=2*(4*h) by omega,Sm,show 4*h=2*(2*h) by omega,Sm,Sm]
def x_:List Nat:=[0,498536548,997073096,651767980,1994146192,1802195444,1303535960,1342533948,3988292384,4027552580,3604390888,3412177804,2607071920,2262029012,2685067896,3183342108]
theorem anl:∀l,l < 16->∀c,c < 16->rf 3988292384 l c=x_.getD (l ^^^ c) 0:=by decide+kernel
theorem apc (p l c:Nat):rf p l c=rf p l (c % 16):=by
 unfold rf QD;rw[show c % 16 % 2=c % 2 by omega,show c % 16 / 2 % 2=c / 2 % 2 by omega,show c % 16 / 2 / 2 % 2=c / 2 / 2 % 2 by omega,show c % 16 / 2 / 2 / 2 % 2=c / 2 / 2 / 2 % 2 by omega]
theorem az_ (r:Nat):(16*(r / 16)) ^^^ (r % 16)=r:=by
 have h:(16*(r / 16)) ^^^ (r % 16)=16*(r / 16)+r % 16:=by
  have:=Qcl (i:=4) (b:=r % 16) aj (r / 16);rw[show(2:Nat) ^ 4=16 from rfl]at this;rw[this];refine Qd2 fun i=> ?_;rw[Nat.testBit_xor,Nat.testBit_or];by_cases a:i < 4
  ·have:(16*(r / 16)).testBit i=false:=by
    rw[show 16*(r / 16)=2 ^ 4*(r / 16) by rfl,Nat.testBit_two_pow_mul];simp;omega
   rw[this];simp
  ·have:(r % 16).testBit i=false:=by
    rw[show r % 16=r % 2 ^ 4 by rfl,Nat.testBit_mod_two_pow];simp;omega
   rw[this];simp
 rw[h];omega
theorem nib (r c:Nat):rf 3988292384 r c=(r / 16) ^^^ x_.getD ((r ^^^ c) % 16) 0:=by
 conv=>lhs;rw[<-az_ r]
 rw[aol,apc,anl _ aj _ aj];congr 2;have:=Nat.xor_mod_two_pow (a:=r) (b:=c) (n:=4);exact this.symm
end Go.Vc
namespace Go.Vc
open Go.RowKit
def Qv:Nat->Nat->List Nat
 | 0,_=>[]
 | k+1,x=>if x < 128 then[x]else(x % 128+128)::Qv k (x / 128)
def azU:List Nat->Nat
 | []=>0
 | c::l=>c % 128+128*azU l
def wfV:List Nat->Prop
 | []=>False
 | [c]=>c < 128
 | c::l=>128<=c/\c < 256/\wfV l
theorem aAv {l:List Nat}(h:wfV l):1<=l.length:=by
 cases l with
 | nil=>exact h.elim
 | cons c l=>simp
def jB:Nat->List UInt8->Nat×Nat×Int
 | _,[]=>(0,0,4)
 | i,c::r=>if i=9/\1 < c.toNat then(0,0,6)else if c.toNat < 128 then(c.toNat,1,0)else(match jB (i+1) r with
  | (u,n,e)=>if e=0 then(c.toNat % 128+128*u,n+1,0)else(0,0,e))
theorem Xf:∀(s:List UInt8) (i:Nat),i<=9->(jB i s).2.2=0->∃l:List Nat,wfV l/\(s.take (jB i s).2.1).map UInt8.toNat=l/\(jB i s).2.1=l.length/\(jB i s).2.1<=s.length/\azU l=(jB i s).1/\l.length+i<=10/\(jB i s).1 < 2 ^ (64 - 7*i)
 | [],i,_,h=>by simp[jB]at h
 | c::r,i,y,h=>by
  unfold jB at h⊢;have z:=c.toNat_lt;by_cases b:i=9/\1 < c.toNat
  ·grind
  ·rw[uU b]at h⊢;by_cases a:c.toNat < 128
   ·rw[vJ a]at h⊢;refine⟨[c.toNat],a,by simp,rfl,by simp,by simp[azU];omega,by simp;omega,?_⟩;rcases(by omega:i=9\/i<=8)with rfl | h8
    ·omega
    ·have:2 ^ 8<=2 ^ (64 - 7*i):=Qcx dH aj;omega
   ·rw[uU a]at h⊢;generalize q:jB (i+1) r=t at h⊢;obtain⟨u,n,e⟩:=t;dsimp only at h⊢;by_cases m:e=0
    ·rw[vJ m]at h⊢;have w:i≠9:=fun k=>b ⟨k,by omega⟩
     have:=Xf r (i+1) aj dm;rw[q]at this;obtain⟨l,f,p,j,o,g,x,v⟩:=this;dsimp only at p j o g v⊢;refine⟨c.toNat::l,?_,?_,by simp[j],by simp;omega,by simp only[azU];rw[g],by simp;omega,?_⟩
     ·cases l with
      | nil=>exact f.elim
      | cons d l=>exact⟨by omega,by omega,f⟩
     ·grind
     ·have A:64 - 7*i=(64 - 7*(i+1))+7:=by omega
      grind
    grind
end Go.Vc
namespace Go.Vc
open Go.RowKit
def fJ (c:UInt8):List UInt8->List (List UInt8)
 | []=>[[]]
 | x::s=>if x==c then[]::fJ c s else match fJ c s with
  | []=>[[x]]
  | p::r=>(x::p)::r
theorem Cf {c x:UInt8}{s:List UInt8}(h:(x==c)=true):fJ c (x::s)=[]::fJ c s:=by
 conv=>lhs;unfold fJ
 rw[h];rfl
theorem Ai {c x:UInt8}{s:List UInt8}(h:(x==c)=false):fJ c (x::s)=match fJ c s with
  | []=>[[x]]
  | p::r=>(x::p)::r:=by
 conv=>lhs;unfold fJ
 rw[h];rfl
theorem MN (c:UInt8)(s:List UInt8):fJ c s≠[]:=by
 cases s with
 | nil=>simp[fJ]
 | cons x s=>
  unfold fJ
  grind
def headB (a:List UInt8):List (List UInt8)->List (List UInt8)
 | []=>[a]
 | p::r=>(a++p)::r
theorem ZW {l:List (List UInt8)}(h:l≠[]):headB [] l=l:=by
 cases l with
 | nil=>grind
 | cons p r=>rfl
theorem aht (c:UInt8)(x:UInt8)(s a:List UInt8)(h:(x==c)=false):headB a (fJ c (x::s))=headB (a++[x]) (fJ c s):=by
 rw[Ai h];cases fJ c s with
 | nil=>rfl
 | cons p r=>simp[headB]
theorem Ij {c:UInt8}:∀{s:List UInt8},Lib.indexByte s c= -1->fJ c s=[s]/\Lib.countByte s c=0
 | [],_=>⟨rfl,rfl⟩
 | x::s,h=>by
  have f:=Lib.indexByte_ge s c;unfold Lib.indexByte at h;cases a:x==c with
  | true=>grind
  | false=>
   rw[a]at h;simp only[Qbt,if_false]at h;by_cases d:Lib.indexByte s c= -1
   ·obtain⟨b,e⟩:=Ij d;rw[Ai a,b];refine⟨rfl,?_⟩;unfold Lib.countByte at e⊢
    grind
   grind
theorem Ht {c:UInt8}:∀{s:List UInt8} {m:Nat},Lib.indexByte s c=(m:Int)->m < s.length/\fJ c s=s.take m::fJ c (s.drop (m+1))/\Lib.countByte s c=Lib.countByte (s.drop (m+1)) c+1
 | [],m,h=>by unfold Lib.indexByte at h;omega
 | x::s,m,h=>by
  have f:=Lib.indexByte_ge s c;unfold Lib.indexByte at h;cases a:x==c with
  | true=>
   rw[a]at h;simp only[if_true]at h;obtain rfl:m=0:=by omega
   rw[Cf a];refine⟨by simp,rfl,?_⟩;unfold Lib.countByte
   grind
  | false=>
   rw[a]at h;simp only[Qbt,if_false]at h;by_cases b:Lib.indexByte s c= -1
   ·grind
   ·have:(Lib.indexByte s c== -1)=false:=by simpa using b
    rw[this]at h;simp only[Qbt,if_false]at h;obtain⟨k,rfl⟩:∃k,m=k+1:=⟨m - 1,by omega⟩;obtain⟨g,d,e⟩:=Ht (c:=c) (s:=s) (m:=k) aj;rw[Ai a,d];refine⟨by simp;omega,rfl,?_⟩;unfold Lib.countByte at e⊢
    grind
theorem count_le (c:UInt8)(s:List UInt8):Lib.countByte s c<=s.length:=List.count_le_length
end Go.Vc
namespace Go.Vc
open Go.RowKit
section
variable {K V:Type}[DecidableEq K]
def yx (l:List (K×V))(k:K):Bool:=l.any fun p=>decide (k=p.1)
def kX (z:V):List (K×V)->K->V
 | [],_=>z
 | p::r,k=>if k=p.1 then p.2 else kX z r k
def nS:List (K×V)->K->V->List (K×V)
 | [],k,v=>[(k,v)]
 | p::r,k,v=>if k=p.1 then(p.1,v)::r else p::nS r k v
theorem apY (z:V)(l:List (K×V))(k:K)(v:V)(a:K):kX z (nS l k v) a=if a=k then v else kX z l a:=by
 induction l with
 | nil=>rfl
 | cons p r b=>
  unfold nS;split
  ·rename_i h;subst h;simp only[kX]
   grind
  ·rename_i h;simp only[kX,b]
   grind
end
structure Kv (K V:Type) where
 kind:Nat
 key:K->Pv
 unk:Pv->Option K
 agg:Bool
 enc:V->List Pv
 dec:List Pv->Option V
 z:V
structure aw8 {K V:Type}[DecidableEq K](c:Kv K V):Prop where
 kd:∀k,(c.key k).kind=c.kind
 un:∀p,p.kind=c.kind->∃k,c.unk p=some k/\c.key k=p
 beq:∀k k',Pv.beq (c.key k) (c.key k')=decide (k=k')
 dk:∀vs,vs.map Pv.kind=(c.enc c.z).map Pv.kind->∃v,c.dec vs=some v/\c.enc v=vs
def Qy {D K V:Type}[DecidableEq K](c:Kv K V)(inj:List (K×V)->D)(l:List (K×V)):Mp D where
 kind:=c.kind
 agg:=c.agg
 zero:=c.enc c.z
 kvs:=l.map fun p=>(c.key p.1,c.enc p.2)
 has:=fun p=>match c.unk p with
  | some k=>yx l k
  | none=>false
 get:=fun p=>match c.unk p with
  | some k=>(c.enc (kX c.z l k)).map Pv.lf
  | none=>[]
 put:=fun p vs=>match c.unk p,c.dec vs with
  | some k,some v=>inj (nS l k v)
  | _,_=>inj l
 len:=l.length
theorem WF {K V:Type}[DecidableEq K]{c:Kv K V}(a:aw8 c)(k:K):∀l:List (K×V),zh (c.key k) (l.map fun p=>(c.key p.1,c.enc p.2))=if yx l k then some (c.enc (kX c.z l k))else none
 | []=>rfl
 | p::r=>by
  by_cases h:k=p.1
  ·have e:yx (p::r) k=true:=by simp[yx,h]
   rw[e];simp[zh,a.beq,kX,h]
  ·have e:yx (p::r) k=yx r k:=by simp[yx,h]
   have b:kX c.z (p::r) k=kX c.z r k:=by simp[kX,h]
   rw[e,b,<-WF a k r];simp[zh,a.beq,h]
theorem Vu {K V:Type}[DecidableEq K](z:V)(k:K):∀l:List (K×V),yx l k=false->kX z l k=z
 | [],_=>rfl
 | p::r,h=>by
  simp only[yx,Qda,Qcc,decide_eq_false_iff_not]at h;unfold kX;rw[uU h.1];exact Vu z k r h.2
theorem amb {K V:Type}[DecidableEq K]{c:Kv K V}(a:aw8 c)(k:K)(v:V):∀l:List (K×V),KE (c.key k) (c.enc v) (l.map fun p=>(c.key p.1,c.enc p.2))=(nS l k v).map fun p=>(c.key p.1,c.enc p.2)
 | []=>rfl
 | p::r=>by
  simp only[Qp,KE,a.beq,nS];by_cases h:k=p.1
  ·simp[h]
  ·simp[h,amb a k v r]
theorem aml {D K V:Type}[DecidableEq K]{S:Sh D}{c:Kv K V}{inj:List (K×V)->D}(hc:aw8 c)(hi:∀l,S.mp (inj l)=some (Qy c inj l))(l:List (K×V)):aA5 S (Qy c inj l) where
 keys:=fun p hp=>by
  obtain⟨q,_,rfl⟩:=QH.1 hp;exact hc.kd _
 has:=fun p hp=>by
  obtain⟨k,h1,rfl⟩:=hc.un p hp;simp only[Qy,h1,WF hc]
  grind
 get:=fun p hp=>by
  obtain⟨k,h1,rfl⟩:=hc.un p hp;simp only[Qy,h1,WF hc]
  grind [Vu]
 put:=fun p vs hp hv=>by
  obtain⟨k,h1,rfl⟩:=hc.un p hp;obtain⟨v,h2,rfl⟩:=hc.dk vs hv;refine⟨Qy c inj (nS l k v),?_,?_,rfl⟩
  ·simp only[Qy,h1,h2];exact hi _
  ·simp only[Qy];exact(amb hc k v l).symm
 len:=by simp[Qy]
def asR:Kv (List UInt8) Bool where
 kind:=3
 key:= .str
 unk:=fun p=>match p with
  | .str s=>some s
  | _=>none
 agg:=false
 enc:=fun b=>[.bool b]
 dec:=fun vs=>match vs with
  | [.bool b]=>some b
  | _=>none
 z:=false
theorem J4 {k:IntKind}(h:rD k=3\/rD k=1):False:=by simp_all
theorem anb:aw8 asR where
 kd:=fun _=>rfl
 un:=fun p hp=>by
  cases p with
  | str s=>exact⟨s,rfl,rfl⟩
  | bool b=>simp[Pv.kind,asR]at hp
  | int k n=>exact(J4 (.inl hp)).elim
 beq:=fun a b=>by
  show(a==b)=decide (a=b)
  grind
 dk:=fun vs h=>by
  match vs,h with
  | [.bool b],_=>exact⟨b,rfl,rfl⟩
  | [.str s],h=>exact absurd h (by simp[asR,Pv.kind])
  | [.int k n],h=>exact absurd h (fun h=>J4 (k:=k) (.inr (by injection h)))
  | [],h=>exact absurd h (by simp[asR])
  | _::_::_,h=>exact absurd h (by simp[asR])
structure PvC (V:Type) where
 kinds:List Nat
 enc:V->List Pv
 dec:List Pv->Option V
class Qk {V:Type} (c:PvC V):Prop where
 kd:∀v,(c.enc v).map Pv.kind=c.kinds
 dk:∀vs,vs.map Pv.kind=c.kinds->∃v,c.dec vs=some v/\c.enc v=vs
theorem ar9 {k a:IntKind}(h:rD k=rD a):k=a:=by cases k<;>cases a<;>first | rfl | (simp[rD]at h)
def pvB:PvC Bool:=⟨[1],fun b=>[.bool b],fun a=>match a with
 | [.bool b]=>some b
 | _=>none⟩
def pvI (k:IntKind):PvC Int:=⟨[rD k],fun n=>[.int k n],fun a=>match a with
 | [.int _ n]=>some n
 | _=>none⟩
def pvP {A B:Type}(c:PvC A)(d:PvC B):PvC (A×B):=⟨c.kinds++d.kinds,fun p=>c.enc p.1++d.enc p.2,fun e=>match c.dec (e.take c.kinds.length),d.dec (e.drop c.kinds.length)with
 | some a,some b=>some (a,b)
 | _,_=>none⟩
def als {A B:Type}(c:PvC A)(f:A->B)(g:B->A):PvC B:=⟨c.kinds,fun b=>c.enc (g b),fun d=>match c.dec d with
 | some a=>some (f a)
 | none=>none⟩
instance aGc:Qk pvB:=⟨fun _=>rfl,fun a h=>by
 match a,h with
 | [.bool b],_=>exact⟨b,rfl,rfl⟩
 | [.str s],h=>exact absurd h (by simp[pvB,Pv.kind])
 | [.int k n],h=>exact absurd h (fun h=>J4 (k:=k) (.inr (by injection h)))
 | [],h=>exact absurd h (by simp[pvB])
 | _::_::_,h=>exact absurd h (by simp[pvB])⟩
instance axt (k:IntKind):Qk (pvI k):=⟨fun _=>rfl,fun c h=>by
 match c,h with
 | [.int a b],h=>
  have h:rD a=rD k:=by injection h
  rw[ar9 h];exact⟨b,rfl,rfl⟩
 | [.bool s],h=>exact absurd h.symm (fun h=>J4 (k:=k) (.inr (by injection h)))
 | [.str s],h=>exact absurd h.symm (fun h=>J4 (k:=k) (.inl (by injection h)))
 | [],h=>exact absurd h (by simp[pvI])
 | _::_::_,h=>exact absurd h (by simp[pvI])⟩
instance aGd {A B:Type} {c:PvC A} {d:PvC B} [hc:Qk c] [hd:Qk d]:Qk (pvP c d):=⟨fun p=>by simp[pvP,hc.kd,hd.kd],fun e h=>by
 have h:e.map Pv.kind=c.kinds++d.kinds:=h;have f:(e.take c.kinds.length).map Pv.kind=c.kinds:=by rw[List.map_take,h,Qde]
 have g:(e.drop c.kinds.length).map Pv.kind=d.kinds:=by rw[List.map_drop,h,Qc1]
 obtain⟨a,a1,a2⟩:=hc.dk _ f;obtain⟨b,b1,i⟩:=hd.dk _ g;refine⟨(a,b),by simp only[pvP,a1,b1],?_⟩;show c.enc a++d.enc b=e
 simp_all⟩
theorem arh {A B:Type}{c:PvC A}{f:A->B}{g:B->A}(d:Qk c)(e:∀a,g (f a)=a):Qk (als c f g):=⟨fun b=>d.kd _,fun i h=>by
 obtain⟨a,a1,a2⟩:=d.dk i h;exact⟨f a,by simp only[als,a1],by simp only[als,e,a2]⟩⟩
def kvS {V:Type}(agg:Bool)(c:PvC V)(z:V):Kv (List UInt8) V where
 kind:=3
 key:= .str
 unk:=fun p=>match p with
  | .str s=>some s
  | _=>none
 agg:=agg
 enc:=c.enc
 dec:=c.dec
 z:=z
theorem awu {V:Type}{agg:Bool}{c:PvC V}{z:V}(hc:Qk c):aw8 (kvS agg c z) where
 kd:=fun _=>rfl
 un:=anb.un
 beq:=anb.beq
 dk:=fun vs h=>hc.dk vs (h.trans (hc.kd _))
section
variable {D α:Type}{S:Sh D}
def au1 (b:α->D)(e:D->Option α):iT D α:=⟨1,fun a=>[.dat (b a)],fun c=>match c with
 | [.dat d]=>e d
 | _=>none⟩
theorem alr {b:α->D}{c:D->Option α}(f:∀d a,c d=some a->d=b a):bQ S (au1 b c):=by
 refine⟨fun g a h=> ?_,fun a=>rfl,fun a x e=> ?_⟩
 ·simp only[au1]at h⊢;split at h
  ·rw[f _ _ h];exact⟨.inl rfl,rfl,trivial⟩
  ·cases h
 ·simp only[au1,QZ]at e;subst e;rfl
def aAL (b:α->D)(c:D->Option α):Blk D α:=⟨fun a=> .map (b a),fun x=>match x with
 | .map d=>c d
 | _=>none⟩
theorem ayb {b:α->D}{c:D->Option α}(e:∀d a,c d=some a->d=b a):xY S (aAL b c):=⟨fun x a h=>by
 simp only[aAL]at h⊢;split at h
 ·exact e _ _ h
 ·cases h⟩
def aqY (n:Nat):Blk D Unit:=⟨fun _=> .cells [.own n],fun x=>match x with
 | .cells [.own k]=>if Nat.beq k n then some ()else none
 | _=>none⟩
instance aIS (n:Nat):xY S (aqY (D:=D) n):=⟨fun x a h=>by
 simp only[aqY]at h⊢;split at h
 ·split at h
  ·rename_i b;rw[Qa b];exact⟨.inl rfl,trivial⟩
  ·cases h
 ·cases h⟩
def adA (k:IntKind)(n:Int):Blk D Unit:=⟨fun _=> .cells [.int k n],fun x=>match x with
 | .cells [.int a m]=>if kEq a k && decide (m=n)then some ()else none
 | _=>none⟩
instance aIR (k:IntKind) (n:Int):xY S (adA (D:=D) k n):=⟨fun x a h=>by
 simp only[adA]at h⊢;split at h
 ·split at h
  ·rename_i c m b;simp only[iZ,Xh,kEq,Qbw]at b;rw[b.1,b.2];exact⟨.inl rfl,trivial⟩
  ·cases h
 ·cases h⟩
def bFn (f:Nat)(a:List Nat):Blk D Unit:=⟨fun _=> .cells [.fn f a],fun x=>match x with
 | .cells [.fn c b]=>if Nat.beq f c && OJ a b then some ()else none
 | _=>none⟩
instance aJl (f:Nat) (b:List Nat):xY S (bFn (D:=D) f b):=⟨fun x a h=>by
 simp only[bFn]at h⊢;split at h
 ·split at h
  ·rename_i c;simp only[iZ]at c;rw[<-Qa c.1,<-LV c.2];exact⟨.inl rfl,trivial⟩
  ·cases h
 ·cases h⟩
end
end Go.Vc
namespace Go.Vc
theorem azM {P:Program}(h:P.funcs.any Func.goes=false)(f:FuncId):P.goes f=false:=by
 have a:∀g:Nat,(P.funcs[g]?).any Func.goes=false:=fun g=>by
  grind
 unfold Program.goes
 grind
theorem aoH {P:Program}{c:OpenClaim}(h:P.funcs.any Func.goes=false)(a:c.start= .entering):false=c.goesBy P:=by
 unfold OpenClaim.goesBy Program.goesAt Program.goesFrom;rw[a];cases b:P.funcNamed c.func with
 | none=>rfl
 | some f=>simp[azM h f]
end Go.Vc
