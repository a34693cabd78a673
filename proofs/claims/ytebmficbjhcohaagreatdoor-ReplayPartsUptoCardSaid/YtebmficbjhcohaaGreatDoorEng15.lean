/- Own engine: Vei, Vek, Vel, Ven, Vem. -/
import Derived.Test.YtebmficbjhcohaaGreatDoorEng11
import Derived.Lib.Bytealg
import GoSem.ClaimGoes
set_option linter.unusedVariables false
set_option linter.unusedSimpArgs false
namespace Go.Vc
open Go.RowKit
theorem aiK {k:IntKind}(a:k.signed=false)(n:Nat):dA k (n:Int)=((n % 2 ^ k.bits:Nat):Int):=by
 cases k<;>simp[IntKind.signed]at a<;>simp[dA,IntKind.wrap,IntKind.signed,IntKind.bits]
theorem Np {k:IntKind}(a:k.signed=false){n:Nat}(h:n < 2 ^ k.bits):dA k (n:Int)=(n:Int):=by
 rw[aiK a,Qbv h]
theorem ajC {k:IntKind}(c:k.signed=false){x y:Nat}(b:x < 2 ^ k.bits)(a:y < 2 ^ k.bits):orI k (x:Int) (y:Int)=((x ||| y:Nat):Int):=by
 have:(BitVec.ofInt k.bits (x:Int) ||| BitVec.ofInt k.bits (y:Int)).toNat=x ||| y:=by
  rw[BitVec.toNat_or,Qc5,Qc5,Qdq,Qdq,Qbv b,Qbv a]
 unfold orI;rw[this];exact Np c (Nat.or_lt_two_pow b a)
theorem aqs {k:IntKind}(c:k.signed=false){x y:Nat}(b:x < 2 ^ k.bits)(a:y < 2 ^ k.bits):uQ k (x:Int) (y:Int)=((x &&& y:Nat):Int):=by
 have:(BitVec.ofInt k.bits (x:Int) &&& BitVec.ofInt k.bits (y:Int)).toNat=x &&& y:=by
  rw[BitVec.toNat_and,Qc5,Qc5,Qdq,Qdq,Qbv b,Qbv a]
 unfold uQ;rw[this];exact Np c (Nat.and_lt_two_pow x a)
theorem adk {k:IntKind}(x n:Nat)(a:n<=k.bits):Bc k (x:Int) (n:Int)=((x / 2 ^ n:Nat):Int):=by
 unfold Bc;rw[DI,Qcg a,Int.fdiv_eq_ediv_of_nonneg _ (by exact_mod_cast vP _)]
 norm_cast
theorem arY {k:IntKind}(b:k.signed=false){x n:Nat}(a:n<=k.bits)(h:x*2 ^ n < 2 ^ k.bits):W_ k (x:Int) (n:Int)=((x*2 ^ n:Nat):Int):=by
 unfold W_;rw[DI,Qcg a];have:(x:Int)*2 ^ n=((x*2 ^ n:Nat):Int):=by norm_cast
 rw[this];exact Np b h
end Go.Vc
namespace Go.Vc
open Go.RowKit
def ahG:Nat->Nat->List Nat
 | 0,_=>[]
 | k+1,x=>if x < 128 then[x]else(x % 128+128)::ahG k (x / 128)
def ayI:List Nat->Nat
 | []=>0
 | c::l=>c % 128+128*ayI l
def wfV:List Nat->Prop
 | []=>False
 | [c]=>c < 128
 | c::l=>128<=c/\c < 256/\wfV l
theorem awC {l:List Nat}(h:wfV l):1<=l.length:=by
 cases l with
 | nil=>exact h.elim
 | cons c l=>simp
def mY:Nat->List UInt8->Nat×Nat×Int
 | _,[]=>(0,0,4)
 | i,c::r=>if i=9/\1 < c.toNat then(0,0,6)else if c.toNat < 128 then(c.toNat,1,0)else(match mY (i+1) r with
  | (u,n,e)=>if e=0 then(c.toNat % 128+128*u,n+1,0)else(0,0,e))
theorem Vd:∀(s:List UInt8) (i:Nat),i<=9->(mY i s).2.2=0->∃l:List Nat,wfV l/\(s.take (mY i s).2.1).map UInt8.toNat=l/\(mY i s).2.1=l.length/\(mY i s).2.1<=s.length/\ayI l=(mY i s).1/\l.length+i<=10/\(mY i s).1 < 2 ^ (64 - 7*i)
 | [],i,_,h=>by simp[mY]at h
 | c::r,i,y,h=>by
  unfold mY at h⊢;have A:=c.toNat_lt;by_cases b:i=9/\1 < c.toNat
  ·rw[mV b]at h;simp at h
  ·rw[lW b]at h⊢;by_cases f:c.toNat < 128
   ·rw[mV f]at h⊢;refine⟨[c.toNat],f,by simp,rfl,by simp,by simp[ayI];omega,by simp;omega,?_⟩;rcases(by omega:i=9\/i<=8)with rfl | h8
    ·show c.toNat < 2;omega
    ·have:2 ^ 8<=2 ^ (64 - 7*i):=Qd0 qp au;show c.toNat < 2 ^ (64 - 7*i)
     omega
   ·rw[lW f]at h⊢;generalize g:mY (i+1) r=t at h⊢;obtain⟨u,n,e⟩:=t;dsimp only at h⊢;by_cases a:e=0
    ·rw[mV a]at h⊢;have x:i≠9:=fun w=>b ⟨w,by omega⟩
     have:=Vd r (i+1) au (by rw[g];exact a);rw[g]at this;obtain⟨l,j,k,o,v,m,z,q⟩:=this;dsimp only at k o v m q⊢;refine⟨c.toNat::l,?_,?_,by simp[o],by simp;omega,by simp only[ayI];rw[m],by simp;omega,?_⟩
     ·cases l with
      | nil=>exact j.elim
      | cons d l=>exact⟨by omega,by omega,j⟩
     ·rw[Qdi,H7,k]
     ·have p:64 - 7*i=(64 - 7*(i+1))+7:=by omega
      rw[p,Nat.pow_add];omega
    ·rw[lW a]at h;exact absurd h a
end Go.Vc
namespace Go.Vc
open Go.RowKit
def lI (c:UInt8):List UInt8->List (List UInt8)
 | []=>[[]]
 | x::s=>if x==c then[]::lI c s else match lI c s with
  | []=>[[x]]
  | p::r=>(x::p)::r
theorem afX {c x:UInt8}{s:List UInt8}(h:(x==c)=true):lI c (x::s)=[]::lI c s:=by
 conv=>lhs;unfold lI
 rw[h];rfl
theorem Xx {c x:UInt8}{s:List UInt8}(h:(x==c)=false):lI c (x::s)=match lI c s with
  | []=>[[x]]
  | p::r=>(x::p)::r:=by
 conv=>lhs;unfold lI
 rw[h];rfl
theorem Gz {c:UInt8}:∀{s:List UInt8},Lib.indexByte s c= -1->lI c s=[s]/\Lib.countByte s c=0
 | [],_=>⟨rfl,rfl⟩
 | x::s,h=>by
  have f:=Lib.indexByte_ge s c;unfold Lib.indexByte at h;cases a:x==c with
  | true=>rw[a]at h;simp at h
  | false=>
   rw[a]at h;simp only[Ot,if_false]at h;by_cases b:Lib.indexByte s c= -1
   ·obtain⟨e,d⟩:=Gz b;rw[Xx a,e];refine⟨rfl,?_⟩;unfold Lib.countByte at d⊢;rw[List.count_cons,d,a];rfl
   ·have:(Lib.indexByte s c== -1)=false:=by simpa using b
    rw[this]at h;simp only[Ot,if_false]at h;omega
theorem Hu {c:UInt8}:∀{s:List UInt8} {m:Nat},Lib.indexByte s c=(m:Int)->m < s.length/\lI c s=s.take m::lI c (s.drop (m+1))/\Lib.countByte s c=Lib.countByte (s.drop (m+1)) c+1
 | [],m,h=>by unfold Lib.indexByte at h;omega
 | x::s,m,h=>by
  have f:=Lib.indexByte_ge s c;unfold Lib.indexByte at h;cases a:x==c with
  | true=>
   rw[a]at h;simp only[if_true]at h;obtain rfl:m=0:=by omega
   rw[afX a];refine⟨by simp,rfl,?_⟩;unfold Lib.countByte;rw[List.count_cons,a];rfl
  | false=>
   rw[a]at h;simp only[Ot,if_false]at h;by_cases b:Lib.indexByte s c= -1
   ·rw[b]at h;exact absurd h oI
   ·have:(Lib.indexByte s c== -1)=false:=by simpa using b
    rw[this]at h;simp only[Ot,if_false]at h;obtain⟨k,rfl⟩:∃k,m=k+1:=⟨m - 1,by omega⟩;obtain⟨g,e,d⟩:=Hu (c:=c) (s:=s) (m:=k) au;rw[Xx a,e];refine⟨by simp;omega,rfl,?_⟩;unfold Lib.countByte at d⊢;rw[List.count_cons,a];simpa using d
theorem count_le (c:UInt8)(s:List UInt8):Lib.countByte s c<=s.length:=List.count_le_length
end Go.Vc
namespace Go.Vc
open Go.RowKit
section
variable {K V:Type}[DecidableEq K]
def DC (l:List (K×V))(k:K):Bool:=l.any fun p=>decide (k=p.1)
def zO (z:V):List (K×V)->K->V
 | [],_=>z
 | p::r,k=>if k=p.1 then p.2 else zO z r k
def rZ:List (K×V)->K->V->List (K×V)
 | [],k,v=>[(k,v)]
 | p::r,k,v=>if k=p.1 then(p.1,v)::r else p::rZ r k v
end
structure Kv (K V:Type) where
 kind:Nat
 key:K->Pv
 unk:Pv->Option K
 agg:Bool
 enc:V->List Pv
 dec:List Pv->Option V
 z:V
structure avk {K V:Type}[DecidableEq K](c:Kv K V):Prop where
 kd:∀k,(c.key k).kind=c.kind
 un:∀p,p.kind=c.kind->∃k,c.unk p=some k/\c.key k=p
 beq:∀k k',Pv.beq (c.key k) (c.key k')=decide (k=k')
 dk:∀vs,vs.map Pv.kind=(c.enc c.z).map Pv.kind->∃v,c.dec vs=some v/\c.enc v=vs
def RX {D K V:Type}[DecidableEq K](c:Kv K V)(inj:List (K×V)->D)(l:List (K×V)):Mp D where
 kind:=c.kind
 agg:=c.agg
 zero:=c.enc c.z
 kvs:=l.map fun p=>(c.key p.1,c.enc p.2)
 has:=fun p=>match c.unk p with
  | some k=>DC l k
  | none=>false
 get:=fun p=>match c.unk p with
  | some k=>(c.enc (zO c.z l k)).map Pv.lf
  | none=>[]
 put:=fun p vs=>match c.unk p,c.dec vs with
  | some k,some v=>inj (rZ l k v)
  | _,_=>inj l
 len:=l.length
theorem RY {K V:Type}[DecidableEq K]{c:Kv K V}(a:avk c)(k:K):∀l:List (K×V),x9 (c.key k) (l.map fun p=>(c.key p.1,c.enc p.2))=if DC l k then some (c.enc (zO c.z l k))else none
 | []=>rfl
 | p::r=>by
  by_cases h:k=p.1
  ·have e:DC (p::r) k=true:=by simp[DC,h]
   rw[e];simp[x9,a.beq,zO,h]
  ·have e:DC (p::r) k=DC r k:=by simp[DC,h]
   have b:zO c.z (p::r) k=zO c.z r k:=by simp[zO,h]
   rw[e,b,<-RY a k r];simp[x9,a.beq,h]
theorem Sj {K V:Type}[DecidableEq K](z:V)(k:K):∀l:List (K×V),DC l k=false->zO z l k=z
 | [],_=>rfl
 | p::r,h=>by
  simp only[DC,List.any_cons,Bool.or_eq_false_iff,decide_eq_false_iff_not]at h;unfold zO;rw[lW h.1];exact Sj z k r h.2
theorem aj6 {K V:Type}[DecidableEq K]{c:Kv K V}(a:avk c)(k:K)(v:V):∀l:List (K×V),Ju (c.key k) (c.enc v) (l.map fun p=>(c.key p.1,c.enc p.2))=(rZ l k v).map fun p=>(c.key p.1,c.enc p.2)
 | []=>rfl
 | p::r=>by
  simp only[H7,Ju,a.beq,rZ];by_cases h:k=p.1
  ·simp[h]
  ·simp[h,aj6 a k v r]
theorem akn {D K V:Type}[DecidableEq K]{S:Sh D}{c:Kv K V}{inj:List (K×V)->D}(hc:avk c)(hi:∀l,S.mp (inj l)=some (RX c inj l))(l:List (K×V)):azC S (RX c inj l) where
 keys:=fun p hp=>by
  obtain⟨q,_,rfl⟩:=Qb.1 hp;exact hc.kd _
 has:=fun p hp=>by
  obtain⟨k,h1,rfl⟩:=hc.un p hp;simp only[RX,h1,RY hc];cases DC l k<;>rfl
 get:=fun p hp=>by
  obtain⟨k,h1,rfl⟩:=hc.un p hp;simp only[RX,h1,RY hc];cases h:DC l k with
  | true=>rfl
  | false=>rw[Sj _ _ _ h];rfl
 put:=fun p vs hp hv=>by
  obtain⟨k,h1,rfl⟩:=hc.un p hp;obtain⟨v,h2,rfl⟩:=hc.dk vs hv;refine⟨RX c inj (rZ l k v),?_,?_,rfl⟩
  ·simp only[RX,h1,h2];exact hi _
  ·simp only[RX];exact(aj6 hc k v l).symm
 len:=by simp[RX]
def auK:Kv (List UInt8) Bool where
 kind:=3
 key:= .str
 unk:=fun p=>match p with
  | .str s=>some s
  | _=>none
 agg:=false
 enc:=fun b=>[.bool b]
 dec:=fun vs=>match vs with
  | [.bool b]=>some b
  | _=>none
 z:=false
theorem Jz {k:IntKind}(h:rD k=3\/rD k=1):False:=by cases k<;>simp[rD]at h
theorem alI:avk auK where
 kd:=fun _=>rfl
 un:=fun p hp=>by
  cases p with
  | str s=>exact⟨s,rfl,rfl⟩
  | bool b=>simp[Pv.kind,auK]at hp
  | int k n=>exact(Jz (.inl hp)).elim
 beq:=fun a b=>by
  show(a==b)=decide (a=b)
  by_cases h:a=b<;>simp[h]
 dk:=fun vs h=>by
  match vs,h with
  | [.bool b],_=>exact⟨b,rfl,rfl⟩
  | [.str s],h=>exact absurd h (by simp[auK,Pv.kind])
  | [.int k n],h=>exact absurd h (fun h=>Jz (k:=k) (.inr (by injection h)))
  | [],h=>exact absurd h (by simp[auK])
  | _::_::_,h=>exact absurd h (by simp[auK])
structure PvC (V:Type) where
 kinds:List Nat
 enc:V->List Pv
 dec:List Pv->Option V
class O6 {V:Type} (c:PvC V):Prop where
 kd:∀v,(c.enc v).map Pv.kind=c.kinds
 dk:∀vs,vs.map Pv.kind=c.kinds->∃v,c.dec vs=some v/\c.enc v=vs
theorem atL {k a:IntKind}(h:rD k=rD a):k=a:=by cases k<;>cases a<;>first | rfl | (simp[rD]at h)
def pvB:PvC Bool:=⟨[1],fun b=>[.bool b],fun a=>match a with
 | [.bool b]=>some b
 | _=>none⟩
def pvI (k:IntKind):PvC Int:=⟨[rD k],fun n=>[.int k n],fun a=>match a with
 | [.int _ n]=>some n
 | _=>none⟩
def pvP {A B:Type}(c:PvC A)(d:PvC B):PvC (A×B):=⟨c.kinds++d.kinds,fun p=>c.enc p.1++d.enc p.2,fun e=>match c.dec (e.take c.kinds.length),d.dec (e.drop c.kinds.length)with
 | some a,some b=>some (a,b)
 | _,_=>none⟩
def ai4 {A B:Type}(c:PvC A)(f:A->B)(g:B->A):PvC B:=⟨c.kinds,fun b=>c.enc (g b),fun d=>match c.dec d with
 | some a=>some (f a)
 | none=>none⟩
instance aFY:O6 pvB:=⟨fun _=>rfl,fun a h=>by
 match a,h with
 | [.bool b],_=>exact⟨b,rfl,rfl⟩
 | [.str s],h=>exact absurd h (by simp[pvB,Pv.kind])
 | [.int k n],h=>exact absurd h (fun h=>Jz (k:=k) (.inr (by injection h)))
 | [],h=>exact absurd h (by simp[pvB])
 | _::_::_,h=>exact absurd h (by simp[pvB])⟩
instance avO (k:IntKind):O6 (pvI k):=⟨fun _=>rfl,fun a h=>by
 match a,h with
 | [.int c b],h=>
  have h:rD c=rD k:=by injection h
  rw[atL h];exact⟨b,rfl,rfl⟩
 | [.bool s],h=>exact absurd h.symm (fun h=>Jz (k:=k) (.inr (by injection h)))
 | [.str s],h=>exact absurd h.symm (fun h=>Jz (k:=k) (.inl (by injection h)))
 | [],h=>exact absurd h (by simp[pvI])
 | _::_::_,h=>exact absurd h (by simp[pvI])⟩
instance aFZ {A B:Type} {c:PvC A} {d:PvC B} [hc:O6 c] [hd:O6 d]:O6 (pvP c d):=⟨fun p=>by simp[pvP,hc.kd,hd.kd],fun e h=>by
 have h:e.map Pv.kind=c.kinds++d.kinds:=h;have g:(e.take c.kinds.length).map Pv.kind=c.kinds:=by rw[List.map_take,h,Qc6]
 have f:(e.drop c.kinds.length).map Pv.kind=d.kinds:=by rw[List.map_drop,h,List.drop_left]
 obtain⟨a,a1,a2⟩:=hc.dk _ g;obtain⟨b,b1,i⟩:=hd.dk _ f;refine⟨(a,b),by simp only[pvP,a1,b1],?_⟩;show c.enc a++d.enc b=e
 rw[a2,i,Qcd]⟩
theorem aoD {A B:Type}{c:PvC A}{f:A->B}{g:B->A}(d:O6 c)(i:∀a,g (f a)=a):O6 (ai4 c f g):=⟨fun b=>d.kd _,fun e h=>by
 obtain⟨a,a1,a2⟩:=d.dk e h;exact⟨f a,by simp only[ai4,a1],by simp only[ai4,i,a2]⟩⟩
def kvS {V:Type}(agg:Bool)(c:PvC V)(z:V):Kv (List UInt8) V where
 kind:=3
 key:= .str
 unk:=fun p=>match p with
  | .str s=>some s
  | _=>none
 agg:=agg
 enc:=c.enc
 dec:=c.dec
 z:=z
theorem asi {V:Type}{agg:Bool}{c:PvC V}{z:V}(hc:O6 c):avk (kvS agg c z) where
 kd:=fun _=>rfl
 un:=alI.un
 beq:=alI.beq
 dk:=fun vs h=>hc.dk vs (h.trans (hc.kd _))
section
variable {D α:Type}{S:Sh D}
def aqo (b:α->D)(e:D->Option α):ji D α:=⟨1,fun a=>[.dat (b a)],fun c=>match c with
 | [.dat d]=>e d
 | _=>none⟩
theorem aki {b:α->D}{c:D->Option α}(f:∀d a,c d=some a->d=b a):dm S (aqo b c):=by
 refine⟨fun g a h=> ?_,fun a=>rfl,fun a x e=> ?_⟩
 ·simp only[aqo]at h⊢;split at h
  ·rw[f _ _ h];exact⟨.inl rfl,rfl,trivial⟩
  ·cases h
 ·simp only[aqo,BH]at e;subst e;rfl
def anG (b:α->D)(c:D->Option α):Blk D α:=⟨fun a=> .map (b a),fun x=>match x with
 | .map d=>c d
 | _=>none⟩
theorem axt {b:α->D}{c:D->Option α}(e:∀d a,c d=some a->d=b a):uN S (anG b c):=⟨fun x a h=>by
 simp only[anG]at h⊢;split at h
 ·exact e _ _ h
 ·cases h⟩
def Y4 (n:Nat):Blk D Unit:=⟨fun _=> .cells [.own n],fun x=>match x with
 | .cells [.own k]=>if Nat.beq k n then some ()else none
 | _=>none⟩
instance aJH (n:Nat):uN S (Y4 (D:=D) n):=⟨fun x a h=>by
 simp only[Y4]at h⊢;split at h
 ·split at h
  ·rename_i b;rw[Qa b];exact⟨.inl rfl,trivial⟩
  ·cases h
 ·cases h⟩
def adQ (k:IntKind)(n:Int):Blk D Unit:=⟨fun _=> .cells [.int k n],fun x=>match x with
 | .cells [.int a m]=>if kEq a k && decide (m=n)then some ()else none
 | _=>none⟩
instance aJG (k:IntKind) (n:Int):uN S (adQ (D:=D) k n):=⟨fun x a h=>by
 simp only[adQ]at h⊢;split at h
 ·split at h
  ·rename_i c m b;simp only[iT,WL,kEq,Qch]at b;rw[b.1,b.2];exact⟨.inl rfl,trivial⟩
  ·cases h
 ·cases h⟩
def bFn (f:Nat)(a:List Nat):Blk D Unit:=⟨fun _=> .cells [.fn f a],fun x=>match x with
 | .cells [.fn c b]=>if Nat.beq f c && OX a b then some ()else none
 | _=>none⟩
instance aKd (f:Nat) (c:List Nat):uN S (bFn (D:=D) f c):=⟨fun x a h=>by
 simp only[bFn]at h⊢;split at h
 ·split at h
  ·rename_i b;simp only[iT]at b;rw[<-Qa b.1,<-Jf b.2];exact⟨.inl rfl,trivial⟩
  ·cases h
 ·cases h⟩
end
end Go.Vc
namespace Go.Vc
theorem ayg {P:Program}(h:P.funcs.any Func.goes=false)(f:FuncId):P.goes f=false:=by
 have a:∀g:Nat,(P.funcs[g]?).any Func.goes=false:=fun g=>by
  cases d:P.funcs[g]? with
  | none=>rfl
  | some e=>
   show e.goes=false
   obtain⟨c,b⟩:=Qc.1 d;have:=Array.any_eq_false.1 h g c;rw[b]at this;simpa using this
 unfold Program.goes;rw[h,Bool.and_false,Bool.or_false,Qco];intro g _;simp[a g]
theorem amf {P:Program}{c:OpenClaim}(h:P.funcs.any Func.goes=false)(a:c.start= .entering):false=c.goesBy P:=by
 unfold OpenClaim.goesBy Program.goesAt Program.goesFrom;rw[a];cases b:P.funcNamed c.func with
 | none=>rfl
 | some f=>simp[ayg h f]
end Go.Vc
