/- Own engine: Vei, Vek, Vel, Ven, Vem. -/
import Derived.Test.YtmadgoehmjmlmaaGreatDoorEng11
import Derived.Lib.Bytealg
import GoSem.ClaimGoes
set_option linter.unusedVariables false
set_option linter.unusedSimpArgs false
namespace Go.Vc
open Go.RowKit
theorem ak5 {k:IntKind}(hu:k.signed=false)(n:Nat):dB k (n:Int)=((n % 2 ^ k.bits:Nat):Int):=by
 cases k<;>simp[IntKind.signed]at hu<;>simp[dB,IntKind.wrap,IntKind.signed,IntKind.bits]
theorem NT {k:IntKind}(hu:k.signed=false){n:Nat}(h:n < 2 ^ k.bits):dB k (n:Int)=(n:Int):=by
 rw[ak5 hu,Qb6 h]
theorem ajR {k:IntKind}(hu:k.signed=false){x y:Nat}(hx:x < 2 ^ k.bits)(hy:y < 2 ^ k.bits):orI k (x:Int) (y:Int)=((x ||| y:Nat):Int):=by
 have:(BitVec.ofInt k.bits (x:Int) ||| BitVec.ofInt k.bits (y:Int)).toNat=x ||| y:=by
  rw[BitVec.toNat_or,Qdn,Qdn,Qd3,Qd3,Qb6 hx,Qb6 hy]
 unfold orI;rw[this];exact NT hu (Nat.or_lt_two_pow hx hy)
theorem apa {k:IntKind}(hu:k.signed=false){x y:Nat}(hx:x < 2 ^ k.bits)(hy:y < 2 ^ k.bits):wJ k (x:Int) (y:Int)=((x &&& y:Nat):Int):=by
 have:(BitVec.ofInt k.bits (x:Int) &&& BitVec.ofInt k.bits (y:Int)).toNat=x &&& y:=by
  rw[BitVec.toNat_and,Qdn,Qdn,Qd3,Qd3,Qb6 hx,Qb6 hy]
 unfold wJ;rw[this];exact NT hu (Nat.and_lt_two_pow x hy)
theorem ae9 {k:IntKind}(x n:Nat)(hn:n<=k.bits):zV k (x:Int) (n:Int)=((x / 2 ^ n:Nat):Int):=by
 unfold zV;rw[ww,Qcv hn,Int.fdiv_eq_ediv_of_nonneg _ (by exact_mod_cast vg _)]
 norm_cast
theorem apH {k:IntKind}(hu:k.signed=false){x n:Nat}(hn:n<=k.bits)(h:x*2 ^ n < 2 ^ k.bits):XG k (x:Int) (n:Int)=((x*2 ^ n:Nat):Int):=by
 unfold XG;rw[ww,Qcv hn];have:(x:Int)*2 ^ n=((x*2 ^ n:Nat):Int):=by norm_cast
 rw[this];exact NT hu h
end Go.Vc
namespace Go.Vc
open Go.RowKit
def ais:Nat->Nat->List Nat
 | 0,_=>[]
 | k+1,x=>if x < 128 then[x]else(x % 128+128)::ais k (x / 128)
def axJ:List Nat->Nat
 | []=>0
 | c::l=>c % 128+128*axJ l
def wfV:List Nat->Prop
 | []=>False
 | [c]=>c < 128
 | c::l=>128<=c/\c < 256/\wfV l
theorem awo {l:List Nat}(h:wfV l):1<=l.length:=by
 cases l with
 | nil=>exact h.elim
 | cons c l=>simp
def nD:Nat->List UInt8->Nat×Nat×Int
 | _,[]=>(0,0,4)
 | i,c::r=>if i=9/\1 < c.toNat then(0,0,6)else if c.toNat < 128 then(c.toNat,1,0)else(match nD (i+1) r with
  | (u,n,e)=>if e=0 then(c.toNat % 128+128*u,n+1,0)else(0,0,e))
theorem UJ:∀(s:List UInt8) (i:Nat),i<=9->(nD i s).2.2=0->∃l:List Nat,wfV l/\(s.take (nD i s).2.1).map UInt8.toNat=l/\(nD i s).2.1=l.length/\(nD i s).2.1<=s.length/\axJ l=(nD i s).1/\l.length+i<=10/\(nD i s).1 < 2 ^ (64 - 7*i)
 | [],i,_,h=>by simp[nD]at h
 | c::r,i,hi,h=>by
  unfold nD at h⊢;have hc:=c.toNat_lt;by_cases h9:i=9/\1 < c.toNat
  ·rw[mi h9]at h;simp at h
  ·rw[lL h9]at h⊢;by_cases h1:c.toNat < 128
   ·rw[mi h1]at h⊢;refine⟨[c.toNat],h1,by simp,rfl,by simp,by simp[axJ];omega,by simp;omega,?_⟩;rcases(by omega:i=9\/i<=8)with rfl | h8
    ·show c.toNat < 2;omega
    ·have:2 ^ 8<=2 ^ (64 - 7*i):=Qei nG au;show c.toNat < 2 ^ (64 - 7*i)
     omega
   ·rw[lL h1]at h⊢;generalize ht:nD (i+1) r=t at h⊢;obtain⟨u,n,e⟩:=t;dsimp only at h⊢;by_cases he:e=0
    ·rw[mi he]at h⊢;have hi9:i≠9:=fun e9=>h9 ⟨e9,by omega⟩
     have:=UJ r (i+1) au (by rw[ht];exact he);rw[ht]at this;obtain⟨l,w1,w2,w3,w4,w5,w6,w7⟩:=this;dsimp only at w2 w3 w4 w5 w7⊢;refine⟨c.toNat::l,?_,?_,by simp[w3],by simp;omega,by simp only[axJ];rw[w5],by simp;omega,?_⟩
     ·cases l with
      | nil=>exact w1.elim
      | cons d l=>exact⟨by omega,by omega,w1⟩
     ·rw[Qen,DT,w2]
     ·have e7:64 - 7*i=(64 - 7*(i+1))+7:=by omega
      rw[e7,Nat.pow_add];omega
    ·rw[lL he]at h;exact absurd h he
end Go.Vc
namespace Go.Vc
open Go.RowKit
def lJ (c:UInt8):List UInt8->List (List UInt8)
 | []=>[[]]
 | x::s=>if x==c then[]::lJ c s else match lJ c s with
  | []=>[[x]]
  | p::r=>(x::p)::r
theorem agR {c x:UInt8}{s:List UInt8}(h:(x==c)=true):lJ c (x::s)=[]::lJ c s:=by
 conv=>lhs;unfold lJ
 rw[h];rfl
theorem ZO {c x:UInt8}{s:List UInt8}(h:(x==c)=false):lJ c (x::s)=match lJ c s with
  | []=>[[x]]
  | p::r=>(x::p)::r:=by
 conv=>lhs;unfold lJ
 rw[h];rfl
theorem Jv {c:UInt8}:∀{s:List UInt8},Lib.indexByte s c= -1->lJ c s=[s]/\Lib.countByte s c=0
 | [],_=>⟨rfl,rfl⟩
 | x::s,h=>by
  have hge:=Lib.indexByte_ge s c;unfold Lib.indexByte at h;cases hx:x==c with
  | true=>rw[hx]at h;simp at h
  | false=>
   rw[hx]at h;simp only[Qbo,if_false]at h;by_cases hs:Lib.indexByte s c= -1
   ·obtain⟨h1,h2⟩:=Jv hs;rw[ZO hx,h1];refine⟨rfl,?_⟩;unfold Lib.countByte at h2⊢;rw[List.count_cons,h2,hx];rfl
   ·have:(Lib.indexByte s c== -1)=false:=by simpa using hs
    rw[this]at h;simp only[Qbo,if_false]at h;omega
theorem I8 {c:UInt8}:∀{s:List UInt8} {m:Nat},Lib.indexByte s c=(m:Int)->m < s.length/\lJ c s=s.take m::lJ c (s.drop (m+1))/\Lib.countByte s c=Lib.countByte (s.drop (m+1)) c+1
 | [],m,h=>by unfold Lib.indexByte at h;omega
 | x::s,m,h=>by
  have hge:=Lib.indexByte_ge s c;unfold Lib.indexByte at h;cases hx:x==c with
  | true=>
   rw[hx]at h;simp only[if_true]at h;obtain rfl:m=0:=by omega
   rw[agR hx];refine⟨by simp,rfl,?_⟩;unfold Lib.countByte;rw[List.count_cons,hx];rfl
  | false=>
   rw[hx]at h;simp only[Qbo,if_false]at h;by_cases hs:Lib.indexByte s c= -1
   ·rw[hs]at h;exact absurd h qa2
   ·have:(Lib.indexByte s c== -1)=false:=by simpa using hs
    rw[this]at h;simp only[Qbo,if_false]at h;obtain⟨k,rfl⟩:∃k,m=k+1:=⟨m - 1,by omega⟩;obtain⟨h1,h2,h3⟩:=I8 (c:=c) (s:=s) (m:=k) au;rw[ZO hx,h2];refine⟨by simp;omega,rfl,?_⟩;unfold Lib.countByte at h3⊢;rw[List.count_cons,hx];simpa using h3
theorem count_le (c:UInt8)(s:List UInt8):Lib.countByte s c<=s.length:=List.count_le_length
end Go.Vc
namespace Go.Vc
open Go.RowKit
section
variable {K V:Type}[DecidableEq K]
def En (l:List (K×V))(k:K):Bool:=l.any fun p=>decide (k=p.1)
def Ap (z:V):List (K×V)->K->V
 | [],_=>z
 | p::r,k=>if k=p.1 then p.2 else Ap z r k
def ug:List (K×V)->K->V->List (K×V)
 | [],k,v=>[(k,v)]
 | p::r,k,v=>if k=p.1 then(p.1,v)::r else p::ug r k v
end
structure Kv (K V:Type) where
 kind:Nat
 key:K->Pv
 unk:Pv->Option K
 agg:Bool
 enc:V->List Pv
 dec:List Pv->Option V
 z:V
structure avs {K V:Type}[DecidableEq K](c:Kv K V):Prop where
 kd:∀k,(c.key k).kind=c.kind
 un:∀p,p.kind=c.kind->∃k,c.unk p=some k/\c.key k=p
 beq:∀k k',Pv.beq (c.key k) (c.key k')=decide (k=k')
 dk:∀vs,vs.map Pv.kind=(c.enc c.z).map Pv.kind->∃v,c.dec vs=some v/\c.enc v=vs
def Uy {D K V:Type}[DecidableEq K](c:Kv K V)(inj:List (K×V)->D)(l:List (K×V)):Mp D where
 kind:=c.kind
 agg:=c.agg
 zero:=c.enc c.z
 kvs:=l.map fun p=>(c.key p.1,c.enc p.2)
 has:=fun p=>match c.unk p with
  | some k=>En l k
  | none=>false
 get:=fun p=>match c.unk p with
  | some k=>(c.enc (Ap c.z l k)).map Pv.lf
  | none=>[]
 put:=fun p vs=>match c.unk p,c.dec vs with
  | some k,some v=>inj (ug l k v)
  | _,_=>inj l
 len:=l.length
theorem SY {K V:Type}[DecidableEq K]{c:Kv K V}(hc:avs c)(k:K):∀l:List (K×V),yR (c.key k) (l.map fun p=>(c.key p.1,c.enc p.2))=if En l k then some (c.enc (Ap c.z l k))else none
 | []=>rfl
 | p::r=>by
  by_cases h:k=p.1
  ·have e:En (p::r) k=true:=by simp[En,h]
   rw[e];simp[yR,hc.beq,Ap,h]
  ·have e:En (p::r) k=En r k:=by simp[En,h]
   have e2:Ap c.z (p::r) k=Ap c.z r k:=by simp[Ap,h]
   rw[e,e2,<-SY hc k r];simp[yR,hc.beq,h]
theorem Vl {K V:Type}[DecidableEq K](z:V)(k:K):∀l:List (K×V),En l k=false->Ap z l k=z
 | [],_=>rfl
 | p::r,h=>by
  simp only[En,List.any_cons,Qef,decide_eq_false_iff_not]at h;unfold Ap;rw[lL h.1];exact Vl z k r h.2
theorem akp {K V:Type}[DecidableEq K]{c:Kv K V}(hc:avs c)(k:K)(v:V):∀l:List (K×V),Uc (c.key k) (c.enc v) (l.map fun p=>(c.key p.1,c.enc p.2))=(ug l k v).map fun p=>(c.key p.1,c.enc p.2)
 | []=>rfl
 | p::r=>by
  simp only[DT,Uc,hc.beq,ug];by_cases h:k=p.1
  ·simp[h]
  ·simp[h,akp hc k v r]
theorem aj2 {D K V:Type}[DecidableEq K]{S:Sh D}{c:Kv K V}{inj:List (K×V)->D}(hc:avs c)(hi:∀l,S.mp (inj l)=some (Uy c inj l))(l:List (K×V)):azS S (Uy c inj l) where
 keys:=fun p hp=>by
  obtain⟨q,_,rfl⟩:=zI.1 hp;exact hc.kd _
 has:=fun p hp=>by
  obtain⟨k,h1,rfl⟩:=hc.un p hp;simp only[Uy,h1,SY hc];cases En l k<;>rfl
 get:=fun p hp=>by
  obtain⟨k,h1,rfl⟩:=hc.un p hp;simp only[Uy,h1,SY hc];cases h:En l k with
  | true=>rfl
  | false=>rw[Vl _ _ _ h];rfl
 put:=fun p vs hp hv=>by
  obtain⟨k,h1,rfl⟩:=hc.un p hp;obtain⟨v,h2,rfl⟩:=hc.dk vs hv;refine⟨Uy c inj (ug l k v),?_,?_,rfl⟩
  ·simp only[Uy,h1,h2];exact hi _
  ·simp only[Uy];exact(akp hc k v l).symm
 len:=by simp[Uy]
def au9:Kv (List UInt8) Bool where
 kind:=3
 key:= .str
 unk:=fun p=>match p with
  | .str s=>some s
  | _=>none
 agg:=false
 enc:=fun b=>[.bool b]
 dec:=fun vs=>match vs with
  | [.bool b]=>some b
  | _=>none
 z:=false
theorem F8 {k:IntKind}(h:tq k=3\/tq k=1):False:=by cases k<;>simp[tq]at h
theorem amk:avs au9 where
 kd:=fun _=>rfl
 un:=fun p hp=>by
  cases p with
  | str s=>exact⟨s,rfl,rfl⟩
  | bool b=>simp[Pv.kind,au9]at hp
  | int k n=>exact(F8 (.inl hp)).elim
 beq:=fun a b=>by
  show(a==b)=decide (a=b)
  by_cases h:a=b<;>simp[h]
 dk:=fun vs h=>by
  match vs,h with
  | [.bool b],_=>exact⟨b,rfl,rfl⟩
  | [.str s],h=>exact absurd h (by simp[au9,Pv.kind])
  | [.int k n],h=>exact absurd h (fun h=>F8 (k:=k) (.inr (by injection h)))
  | [],h=>exact absurd h (by simp[au9])
  | _::_::_,h=>exact absurd h (by simp[au9])
structure PvC (V:Type) where
 kinds:List Nat
 enc:V->List Pv
 dec:List Pv->Option V
class MV {V:Type} (c:PvC V):Prop where
 kd:∀v,(c.enc v).map Pv.kind=c.kinds
 dk:∀vs,vs.map Pv.kind=c.kinds->∃v,c.dec vs=some v/\c.enc v=vs
theorem aue {k k':IntKind}(h:tq k=tq k'):k=k':=by cases k<;>cases k'<;>first | rfl | (simp[tq]at h)
def pvB:PvC Bool:=⟨[1],fun b=>[.bool b],fun vs=>match vs with
 | [.bool b]=>some b
 | _=>none⟩
def pvS:PvC (List UInt8):=⟨[3],fun b=>[.str b],fun vs=>match vs with
 | [.str b]=>some b
 | _=>none⟩
def pvI (k:IntKind):PvC Int:=⟨[tq k],fun n=>[.int k n],fun vs=>match vs with
 | [.int _ n]=>some n
 | _=>none⟩
def pvP {A B:Type}(c:PvC A)(d:PvC B):PvC (A×B):=⟨c.kinds++d.kinds,fun p=>c.enc p.1++d.enc p.2,fun vs=>match c.dec (vs.take c.kinds.length),d.dec (vs.drop c.kinds.length)with
 | some a,some b=>some (a,b)
 | _,_=>none⟩
def ajS {A B:Type}(c:PvC A)(f:A->B)(g:B->A):PvC B:=⟨c.kinds,fun b=>c.enc (g b),fun vs=>match c.dec vs with
 | some a=>some (f a)
 | none=>none⟩
instance aFM:MV pvB:=⟨fun _=>rfl,fun vs h=>by
 match vs,h with
 | [.bool b],_=>exact⟨b,rfl,rfl⟩
 | [.str s],h=>exact absurd h (by simp[pvB,Pv.kind])
 | [.int k n],h=>exact absurd h (fun h=>F8 (k:=k) (.inr (by injection h)))
 | [],h=>exact absurd h (by simp[pvB])
 | _::_::_,h=>exact absurd h (by simp[pvB])⟩
instance aKj:MV pvS:=⟨fun _=>rfl,fun vs h=>by
 match vs,h with
 | [.str b],_=>exact⟨b,rfl,rfl⟩
 | [.bool s],h=>exact absurd h (by simp[pvS,Pv.kind])
 | [.int k n],h=>exact absurd h (fun h=>F8 (k:=k) (.inl (by injection h)))
 | [],h=>exact absurd h (by simp[pvS])
 | _::_::_,h=>exact absurd h (by simp[pvS])⟩
instance avW (k:IntKind):MV (pvI k):=⟨fun _=>rfl,fun vs h=>by
 match vs,h with
 | [.int k' b],h=>
  have h:tq k'=tq k:=by injection h
  rw[aue h];exact⟨b,rfl,rfl⟩
 | [.bool s],h=>exact absurd h.symm (fun h=>F8 (k:=k) (.inr (by injection h)))
 | [.str s],h=>exact absurd h.symm (fun h=>F8 (k:=k) (.inl (by injection h)))
 | [],h=>exact absurd h (by simp[pvI])
 | _::_::_,h=>exact absurd h (by simp[pvI])⟩
instance aFN {A B:Type} {c:PvC A} {d:PvC B} [hc:MV c] [hd:MV d]:MV (pvP c d):=⟨fun p=>by simp[pvP,hc.kd,hd.kd],fun vs h=>by
 have h:vs.map Pv.kind=c.kinds++d.kinds:=h;have h1:(vs.take c.kinds.length).map Pv.kind=c.kinds:=by rw[List.map_take,h,Qd]
 have h2:(vs.drop c.kinds.length).map Pv.kind=d.kinds:=by rw[List.map_drop,h,List.drop_left]
 obtain⟨a,a1,a2⟩:=hc.dk _ h1;obtain⟨b,b1,b2⟩:=hd.dk _ h2;refine⟨(a,b),by simp only[pvP,a1,b1],?_⟩;show c.enc a++d.enc b=vs
 rw[a2,b2,Qbk]⟩
theorem aoR {A B:Type}{c:PvC A}{f:A->B}{g:B->A}(hc:MV c)(hg:∀a,g (f a)=a):MV (ajS c f g):=⟨fun b=>hc.kd _,fun vs h=>by
 obtain⟨a,a1,a2⟩:=hc.dk vs h;exact⟨f a,by simp only[ajS,a1],by simp only[ajS,hg,a2]⟩⟩
def kvS {V:Type}(agg:Bool)(c:PvC V)(z:V):Kv (List UInt8) V where
 kind:=3
 key:= .str
 unk:=fun p=>match p with
  | .str s=>some s
  | _=>none
 agg:=agg
 enc:=c.enc
 dec:=c.dec
 z:=z
theorem aqy {V:Type}{agg:Bool}{c:PvC V}{z:V}(hc:MV c):avs (kvS agg c z) where
 kd:=fun _=>rfl
 un:=amk.un
 beq:=amk.beq
 dk:=fun vs h=>hc.dk vs (h.trans (hc.kd _))
section
variable {D α:Type}{S:Sh D}
def as3 (inj:α->D)(OZ:D->Option α):iW D α:=⟨1,fun a=>[.dat (inj a)],fun xs=>match xs with
 | [.dat d]=>OZ d
 | _=>none⟩
theorem ajk {inj:α->D}{OZ:D->Option α}(hp:∀d a,OZ d=some a->d=inj a):bM S (as3 inj OZ):=by
 refine⟨fun xs a h=> ?_,fun a=>rfl,fun a x hx=> ?_⟩
 ·simp only[as3]at h⊢;split at h
  ·rw[hp _ _ h];exact⟨.inl rfl,rfl,trivial⟩
  ·cases h
 ·simp only[as3,zD]at hx;subst hx;rfl
def ahj (inj:α->D)(OZ:D->Option α):Blk D α:=⟨fun a=> .map (inj a),fun x=>match x with
 | .map d=>OZ d
 | _=>none⟩
theorem akU {inj:α->D}{OZ:D->Option α}(hp:∀d a,OZ d=some a->d=inj a):jy S (ahj inj OZ):=⟨fun x a h=>by
 simp only[ahj]at h⊢;split at h
 ·exact hp _ _ h
 ·cases h⟩
def abG (n:Nat):Blk D Unit:=⟨fun _=> .cells [.own n],fun x=>match x with
 | .cells [.own k]=>if Nat.beq k n then some ()else none
 | _=>none⟩
instance aJb (n:Nat):jy S (abG (D:=D) n):=⟨fun x a h=>by
 simp only[abG]at h⊢;split at h
 ·split at h
  ·rename_i he;rw[Qa he];exact⟨.inl rfl,trivial⟩
  ·cases h
 ·cases h⟩
def aGj:Arg D Unit:=⟨fun _=> .lf (.val (.slice none 0 0)),fun x=>match x with
 | .lf (.val (.slice none 0 0))=>some ()
 | _=>none⟩
instance aI_:rY S (aGj (D:=D)):=⟨fun x a h=>by
 simp only[aGj]at h⊢;split at h
 ·exact .inl rfl
 ·cases h⟩
def afA (k:IntKind)(n:Int):Blk D Unit:=⟨fun _=> .cells [.int k n],fun x=>match x with
 | .cells [.int k' m]=>if Xx k' k && decide (m=n)then some ()else none
 | _=>none⟩
instance aJa (k:IntKind) (n:Int):jy S (afA (D:=D) k n):=⟨fun x a h=>by
 simp only[afA]at h⊢;split at h
 ·split at h
  ·rename_i k' m hc;simp only[jR,Qbn,Xx,Qc7]at hc;rw[hc.1,hc.2];exact⟨.inl rfl,trivial⟩
  ·cases h
 ·cases h⟩
def bFn (f:Nat)(caps:List Nat):Blk D Unit:=⟨fun _=> .cells [.fn f caps],fun x=>match x with
 | .cells [.fn f' af2]=>if Nat.beq f f' && PU caps af2 then some ()else none
 | _=>none⟩
instance aJQ (f:Nat) (caps:List Nat):jy S (bFn (D:=D) f caps):=⟨fun x a h=>by
 simp only[bFn]at h⊢;split at h
 ·split at h
  ·rename_i hc;simp only[jR]at hc;rw[<-Qa hc.1,<-KJ hc.2];exact⟨.inl rfl,trivial⟩
  ·cases h
 ·cases h⟩
end
end Go.Vc
namespace Go.Vc
theorem ax3 {P:Program}(h:P.funcs.any Func.goes=false)(f:FuncId):P.goes f=false:=by
 have key:∀g:Nat,(P.funcs[g]?).any Func.goes=false:=fun g=>by
  cases hg:P.funcs[g]? with
  | none=>rfl
  | some fn=>
   show fn.goes=false
   obtain⟨hi,he⟩:=Qco.1 hg;have:=Array.any_eq_false.1 h g hi;rw[he]at this;simpa using this
 unfold Program.goes;rw[h,Bool.and_false,Bool.or_false,Qcp];intro g _;simp[key g]
theorem an_ {P:Program}{c:OpenClaim}(h:P.funcs.any Func.goes=false)(hs:c.start= .entering):false=c.goesBy P:=by
 unfold OpenClaim.goesBy Program.goesAt Program.goesFrom;rw[hs];cases hf:P.funcNamed c.func with
 | none=>rfl
 | some f=>simp[ax3 h f]
end Go.Vc
