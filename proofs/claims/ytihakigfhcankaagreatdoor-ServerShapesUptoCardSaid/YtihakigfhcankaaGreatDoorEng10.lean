/- Own engine: Vdo, Vdq, Vdp. -/
import Derived.Test.YtihakigfhcankaaGreatDoorEng9
import Derived.ProofKit
import Derived.OpenShut
import Derived.Lib.SmallJoins
set_option linter.unusedVariables false
set_option linter.unusedSimpArgs false
namespace Go.Vc
open Go.RowKit
universe u
def lk {α:Type u}:List (Nat×α)->Nat->Option α
 | [],_=>none
 | (k,v)::r,n=>if Nat.beq n k then some v else lk r n
theorem Gz {α:Type u}:∀{l:List (Nat×α)} {k:Nat} {v:α},lk l k=some v->(k,v)∈l
 | [],_,_,h=>by simp[lk]at h
 | (k',v')::r,k,v,h=>by
  simp only[lk]at h;split at h
  ·rename_i hk;injection h with h
   subst h;rw[Qa hk];simp
  ·exact Qbz _ (Gz h)
abbrev Str:=List UInt8
structure jq (D α:Type) where
 n:Nat
 enc:α->List (Lf D)
 dec:List (Lf D)->Option α
class cZ {D α:Type} (S:Sh D) (c:jq D α):Prop where
 ok:∀xs a,c.dec xs=some a->V9 S xs (c.enc a)
 len:∀a,(c.enc a).length=c.n
 data:∀a x,x∈c.enc a->x.jJ=true
section
variable {D α β:Type}{S:Sh D}
theorem V9.app:∀{a b c d:List (Lf D)},V9 S a b->V9 S c d->V9 S (a++c) (b++d)
 | [],[],_,_,_,k=>k
 | x::xs,y::ys,_,_,h,k=>⟨h.1,h.2.1,V9.app h.2.2 k⟩
theorem V9.length:∀{a b:List (Lf D)},V9 S a b->a.length=b.length
 | [],[],_=>rfl
 | _::_,_::_,h=>by simp[V9.length h.2.2]
theorem V9.get:∀{a b:List (Lf D)},V9 S a b->∀(i:Nat) (y:Lf D),b[i]? =some y->∃x,a[i]? =some x/\x.Le S y
 | [],[],_,i,y,h=>by simp at h
 | x::xs,y::ys,h,0,z,hz=>by simp at hz;subst hz;exact⟨x,rfl,h.1⟩
 | x::xs,y::ys,h,i+1,z,hz=>by simpa using V9.get h.2.2 i z (by simpa using hz)
theorem Lf.Le.refl (x:Lf D):x.Le S x:= .inl rfl
theorem aym {x y:Lf D}(h:x.Le S y)(hd:x.jJ=true):y=x:=by
 rcases h with h | ⟨h,_⟩ | ⟨b,h,_⟩ | ⟨_,_,_,_,h,_⟩ | ⟨_,h,_⟩
 ·exact h.symm
 ·subst h;simp[Lf.jJ]at hd
 ·subst h;simp[Lf.jJ]at hd
 ·subst h;simp[Lf.jJ]at hd
 ·subst h;simp[Lf.jJ]at hd
def gz (k:IntKind):jq D Int:=⟨1,fun n=>[.int k n],fun xs=>match xs with
 | [.int k' n]=>if WB k k' then some n else none
 | _=>none⟩
def aG:jq D Bool:=⟨1,fun b=>[.bool b],fun xs=>match xs with
 | [.bool b]=>some b
 | [.val (.bool b)]=>some b
 | _=>none⟩
def cStr:jq D (List UInt8):=⟨1,fun s=>[.str s],fun xs=>match xs with
 | [.str s]=>some s
 | _=>none⟩
def qK (inj:α->D)(Nz:D->Option α)(nil:α):jq D α:=⟨1,fun a=>[.dat (inj a)],fun xs=>match xs with
 | [.dat d]=>Nz d
 | [.val v]=>if Bg v then some nil else none
 | [.xt e]=>(match e with
  | .clip d=>Nz d
  | _=>none)
 | _=>none⟩
def avK:jq D (Option mO):=⟨1,fun v=>[.Xb v],fun xs=>match xs with
 | [.Xb v]=>some v
 | [.xt (.ifd t ag ps)]=>(match OW ps with
  | some qs=>some (some ⟨t,ag,qs⟩)
  | none=>none)
 | _=>none⟩
def aik:jq D Unit:=⟨0,fun _=>[],fun xs=>match xs with
 | []=>some ()
 | _=>none⟩
def bQ (c:jq D α)(d:jq D β):jq D (α×β):=⟨c.n+d.n,fun p=>c.enc p.1++d.enc p.2,fun xs=>match c.dec (xs.take c.n),d.dec (xs.drop c.n)with
 | some a,some b=>some (a,b)
 | _,_=>none⟩
def ni (c:jq D α)(f:α->β)(g:β->α):jq D β:=⟨c.n,fun b=>c.enc (g b),fun xs=>match c.dec xs with
 | some a=>some (f a)
 | none=>none⟩
def uq (c:jq D α)(d:α)(l:List α):Nat->Nat->List (Lf D)
 | _,0=>[]
 | i,n+1=>c.enc (l.getD i d)++uq c d l (i+1) n
def TG (c:jq D α):Nat->List (Lf D)->Option (List α)
 | 0,[]=>some []
 | 0,_=>none
 | n+1,xs=>(match c.dec (xs.take c.n),TG c n (xs.drop c.n)with
  | some a,some l=>some (a::l)
  | _,_=>none)
def FT (n:Nat)(d:α)(c:jq D α):jq D (List α):=⟨n*c.n,fun l=>uq c d l 0 n,TG c n⟩
theorem RH {c:jq D α}(hc:cZ S c)(d:α)(l:List α):∀(n i:Nat),(uq c d l i n).length=n*c.n
 | 0,i=>by simp[uq]
 | n+1,i=>by rw[uq,pz,hc.len,RH hc d l n (i+1),Qc3];omega
theorem NE {c:jq D α}(hc:cZ S c)(d:α)(l:List α):∀(n i:Nat) (x:Lf D),x∈uq c d l i n->x.jJ=true
 | 0,i,x,h=>by simp[uq]at h
 | n+1,i,x,h=>by
  simp only[uq,tY]at h;rcases h with h | h
  ·exact hc.data _ _ h
  ·exact NE hc d l n (i+1) x h
theorem Jc (c:jq D α)(d a:α)(l:List α):∀(n i:Nat),uq c d (a::l) (i+1) n=uq c d l i n
 | 0,i=>rfl
 | n+1,i=>by simp only[uq,Qea,Jc c d a l n (i+1)]
theorem XR {c:jq D α}(hc:cZ S c)(d:α):∀(n:Nat) (xs:List (Lf D)) (l:List α),TG c n xs=some l->V9 S xs (uq c d l 0 n)
 | 0,xs,l,h=>by
  cases xs with
  | nil=>trivial
  | cons x xs=>simp[TG]at h
 | n+1,xs,l,h=>by
  unfold TG at h;split at h
  ·rename_i a l' h1 h2;injection h with h
   subst h;have:=V9.app (hc.ok _ _ h1) (XR hc d n _ _ h2);rw[Qcq]at this;simp only[uq,Qeb];rw[BZ,Jc c d a l' n 0];exact this
  ·cases h
theorem ax2 {n:Nat}{d:α}{c:jq D α}(hc:cZ S c):cZ S (FT n d c):=
 ⟨fun xs l h=>XR hc d n xs l h,fun l=>RH hc d l n 0,fun l x hx=>NE hc d l n 0 x hx⟩
theorem yg (k:IntKind):cZ S (gz (D:=D) k):=by
 refine⟨fun xs a h=> ?_,fun _=>rfl,fun a x hx=> ?_⟩
 ·simp only[gz]at h;split at h
  ·split at h
   ·rename_i hk;injection h with h
    subst h;simp only[WB,Qc6]at hk;subst hk;exact⟨.inl rfl,rfl,trivial⟩
   ·cases h
  ·cases h
 ·simp[gz]at hx;subst hx;rfl
theorem Vx:cZ S (aG (D:=D)):=by
 refine⟨fun xs a h=> ?_,fun _=>rfl,fun a x hx=> ?_⟩
 ·simp only[aG]at h;split at h
  ·injection h with h;subst h;exact⟨.inl rfl,rfl,trivial⟩
  ·injection h with h;subst h;exact⟨.inr (.inr (.inl ⟨_,rfl,rfl⟩)),rfl,trivial⟩
  ·cases h
 ·simp[aG]at hx;subst hx;rfl
theorem aaL:cZ S (cStr (D:=D)):=by
 refine⟨fun xs a h=> ?_,fun _=>rfl,fun a x hx=> ?_⟩
 ·simp only[cStr]at h;split at h
  ·injection h with h;subst h;exact⟨.inl rfl,rfl,trivial⟩
  ·cases h
 ·simp[cStr]at hx;subst hx;rfl
theorem awL:cZ S (avK (D:=D)):=by
 refine⟨fun xs a h=> ?_,fun _=>rfl,fun a x hx=> ?_⟩
 ·simp only[avK]at h;split at h
  ·injection h with h;subst h;exact⟨.inl rfl,rfl,trivial⟩
  ·split at h
   ·rename_i qs hq;injection h with h;subst h;exact⟨.inr (.inr (.inr (.inl ⟨_,_,_,_,rfl,rfl,hq⟩))),rfl,trivial⟩
   ·cases h
  ·cases h
 ·simp[avK]at hx;subst hx;rfl
theorem iZ {inj:α->D}{Nz:D->Option α}{nil:α}(hp:∀d a,Nz d=some a->d=inj a)(hn:S.len (inj nil)=0)(hno:S.mp (inj nil)=none:=by rfl):cZ S (qK inj Nz nil):=by
 refine⟨fun xs a h=> ?_,fun _=>rfl,fun a x hx=> ?_⟩
 ·simp only[qK]at h;split at h
  ·rw[hp _ _ h];exact⟨.inl rfl,rfl,trivial⟩
  ·split at h
   ·rename_i hv;injection h with h
    subst h;rw[acN hv];exact⟨.inr (.inl ⟨rfl,_,rfl,hn,hno⟩),rfl,trivial⟩
   ·cases h
  ·split at h
   ·rw[hp _ _ h];exact⟨.inr (.inr (.inr (.inr ⟨_,rfl,rfl⟩))),rfl,trivial⟩
   ·cases h
  ·cases h
 ·simp[qK]at hx;subst hx;rfl
theorem JR:cZ S (aik (D:=D)):=by
 refine⟨fun xs a h=> ?_,fun _=>rfl,fun a x hx=> ?_⟩
 ·simp only[aik]at h;split at h
  ·trivial
  ·cases h
 ·simp[aik]at hx
theorem ao6 {c:jq D α}{d:jq D β}(hc:cZ S c)(hd:cZ S d):cZ S (bQ c d):=by
 refine⟨fun xs a h=> ?_,fun a=>by simp[bQ,hc.len,hd.len],fun a x hx=> ?_⟩
 ·simp only[bQ]at h;split at h
  ·rename_i a b h1 h2;injection h with h
   subst h;have:=V9.app (hc.ok _ _ h1) (hd.ok _ _ h2);rwa [Qcq]at this
  ·cases h
 ·simp only[bQ,tY]at hx;rcases hx with hx | hx
  ·exact hc.data _ _ hx
  ·exact hd.data _ _ hx
theorem gm {c:jq D α}{f:α->β}{g:β->α}(hc:cZ S c)(hg:∀a,g (f a)=a):cZ S (ni c f g):=by
 refine⟨fun xs a h=> ?_,fun a=>hc.len _,fun a x hx=>hc.data _ _ hx⟩;simp only[ni]at h;split at h
 ·rename_i a' h1;injection h with h
  subst h;simp only[ni,hg];exact hc.ok _ _ h1
 ·cases h
structure Nw (D α:Type) where
 enc:α->List (List (Lf D))
 dec:List (List (Lf D))->Option α
class xq (S:Sh D) (c:Nw D α):Prop where
 ok:∀xs a,c.dec xs=some a->agd S xs (c.enc a)
def l0:Nw D Unit:=⟨fun _=>[],fun xs=>match xs with
 | []=>some ()
 | _=>none⟩
def l1 (c:jq D α):Nw D α:=⟨fun a=>[c.enc a],fun xs=>match xs with
 | [x]=>c.dec x
 | _=>none⟩
def az (c:jq D α)(r:Nw D β):Nw D (α×β):=⟨fun p=>c.enc p.1::r.enc p.2,fun xs=>match xs with
 | x::xs=>(match c.dec x,r.dec xs with
  | some a,some b=>some (a,b)
  | _,_=>none)
 | _=>none⟩
theorem aED:xq S (l0 (D:=D)):=⟨fun xs a h=>by
 simp only[l0]at h;split at h
 ·trivial
 ·cases h⟩
theorem aG0 {c:jq D α}(hc:cZ S c):xq S (l1 c):=⟨fun xs a h=>by
 simp only[l1]at h;split at h
 ·exact⟨hc.ok _ _ h,trivial⟩
 ·cases h⟩
theorem aoe {c:jq D α}{r:Nw D β}(hc:cZ S c)(hr:xq S r):xq S (az c r):=⟨fun xs a h=>by
 simp only[az]at h;split at h
 ·split at h
  ·rename_i a b h1 h2;injection h with h
   subst h;exact⟨hc.ok _ _ h1,hr.ok _ _ h2⟩
  ·cases h
 ·cases h⟩
def bP (is:(Nat->Sl D)->List It)(c:Nw D α):FU D:=⟨α,is,c.enc,c.dec⟩
def shr (is:List It)(c:Nw D α):FU D:=⟨α,fun _=>is,c.enc,c.dec⟩
theorem aDD {is:(Nat->Sl D)->List It}{c:Nw D α}(hc:xq S c):qN S (bP is c):=⟨hc.ok⟩
theorem aDA {is:List It}{c:Nw D α}(hc:xq S c):qN S (shr is c):=⟨hc.ok⟩
structure xI (D α:Type) where
 enc:α->List (Sl D)
 dec:List (Sl D)->Option α
class mY (S:Sh D) (k:outParam Nat) (c:xI D α):Prop where
 ok:∀xs a,c.dec xs=some a->Y4 S xs (c.enc a)
 len:∀a,(c.enc a).length=k
structure Ig (D α:Type) where
 enc:α->List (Bk D)
 dec:List (Bk D)->Option α
class tq (S:Sh D) (k:outParam Nat) (c:Ig D α):Prop where
 ok:∀xs a,c.dec xs=some a->Gt S xs (c.enc a)
 len:∀a,(c.enc a).length=k
structure Arg (D α:Type) where
 enc:α->Sv D
 dec:Sv D->Option α
class sZ (S:Sh D) (c:Arg D α):Prop where
 ok:∀x a,c.dec x=some a->auo S x (c.enc a)
def lf0:List (Lf D)->Lf D
 | [x]=>x
 | _=> .any
def bn (c:jq D α):Arg D α:=⟨fun a=> .lf (lf0 (c.enc a)),fun x=>match x with
 | .lf x=>c.dec [x]
 | _=>none⟩
def aF (c:jq D α):Arg D α:=⟨fun a=> .agg (c.enc a),fun x=>match x with
 | .agg xs=>c.dec xs
 | _=>none⟩
def iM (l:Nat):Arg D Unit:=⟨fun _=> .lf (.ptr l 0),fun x=>match x with
 | .lf (.ptr l' o)=>if Nat.beq l l' && Nat.beq o 0 then some ()else none
 | _=>none⟩
def ng (l:Nat):Arg D Unit:=⟨fun _=> .lf (.own l),fun x=>match x with
 | .lf (.own l')=>if Nat.beq l l' then some ()else none
 | _=>none⟩
def aER (l sz:Nat):Arg D Nat:=⟨fun i=> .lf (.opt l i 0 sz),fun x=>match x with
 | .lf (.opt l' i j sz')=>if Nat.beq l l' && Nat.beq j 0 && Nat.beq sz sz' then some i else none
 | _=>none⟩
def NM:List Nat->List Nat->Bool
 | [],[]=>true
 | x::xs,y::ys=>Nat.beq x y && NM xs ys
 | _,_=>false
theorem J8:∀{xs ys:List Nat},NM xs ys=true->xs=ys
 | [],[],_=>rfl
 | x::xs,y::ys,h=>by
  simp only[NM,jY]at h;rw[Qa h.1,J8 h.2]
 | [],_::_,h=>by simp[NM]at h
 | _::_,[],h=>by simp[NM]at h
def kJ (f:Nat)(caps:List Nat):Arg D Unit:=⟨fun _=> .lf (.fn f caps),fun x=>match x with
 | .lf (.fn f' ae1)=>if Nat.beq f f' && NM caps ae1 then some ()else none
 | _=>none⟩
def aCH (f:Nat)(caps:List Nat):Arg D Unit:=⟨fun _=> .agg [.fn f caps],fun x=>match x with
 | .agg [.fn f' ae1]=>if Nat.beq f f' && NM caps ae1 then some ()else none
 | _=>none⟩
theorem BB {c:jq D α}(hc:cZ S c):sZ S (bn c):=⟨fun x a h=>by
 simp only[bn]at h⊢;split at h
 ·have:=hc.ok _ _ h;generalize c.enc a=ys at this;cases ys with
  | nil=>exact this.elim
  | cons y ys=>
   cases ys with
   | cons _ _=>exact this.2.2.elim
   | nil=>exact this.1
 ·cases h⟩
theorem V9.les:∀{a b:List (Lf D)},V9 S a b->KR S a b
 | [],[],_=>trivial
 | _::_,_::_,h=>⟨h.1,V9.les h.2.2⟩
theorem abQ {c:jq D α}(hc:cZ S c):sZ S (aF c):=⟨fun x a h=>by
 simp only[aF]at h⊢;split at h
 ·exact(hc.ok _ _ h).les
 ·cases h⟩
theorem I_ (l:Nat):sZ S (iM (D:=D) l):=⟨fun x a h=>by
 simp only[iM]at h⊢;split at h
 ·split at h
  ·rename_i hc;simp only[jY]at hc;rw[<-Qa hc.1,Qa hc.2];exact .inl rfl
  ·cases h
 ·cases h⟩
theorem awg (l:Nat):sZ S (ng (D:=D) l):=⟨fun x a h=>by
 simp only[ng]at h⊢;split at h
 ·split at h
  ·rename_i hc;rw[<-Qa hc];exact .inl rfl
  ·cases h
 ·cases h⟩
theorem avJ (l sz:Nat):sZ S (aER (D:=D) l sz):=⟨fun x a h=>by
 simp only[aER]at h⊢;split at h
 ·split at h
  ·rename_i hc;simp only[jY]at hc;injection h with h
   subst h;rw[<-Qa hc.1.1,Qa hc.1.2,<-Qa hc.2];exact .inl rfl
  ·cases h
 ·cases h⟩
def anZ (l sz:Nat):Arg D Unit:=⟨fun _=> .lf (.opt l 0 0 sz),fun x=>match x with
 | .lf (.opt l' i j sz')=>if Nat.beq l l' && (Nat.beq i 0 && (Nat.beq j 0 && Nat.beq sz sz'))then some ()else none
 | _=>none⟩
theorem au9 (l sz:Nat):sZ S (anZ (D:=D) l sz):=⟨fun x a h=>by
 simp only[anZ]at h⊢;split at h
 ·split at h
  ·rename_i hc;simp only[jY]at hc;rw[<-Qa hc.1,Qa hc.2.1,Qa hc.2.2.1,<-Qa hc.2.2.2];exact .inl rfl
  ·cases h
 ·cases h⟩
theorem aCT (f:Nat)(caps:List Nat):sZ S (kJ (D:=D) f caps):=⟨fun x a h=>by
 simp only[kJ]at h⊢;split at h
 ·split at h
  ·rename_i hc;simp only[jY]at hc;rw[<-Qa hc.1,<-J8 hc.2];exact .inl rfl
  ·cases h
 ·cases h⟩
theorem awW (f:Nat)(caps:List Nat):sZ S (aCH (D:=D) f caps):=⟨fun x a h=>by
 simp only[aCH]at h⊢;split at h
 ·split at h
  ·rename_i hc;simp only[jY]at hc;rw[<-Qa hc.1,<-J8 hc.2];exact⟨.inl rfl,trivial⟩
  ·cases h
 ·cases h⟩
def a0:xI D Unit:=⟨fun _=>[],fun xs=>match xs with
 | []=>some ()
 | _=>none⟩
def a1 (c:Arg D α):xI D α:=⟨fun a=>[.one (c.enc a)],fun xs=>match xs with
 | [.one x]=>c.dec x
 | _=>none⟩
def aj (c:Arg D α)(r:xI D β):xI D (α×β):=⟨fun p=> .one (c.enc p.1)::r.enc p.2,fun xs=>match xs with
 | .one x::xs=>(match c.dec x,r.dec xs with
  | some a,some b=>some (a,b)
  | _,_=>none)
 | _=>none⟩
theorem aF7:mY S 0 (a0 (D:=D)):=by
 refine⟨fun xs a h=> ?_,fun _=>rfl⟩;simp only[a0]at h;split at h
 ·trivial
 ·cases h
theorem ad3 {c:Arg D α}(hc:sZ S c):mY S 1 (a1 c):=by
 refine⟨fun xs a h=> ?_,fun _=>rfl⟩;simp only[a1]at h;split at h
 ·exact⟨hc.ok _ _ h,trivial⟩
 ·cases h
theorem pM {c:Arg D α}{r:xI D β}{k:Nat}(hc:sZ S c)(hr:mY S k r):mY S (k+1) (aj c r):=by
 refine⟨fun xs a h=> ?_,fun a=>by simp[aj,hr.len]⟩;simp only[aj]at h;split at h
 ·split at h
  ·rename_i a b h1 h2;injection h with h
   subst h;exact⟨hc.ok _ _ h1,hr.ok _ _ h2⟩
  ·cases h
 ·cases h
structure Blk (D α:Type) where
 enc:α->Bk D
 dec:Bk D->Option α
class tu (S:Sh D) (c:Blk D α):Prop where
 ok:∀x a,c.dec x=some a->ab3 S x (c.enc a)
def aP (c:jq D α):Blk D α:=⟨fun a=> .cells (c.enc a),fun x=>match x with
 | .cells xs=>c.dec xs
 | _=>none⟩
def j_ (e:TypeId)(inj:α->D)(Nz:D->Option α):Blk D α:=⟨fun a=> .row e (inj a),fun x=>match x with
 | .row e' d=>if Nat.beq e e' then Nz d else none
 | _=>none⟩
theorem ang {c:jq D α}(hc:cZ S c):tu S (aP c):=⟨fun x a h=>by
 simp only[aP]at h⊢;split at h
 ·exact(hc.ok _ _ h).les
 ·cases h⟩
theorem BN {e:TypeId}{inj:α->D}{Nz:D->Option α}(hp:∀d a,Nz d=some a->d=inj a):tu S (j_ e inj Nz):=⟨fun x a h=>by
 simp only[j_]at h⊢;split at h
 ·split at h
  ·rename_i he;exact⟨(Qa he).symm,hp _ _ h⟩
  ·cases h
 ·cases h⟩
def b1 (c:Blk D α):Ig D α:=⟨fun a=>[c.enc a],fun xs=>match xs with
 | [x]=>c.dec x
 | _=>none⟩
def iC (c:Blk D α)(r:Ig D β):Ig D (α×β):=⟨fun p=>c.enc p.1::r.enc p.2,fun xs=>match xs with
 | x::xs=>(match c.dec x,r.dec xs with
  | some a,some b=>some (a,b)
  | _,_=>none)
 | _=>none⟩
theorem aGd {c:Blk D α}(hc:tu S c):tq S 1 (b1 c):=by
 refine⟨fun xs a h=> ?_,fun _=>rfl⟩;simp only[b1]at h;split at h
 ·exact⟨hc.ok _ _ h,trivial⟩
 ·cases h
theorem aqM {c:Blk D α}{r:Ig D β}{k:Nat}(hc:tu S c)(hr:tq S k r):tq S (k+1) (iC c r):=by
 refine⟨fun xs a h=> ?_,fun a=>by simp[iC,hr.len]⟩;simp only[iC]at h;split at h
 ·split at h
  ·rename_i a b h1 h2;injection h with h
   subst h;exact⟨hc.ok _ _ h1,hr.ok _ _ h2⟩
  ·cases h
 ·cases h
def yH:List (Option TypeId)->List (Lf D)->Nat->List (Bk D)->Option (List (Lf D))
 | [],[],_,[]=>some []
 | none::fs,x::xs,n,rows=>(match yH fs xs n rows with
  | some ys=>some (x::ys)
  | none=>none)
 | some e::fs, .own k::xs,n, .row e' d::rows=>if Nat.beq k n && Nat.beq e e' then(match yH fs xs (n+1) rows with
  | some ys=>some (.dat d::ys)
  | none=>none)else none
 | _,_,_,_=>none
def afr (n:Nat)(fs:List (Option TypeId))(c:jq D α):Ig D α:=⟨fun a=> .cells (lL fs (c.enc a) n).1::(lL fs (c.enc a) n).2.1.map (·.2),fun bs=>match bs with
 | .cells xs::rows=>(match yH fs xs n rows with
  | some ys=>c.dec ys
  | none=>none)
 | _=>none⟩
theorem TI:∀(fs:List (Option TypeId)) (xs ys zs:List (Lf D)) (n:Nat) (rows:List (Bk D)),yH fs xs n rows=some ys->V9 S ys zs->KR S xs (lL fs zs n).1/\Gt S rows ((lL fs zs n).2.1.map (·.2))
 | [],[],ys,zs,n,rows,h,hl=>by
  cases rows with
  | cons _ _=>simp[yH]at h
  | nil=>
   simp only[yH,KZ]at h;subst h;cases zs with
   | cons _ _=>exact hl.elim
   | nil=>exact⟨trivial,trivial⟩
 | [],x::xs,ys,zs,n,rows,h,hl=>by simp[yH]at h
 | none::fs,[],ys,zs,n,rows,h,hl=>by simp[yH]at h
 | none::fs,x::xs,ys,zs,n,rows,h,hl=>by
  simp only[yH]at h;split at h
  ·rename_i ys' h';injection h with h
   subst h;cases zs with
   | nil=>exact hl.elim
   | cons z zs=>
    obtain⟨h1,h2⟩:=TI fs xs ys' zs n rows h' hl.2.2;exact⟨⟨hl.1,h1⟩,h2⟩
  ·cases h
 | some e::fs,[],ys,zs,n,rows,h,hl=>by simp[yH]at h
 | some e::fs,x::xs,ys,zs,n,rows,h,hl=>by
  cases rows with
  | nil=>cases x<;>simp[yH]at h
  | cons r rows=>
   cases x with
   | own k=>
    cases r with
    | row e' d=>
     simp only[yH]at h;split at h
     ·rename_i hc;simp only[jY]at hc;have hk:=Qa hc.1;have he:=Qa hc.2;subst hk he;split at h
      ·rename_i ys' h';injection h with h
       subst h;cases zs with
       | nil=>exact hl.elim
       | cons z zs=>
        have:=A_ hl.1;subst this;obtain⟨h1,h2⟩:=TI fs xs ys' zs (k+1) rows h' hl.2.2;exact⟨⟨.inl rfl,h1⟩,⟨rfl,rfl⟩,h2⟩
      ·cases h
     ·cases h
    | _=>simp[yH]at h
   | _=>simp[yH]at h
theorem PM {n k:Nat}{fs:List (Option TypeId)}{c:jq D α}(hc:cZ S c)(hk:∀a,(lL fs (c.enc a) n).2.1.length=k):tq S (k+1) (afr n fs c):=by
 refine⟨fun xs a h=> ?_,fun a=>by simp[afr,hk]⟩;simp only[afr]at h;split at h
 ·split at h
  ·rename_i ys hy;exact TI fs _ ys _ n _ hy (hc.ok _ _ h)
  ·cases h
 ·cases h
def args (c:xI D α):vJ D:=⟨α,fun a=>(c.enc a,[]),fun xs bs=>match bs with
 | []=>c.dec xs
 | _=>none⟩
def kz (c:xI D α)(b:Ig D β):vJ D:=⟨α×β,fun p=>(c.enc p.1,b.enc p.2),fun xs bs=>match c.dec xs,b.dec bs with
 | some a,some b=>some (a,b)
 | _,_=>none⟩
theorem avy {c:xI D α}{k n:Nat}(hc:mY S k c)(hk:Nat.ble k n=true):OY S (args c) 0 n:=by
 refine⟨fun xs bs a h=> ?_,fun _=>rfl,fun(a:α)=>(hc.len a).symm▸Qa2 hk⟩;simp only[args]at h;split at h
 ·exact⟨hc.ok _ _ h,trivial⟩
 ·cases h
theorem DK {c:xI D α}{b:Ig D β}{k m n:Nat}(hc:mY S k c)(hb:tq S m b)(hk:Nat.ble k n=true):OY S (kz c b) m n:=by
 refine⟨fun xs bs a h=> ?_,fun a=>hb.len _,fun(a:α×β)=>(hc.len a.1).symm▸Qa2 hk⟩;simp only[kz]at h;split at h
 ·rename_i a b h1 h2;injection h with h
  subst h;exact⟨hc.ok _ _ h1,hb.ok _ _ h2⟩
 ·cases h
structure El (D:Type):Type 1 where
 α:Type
 O1:jq D α
 dflt:α
 inj:List α->D
 Nz:D->Option (List α)
def FN (c:jq D α):Nat->List (Lf D)->Option (List α)
 | 0,[]=>some []
 | 0,_::_=>none
 | n+1,cs=>(match c.dec (cs.take c.n),FN c n (cs.drop c.n)with
  | some a,some l=>some (a::l)
  | _,_=>none)
abbrev Vw (D:Type):=(E:El D)×List E.α
def Vw.size (p:Vw D):Nat:=p.1.O1.n
def Vw.len (p:Vw D):Nat:=p.2.length
def Vw.cell (p:Vw D)(i j:Nat):Lf D:=(p.1.O1.enc (p.2.getD i p.1.dflt)).getD j .any
def Vw.set (p:Vw D)(i j:Nat)(xs:List (Lf D)):Option D:=match p.1.O1.dec (putAt (p.1.O1.enc (p.2.getD i p.1.dflt)) j xs)with
 | some a=>some (p.1.inj (p.2.set i a))
 | none=>none
def Vw.cat (p:Vw D)(d:D):Option D:=match p.1.Nz d with
 | some l=>some (p.1.inj (p.2++l))
 | none=>none
def Vw.sub (p:Vw D)(i j:Nat):Option D:=some (p.1.inj ((p.2.take j).drop i))
def uf (view:D->Vw D)(oH:TypeId->Option (El D))(Po:Nat->Option D:=fun _=>none)(txt:TypeId->List UInt8->Option D:=fun _ _=>none)(Am:D->Option (Mp D):=fun _=>none)(Gl:TypeId->Option D:=fun _=>none):Sh D where
 mp:=Am
 auH:=Gl
 Po:=Po
 text:=txt
 size d:=(view d).size
 len d:=(view d).len
 cell d i j:=(view d).cell i j
 make e n cs:=match oH e with
  | none=>none
  | some E=>(match FN E.O1 n cs with
   | some l=>some (E.inj l)
   | none=>none)
 zero e n zs:=match oH e with
  | none=>none
  | some E=>(match E.O1.dec zs with
   | some z=>some (E.inj (List.replicate n z))
   | none=>none)
 set d i j xs:=(view d).set i j xs
 cat d1 d2:=(view d1).cat d2
 sub d i j:=match Am d with
  | none=>(view d).sub i j
  | some _=>none
def Vp (s:List UInt8):List Int:=s.map fun b=>(b.toNat:Int)
theorem asR (s:List UInt8)(i:Nat):(Vp s).getD i 0=((s.getD i 0).toNat:Int):=by
 unfold Vp;by_cases h:i < s.length
 ·simp[List.getD,Qbb,h]
 ·simp[List.getD,Qbb,Qc (by omega:s.length<=i)]
abbrev aqy (n:Nat)(x:Int):List Int:=List.replicate n x
def txU (l:List Int):List UInt8:=(List.range l.length).map fun i=>UInt8.ofNat (l.getD i 0).toNat
theorem aCl (l:List Int):txU l=l.map fun n=>UInt8.ofNat n.toNat:=by
 unfold txU;refine List.ext_getElem? fun i=> ?_;by_cases h:i < l.length
 ·simp[Qbb,Qec h,List.getD,h]
 ·rw[Qc qbo,Qc qbo]
@[simp] theorem aHH:txU []=[]:=rfl
def Dq (l:List Int)(i:Nat):Bool:=decide (0<=l.getD i 0) && decide (l.getD i 0 < 256)
theorem TT {a b:List Int}(ha:∀i,Dq a i=true)(hb:∀i,Dq b i=true)(i:Nat):Dq (a++b) i=true:=by
 unfold Dq at*;by_cases h:i < a.length
 ·have:=ha i;rw[show(a++b).getD i 0=a.getD i 0 by simp[List.getD,Qa9 h]];exact this
 ·have:=hb (i - a.length);rw[show(a++b).getD i 0=b.getD (i - a.length) 0 by simp[List.getD,Qa6 (by omega:a.length<=i)]];exact this
theorem G8 (s:List UInt8)(i:Nat):Dq (Vp s) i=true:=by
 unfold Dq;rw[asR];have:=(s.getD i 0).toNat_lt;rw[jY,Qbj,Qbj];omega
theorem EU (l:List Int):(txU l).length=l.length:=by simp[aCl]
theorem yE (s:List UInt8):(Vp s).length=s.length:=by simp[Vp]
theorem ww {f:Nat->Bool}(h:∀i,f i=true):∀n,HY f n=true
 | 0=>rfl
 | n+1=>by simp[HY,h n,ww h n]
structure auq (S:Sh D)(view:D->Vw D)(oH:TypeId->Option (El D)):Prop where
 el:∀e E,oH e=some E->∀l,view (E.inj l)=⟨E,l⟩
 vw:∀d l,view ((view d).1.inj l)=⟨(view d).1,l⟩
 Nz:∀d d2 l2,(view d).1.Nz d2=some l2->view d2=⟨(view d).1,l2⟩
 O1:∀d,cZ S (view d).1.O1
theorem J7 {c:jq D α}(hc:cZ S c):∀(n:Nat) (cs:List (Lf D)) (l:List α),FN c n cs=some l->l.length=n/\cs.length=n*c.n/\∀(i j:Nat) (dflt:α),i < n->j < c.n->∃x,cs[i*c.n+j]? =some x/\x.Le S ((c.enc (l.getD i dflt)).getD j .any)
 | 0,[],l,h=>by
  injection h with h
  subst h;exact⟨rfl,by simp,fun i j _ hi=>by omega⟩
 | 0,_::_,l,h=>by simp[FN]at h
 | n+1,cs,l,h=>by
  unfold FN at h;split at h
  ·rename_i a l' h1 h2;injection h with h
   subst h;obtain⟨q1,q2,q3⟩:=J7 hc n _ l' h2;have hle:=hc.ok _ _ h1;have hl1:=hle.length;rw[hc.len]at hl1;have hlen:c.n<=cs.length:=by simp at hl1;omega
   refine⟨by simp[q1],?_,fun i j dflt hi hj=> ?_⟩
   ·simp at q2;rw[Qc3];omega
   ·cases i with
    | zero=>
     have hy:(c.enc a)[j]? =some ((c.enc a).getD j .any):=by
      have:j < (c.enc a).length:=by rw[hc.len];exact hj
      simp[List.getD,this]
     obtain⟨x,hx,hxl⟩:=hle.get j _ hy;refine⟨x,?_,by simpa using hxl⟩;rw[LD,Qb hj]at hx;simpa using hx
    | succ i=>
     obtain⟨x,hx,hxl⟩:=q3 i j dflt au hj;refine⟨x,?_,by simpa using hxl⟩;rw[Qbk]at hx;rw[Qc3,<-hx];congr 1;omega
  ·cases h
theorem getD_some {l:List α}{i:Nat}{d:α}(h:i < l.length):l.getD i d=l[i]:=by simp[List.getD,h]
structure aum (S:Sh D)(view:D->Vw D)(oH:TypeId->Option (El D))(gl:Nat->Option D)(txt:TypeId->List UInt8->Option D)(Am:D->Option (Mp D))(Gl:TypeId->Option D):Prop where
 inj:∀d l,Am ((view d).1.inj l)=none
 el:∀e E,oH e=some E->∀l,Am (E.inj l)=none
 txt:∀e s d,txt e s=some d->Am d=none
 Po:∀i d,gl i=some d->Am d=none
 size:∀d m,Am d=some m->(view d).len=0/\(view d).size=0/\ayD S m
 new:∀t d,Gl t=some d->∃m,Am d=some m/\m.kvs=[]
theorem aqj {view:D->Vw D}{oH:TypeId->Option (El D)}{gl:Nat->Option D}{txt:TypeId->List UInt8->Option D}{Am:D->Option (Mp D)}{Gl:TypeId->Option D}(h:auq (uf view oH gl txt Am Gl) view oH)
  (ht:∀e s d,txt e s=some d->(uf view oH gl txt Am Gl).size d=1/\(uf view oH gl txt Am Gl).len d=s.length/\∀i,i < s.length->(uf view oH gl txt Am Gl).cell d i 0= .int .u8 (s.getD i 0).toNat) (hM:aum (uf view oH gl txt Am Gl) view oH gl txt Am Gl):jd (uf view oH gl txt Am Gl):=by
 have htx:∀e s d,(uf view oH gl txt Am Gl).text e s=some d->(uf view oH gl txt Am Gl).size d=1/\(uf view oH gl txt Am Gl).len d=s.length/\∀i,i < s.length->(uf view oH gl txt Am Gl).cell d i 0= .int .u8 (s.getD i 0).toNat:=ht;clear ht;have hsz:∀d,(uf view oH gl txt Am Gl).size d=(view d).size:=fun _=>rfl
 have hln:∀d,(uf view oH gl txt Am Gl).len d=(view d).len:=fun _=>rfl
 have hcl:∀d i j,(uf view oH gl txt Am Gl).cell d i j=(view d).cell i j:=fun _ _ _=>rfl
 have hset:∀d i j xs,(uf view oH gl txt Am Gl).set d i j xs=(view d).set i j xs:=fun _ _ _ _=>rfl
 have FV:∀d d',(uf view oH gl txt Am Gl).cat d d'=(view d).cat d':=fun _ _=>rfl
 have hsub:∀d i j d',(uf view oH gl txt Am Gl).sub d i j=some d'->(view d).sub i j=some d'/\Am d=none:=by
  intro d i j d' hd;simp only[uf]at hd;split at hd
  ·exact⟨hd,‹_›⟩
  ·cases hd
 have hmp:∀d,(uf view oH gl txt Am Gl).mp d=Am d:=fun _=>rfl
 have hnw:∀t,(uf view oH gl txt Am Gl).auH t=Gl t:=fun _=>rfl
 have hgl:∀t,(uf view oH gl txt Am Gl).Po t=gl t:=fun _=>rfl
 have htt:∀e s,(uf view oH gl txt Am Gl).text e s=txt e s:=fun _ _=>rfl
 have hmk:∀e n cs d,(uf view oH gl txt Am Gl).make e n cs=some d->∃E l,oH e=some E/\FN E.O1 n cs=some l/\E.inj l=d:=by
  intro e n cs d hm;simp only[uf]at hm;split at hm
  ·cases hm
  rename_i E hE;split at hm
  ·rename_i l hl;injection hm with hm
   exact⟨E,l,hE,hl,hm⟩
  ·cases hm
 have hzr:∀e n zs d,(uf view oH gl txt Am Gl).zero e n zs=some d->∃E z,oH e=some E/\E.O1.dec zs=some z/\E.inj (List.replicate n z)=d:=by
  intro e n zs d hm;simp only[uf]at hm;split at hm
  ·cases hm
  rename_i E hE;split at hm
  ·rename_i z hz;injection hm with hm
   exact⟨E,z,hE,hz,hm⟩
  ·cases hm
 generalize uf view oH gl txt Am Gl=S at*;refine⟨fun e n cs d hm=> ?_,fun d i j hi hj=> ?_,fun e n zs d hm=> ?_,fun d i j xs d' hm hi=> ?_,fun d1 d2 d hm=> ?_,fun d i j d' hm hij hj=> ?_,htx,
  fun e n cs d hm=> ?_,fun e n zs d hm=> ?_,fun d i j xs d' hm _=> ?_,fun d1 d2 d hm=> ?_,fun d i j d' hm=> ?_,fun e s d hm=> ?_,fun d m hm=> ?_,fun t d hd=> ?_,fun i d hd=> ?_⟩
 ·obtain⟨E,l,hE,hl,rfl⟩:=hmk e n cs d hm;have hv:=h.el e E hE l;have ab7:=h.O1 (E.inj l);rw[hv]at ab7;obtain⟨q1,q2,q3⟩:=J7 ab7 n cs l hl;simp only[hsz,hln,hcl,hv];exact⟨q1,q2,fun i j hi hj=>q3 i j _ hi hj⟩
 ·rw[hcl];unfold Vw.cell;rw[hsz]at hj;have hc:=h.O1 d;have hlt:j < ((view d).1.O1.enc ((view d).2.getD i (view d).1.dflt)).length:=by rw[hc.len];exact hj
  rw[getD_some hlt];exact hc.data _ _ (List.getElem_mem hlt)
 ·obtain⟨E,z,hE,hz,rfl⟩:=hzr e n zs d hm;have hv:=h.el e E hE (List.replicate n z);have ab7:=h.O1 (E.inj (List.replicate n z));rw[hv]at ab7;have ab7:cZ S E.O1:=ab7;have hle:=ab7.ok _ _ hz;simp only[hsz,hln,hcl,hv];refine⟨by simp[Vw.len],by rw[hle.length,ab7.len];rfl,fun i j hi hj=> ?_⟩;have hj:j < E.O1.n:=hj;have hrep:(List.replicate n z).getD i E.dflt=z:=by
   rw[getD_some qcm];simp
  show ∃x,zs[j]? =some x/\x.Le S ((E.O1.enc ((List.replicate n z).getD i E.dflt)).getD j .any)
  rw[hrep];exact hle.get j _ (by
   have:j < (E.O1.enc z).length:=by rw[ab7.len];exact hj
   rw[getD_some this];simp[this])
 ·rw[hset]at hm;unfold Vw.set at hm;split at hm
  ·rename_i a ha;injection hm with hm
   subst hm;have hc:=h.O1 d;have hv:=h.vw d ((view d).2.set i a);have hle:=hc.ok _ _ ha;rw[hln]at hi;have hi:i < (view d).2.length:=hi;simp only[hsz,hln,hcl,hv];refine⟨rfl,by simp[Vw.len],fun i' j' hi' hj'=> ?_⟩;simp only[Vw.cell];have hj':j' < (view d).1.O1.n:=hj';have hi':i' < (view d).2.length:=hi';have hla:j' < ((view d).1.O1.enc a).length:=by rw[hc.len];exact hj'
   have hl0:((view d).1.O1.enc ((view d).2.getD i (view d).1.dflt)).length=(view d).1.O1.n:=hc.len _;have Y6:=hle.length;rw[hc.len]at Y6;by_cases hii:i'=i
   ·subst hii;have hset:((view d).2.set i' a).getD i' (view d).1.dflt=a:=by rw[getD_some (by simpa using hi')];simp
    rw[hset];obtain⟨x,hx,hxl⟩:=hle.get j' _ (show((view d).1.O1.enc a)[j']? =some (((view d).1.O1.enc a).getD j' .any) by rw[getD_some hla];simp[hla]);unfold putAt at hx Y6;generalize hcs:(view d).1.O1.enc ((view d).2.getD i' (view d).1.dflt)=cs at hx Y6 hl0;have hput:∀x,(cs.take j++(xs++cs.drop (j+xs.length)))[j']? =some x->(j<=j'/\j' < j+xs.length->xs[j' - j]? =some x)/\(¬(j<=j'/\j' < j+xs.length)->cs[j']? =some x):=by
     intro x hx;simp only[pz,uP,PW]at Y6;by_cases hjn:j<=cs.length
     ·rw[Qct hjn]at Y6;rw[Qd6]at hx;simp only[uP,Qct hjn]at hx;split at hx
      ·rename_i hlt;rw[LD,Qb hlt]at hx;exact⟨fun q=>by omega,fun _=>hx⟩
      ·rename_i hge;rw[Qd6]at hx;split at hx
       ·rename_i hlt;exact⟨fun _=>hx,fun q=>by omega⟩
       ·rename_i aIK;rw[Qbk]at hx;refine⟨fun q=>by omega,fun _=> ?_⟩;rw[show j+xs.length+(j' - j - xs.length)=j' by omega]at hx;exact hx
     ·rw[Nat.min_eq_right au]at Y6;have hxs:xs.length=0:=by omega
      rw[Qd6]at hx;simp only[uP,Nat.min_eq_right (show cs.length<=j by omega)]at hx;rw[Qb au,LD,Qb au]at hx;exact⟨fun q=>by omega,fun _=>hx⟩
    obtain⟨k1,k2⟩:=hput x hx;refine⟨fun q=>⟨x,k1 ⟨q.2.1,q.2.2⟩,hxl⟩,fun q=> ?_⟩;have hcx:=k2 fun q'=>q ⟨rfl,q'⟩
    have hxd:x.jJ=true:=hc.data _ x (by rw[hcs];exact Qbo hcx);rw[aym hxl hxd];have:j' < cs.length:=by omega
    rw[getD_some this];simpa[this]using hcx.symm
   ·have hset:((view d).2.set i a).getD i' (view d).1.dflt=(view d).2.getD i' (view d).1.dflt:=by
     rw[getD_some (by simpa using hi'),getD_some hi',List.getElem_set_ne au]
    rw[hset];exact⟨fun q=>absurd q.1 hii,fun _=>rfl⟩
  ·cases hm
 ·rw[FV]at hm;unfold Vw.cat at hm;split at hm
  ·rename_i l2 hl2;injection hm with hm
   subst hm;have hv:=h.vw d1 ((view d1).2++l2);have hv2:=h.Nz d1 d2 l2 hl2;simp only[hsz,hln,hcl,hv,hv2];refine⟨rfl,rfl,by simp[Vw.len],fun i j hi=> ?_,fun i j hi=> ?_⟩<;>simp only[Vw.cell,Vw.len]
   ·have hi:i < (view d1).2.length:=hi;have e:((view d1).2++l2).getD i (view d1).1.dflt=(view d1).2.getD i (view d1).1.dflt:=by rw[getD_some qbo,getD_some hi,List.getElem_append_left hi]
    rw[e]
   ·have hi:i < l2.length:=hi;have e:((view d1).2++l2).getD ((view d1).2.length+i) (view d1).1.dflt=l2.getD i (view d1).1.dflt:=by
     rw[getD_some qbo,getD_some hi,List.getElem_append_right au];simp
    rw[e]
  ·cases hm
 ·have hm:=(hsub _ _ _ _ hm).1;unfold Vw.sub at hm;injection hm with hm
  subst hm;rw[hln]at hj;have hj:j<=(view d).2.length:=hj;have hv:=h.vw d (((view d).2.take j).drop i);simp only[hsz,hln,hcl,hv];refine⟨rfl,by simp[Vw.len];omega,fun k c hk=> ?_⟩;simp only[Vw.cell];have e:(((view d).2.take j).drop i).getD k (view d).1.dflt=(view d).2.getD (i+k) (view d).1.dflt:=by
   rw[getD_some qbo,getD_some au];simp
  rw[e]
 ·obtain⟨E,l,hE,hl,rfl⟩:=hmk e n cs d hm;rw[hmp];exact hM.el e E hE l
 ·obtain⟨E,z,hE,hz,rfl⟩:=hzr e n zs d hm;rw[hmp];exact hM.el e E hE _
 ·rw[hset]at hm;unfold Vw.set at hm;split at hm
  ·injection hm with hm
   subst hm;rw[hmp];exact hM.inj _ _
  ·cases hm
 ·rw[FV]at hm;unfold Vw.cat at hm;split at hm
  ·injection hm with hm
   subst hm;rw[hmp];exact hM.inj _ _
  ·cases hm
 ·obtain⟨h1,h2⟩:=hsub _ _ _ _ hm;unfold Vw.sub at h1;injection h1 with h1
  subst h1;rw[hmp,hmp];exact⟨h2,hM.inj _ _⟩
 ·rw[htt]at hm;rw[hmp];exact hM.txt _ _ _ hm
 ·rw[hmp]at hm;rw[hln,hsz];exact hM.size d m hm
 ·rw[hnw]at hd;obtain⟨m,h1,h2⟩:=hM.new _ _ hd;exact⟨m,by rw[hmp];exact h1,h2⟩
 ·rw[hgl]at hd;rw[hmp];exact hM.Po _ _ hd
end
attribute [instance] yg Vx aaL awL JR aED I_ awg avJ au9 aCT awW aF7
section
variable {D α β:Type}{S:Sh D}
instance aIG {c:jq D α} {d:jq D β} [hc:cZ S c] [hd:cZ S d]:cZ S (bQ c d):=ao6 hc hd
instance aIQ {n:Nat} {d:α} {c:jq D α} [hc:cZ S c]:cZ S (FT n d c):=ax2 hc
instance iL1 {c:jq D α} [hc:cZ S c]:xq S (l1 c):=aG0 hc
instance iLc {c:jq D α} {r:Nw D β} [hc:cZ S c] [hr:xq S r]:xq S (az c r):=aoe hc hr
instance iLf {c:jq D α} [hc:cZ S c]:sZ S (bn c):=BB hc
instance iAg {c:jq D α} [hc:cZ S c]:sZ S (aF c):=abQ hc
instance iA1 {c:Arg D α} [hc:sZ S c]:mY S 1 (a1 c):=ad3 hc
instance iAc {c:Arg D α} {r:xI D β} {k:Nat} [hc:sZ S c] [hr:mY S k r]:mY S (k+1) (aj c r):=pM hc hr
instance iBc {c:jq D α} [hc:cZ S c]:tu S (aP c):=ang hc
instance iB1 {c:Blk D α} [hc:tu S c]:tq S 1 (b1 c):=aGd hc
instance iBs {c:Blk D α} {r:Ig D β} {k:Nat} [hc:tu S c] [hr:tq S k r]:tq S (k+1) (iC c r):=aqM hc hr
instance iSp {is:(Nat->Sl D)->List It} {c:Nw D α} [hc:xq S c]:qN S (bP is c):=aDD hc
instance iSr {is:List It} {c:Nw D α} [hc:xq S c]:qN S (shr is c):=aDA hc
theorem kL {c:xI D α}{k n:Nat}[hc:mY S k c](hk:Nat.ble k n=true):OY S (args c) 0 n:=avy hc hk
theorem oq {c:xI D α}{b:Ig D β}{k m n:Nat}[hc:mY S k c][hb:tq S m b](hk:Nat.ble k n=true):OY S (kz c b) m n:=DK hc hb hk
end
end Go.Vc
namespace Go.Vc
section
variable {A R:Type}
end
theorem jT {D:Type}{P:Program}{S:Sh D}{f:FuncId}{AS:vJ D}{RS:FU D}{k:Nat}{keep:List Nat}{pre:Nat->AS.A->Option Prop}{fv:Nat->AS.A->RS.X}(h:∀n,fV P S f (oL AS RS k keep (pre n) (fv n)))
  (pre':AS.A->Option Prop) (fv':AS.A->RS.X) (hn:∀a,ql (pre' a)->∃n,ql (pre n a)/\fv n a=fv' a):fV P S f (oL AS RS k keep pre' fv'):=by
 refine⟨(h 0).enters,fun X N g w args nT dH p r post kp hp hrel hc hpre=> ?_⟩;unfold oL at hc;split at hc
 ·cases hc
 ·rename_i a ha;injection hc with hc
  injection hc with c1 hc
  subst c1;obtain⟨n,q1,q2⟩:=hn a (C_.1 hpre);refine(h n).calls X N g w args nT dH ((pre n a).map dq) r post kp hp hrel ?_ (C_.2 q1);unfold oL;rw[ha];dsimp only;rw[q2,<-hc]
end Go.Vc
namespace Go.Vc
open Go.RowKit Go.ChangeShapes Go.WideShapes Go.ChangeAt Go.Joins
section
variable {H:Type}{enc:TypeId×Value->H}{P:Program}{W W':World}
theorem Gj (hl:laidOutB P=true)(hb:Below W.heap.size W W'):∀{ts:List TypeId} {vs:List Value} {ds:List (DataW H)} {ps:List MemPlace},(ts.all fun t=>P.readableRec t && decide (t < P.types.size))=true->
  DataW.TrodAll enc P W 0 (fun _=>true) true ts vs ds ps->DataW.TrodAll enc P W' 0 (fun b=>decide (b < W.heap.size)) true ts vs ds ps
 | [],vs,ds,ps,_,h=>by
  obtain⟨rfl,rfl,rfl⟩:=trodAll_nil h;exact trodAll_mk0
 | t::ts,vs,ds,ps,ht,h=>by
  simp only[Qcx,jY,Qbj]at ht;obtain⟨v,vs',d,ds',p,q,rfl,rfl,rfl,h1,h2⟩:=trodAll_cons h;have lt:∀x∈p,x.block < W.heap.size:=by obtain⟨m,hm⟩:=h1;exact DataW.trod_lt m _ _ _ hm
  exact trodAll_cons_mk (Below.trod hl ht.1.1 ht.1.2 h1 hb lt) (Gj hl hb ht.2 h2)
theorem aFz {k:IntKind}{n:Int}(h:(Lit.int k n).wf=true):yZ k n:=by
 cases k<;>simp[Lit.wf,IntKind.min,IntKind.max,IntKind.signed,IntKind.bits]at h<;>simp only[yZ]<;>omega
end
def NoN:Nat->Prop:=fun _=>False
section
variable {D α β:Type}{S:Sh D}{P:Program}
theorem aec {w:World}{d:D}{a:Option Addr}{n cap:Nat}(hn:n=S.len d)(hcap:n<=cap)(hlen:n<=9223372036854775807)(U:Nat->Nat->Value)
  (hcell:∀i j,i < S.len d->j < S.size d->∃ad,a=some ad/\w.cell? (ad.add (i*S.size d+j))=some (U i j))
  (hpl:∀i j,i < S.len d->j < S.size d->Lf.plain (S.cell d i j) (U i j))
  (hdat:∀i j d',i < S.len d->j < S.size d->S.cell d i j= .dat d'->dA S NoN w d' (U i j)) (hno:S.mp d=none):dA S NoN w d (.slice a n cap):=by
 intro w' hs;subst hn;refine Ac.mk d hno a cap U hcap hlen (fun i j hi hj=> ?_) hpl (fun i j d' hi hj he=>hdat i j d' hi hj he w' hs);obtain⟨ad,ha,hc⟩:=hcell i j hi hj;refine⟨ad,ha,?_⟩;have hb:(ad.add (i*S.size d+j)).block < w.heap.size:=by
  rcases Qde (ad.add (i*S.size d+j)).block w.heap.size with h | h
  ·exact h
  ·simp[World.cell?,Qdy h]at hc
 rw[<-hc];exact World.cell?_of_block (hs _ hb (fun h=>h))
def aiu (P:Program)(S:Sh D)(t:TypeId)(c:jq D α)(good:α->Prop):Prop:=
 ∀{H:Type} {enc:TypeId×Value->H} {w:World} {base:Nat} {spare:Nat->Bool} {held:Bool} {fuel:Nat} {cs:List Value} {x:DataW H×List MemPlace},
  DataW.trod enc P w base spare held fuel t cs=some x->∃a,aZ S NoN w noG (c.enc a) cs/\good a
theorem fP {t:TypeId}{k:IntKind}(ht:P.underlying t=some (.int k)):aiu P S t (gz k) (yZ k):=by
 intro H enc w base spare held fuel cs x h;obtain⟨n,rfl,_,hw⟩:=DataW.trod_int ht h;exact⟨n,⟨rfl,trivial⟩,aFz hw⟩
theorem Uk {t:TypeId}(ht:P.underlying t=some .bool):aiu P S t aG fun _=>True:=by
 intro H enc w base spare held fuel cs x h;obtain⟨b,rfl,_⟩:=DataW.trod_bool ht h;exact⟨b,⟨rfl,trivial⟩,trivial⟩
theorem al1 {t:TypeId}(ht:P.underlying t=some .string):aiu P S t cStr fun s=>s.length<=9223372036854775807:=by
 intro H enc w base spare held fuel cs x h;obtain⟨s,rfl,_,hs⟩:=DataW.trod_string ht h;have hl:s.data.toList.length<=9223372036854775807:=by
  unfold maxLen at hs;have h2:s.data.toList.length=s.size:=O5;rw[h2];exact hs
 refine⟨s.data.toList,⟨⟨?_,hl⟩,trivial⟩,hl⟩;cases s;simp
theorem aZ.app {M:Nat->Prop}{w:World}{g:Nat->Option Value}:∀{xs ys:List (Lf D)} {us vs:List Value},aZ S M w g xs us->aZ S M w g ys vs->aZ S M w g (xs++ys) (us++vs)
 | [],_,[],_,_,k=>k
 | _::_,_,_::_,_,h,k=>⟨h.1,aZ.app h.2 k⟩
theorem aeJ {Q:Nat->α->Prop}:∀n,(∀i,i < n->∃a,Q i a)->∃l:List α,l.length=n/\∀(i:Nat) (h:i < l.length),Q i l[i]
 | 0,_=>⟨[],rfl,fun i h=>by simp at h⟩
 | n+1,h=>by
  obtain⟨l,hl,hq⟩:=aeJ n fun i hi=>h i au
  obtain⟨a,ha⟩:=h n au;refine⟨l++[a],by simp[hl],fun i hi=> ?_⟩;by_cases hlt:i < l.length
  ·rw[List.getElem_append_left hlt];exact hq i hlt
  ·have:i=l.length:=by simp at hi;omega
   subst this;simp only[List.getElem_append_right (lU _),Qef,List.getElem_cons_zero];rw[hl];exact ha
theorem aZ.getD' {M:Nat->Prop}{w:World}{g:Nat->Option Value}{xs:List (Lf D)}{vs:List Value}{j:Nat}(h:aZ S M w g xs vs)(hj:j < xs.length):∃v,vs[j]? =some v/\(xs.getD j .any).Rel S M w g v:=by
 have:xs[j]? =some (xs.getD j .any):=by simp[List.getD,hj]
 exact aZ.get j h this
def aG1:TypeDesc->Bool
 | .int _ | .bool | .string | .slice _=>true
 | _=>false
def as3:FU D:=shr [.slot 0 false [none]] (l1 aG)
end
end Go.Vc
