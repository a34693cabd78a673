/- Own engine: Vdo, Vdq, Vdp. -/
import Derived.Test.YtmadgoehmjmlmaaGreatDoorEng9
import Derived.ProofKit
import Derived.OpenShut
import Derived.Lib.SmallJoins
set_option linter.unusedVariables false
set_option linter.unusedSimpArgs false
namespace Go.Vc
open Go.RowKit
universe u
def lk {α:Type u}:List (Nat×α)->Nat->Option α
 | [],_=>none
 | (k,v)::r,n=>if Nat.beq n k then some v else lk r n
theorem IQ {α:Type u}:∀{l:List (Nat×α)} {k:Nat} {v:α},lk l k=some v->(k,v)∈l
 | [],_,_,h=>by simp[lk]at h
 | (k',v')::r,k,v,h=>by
  simp only[lk]at h;split at h
  ·rename_i hk;injection h with h
   subst h;rw[Qa hk];simp
  ·exact Qb3 _ (IQ h)
abbrev Str:=List UInt8
structure iW (D α:Type) where
 n:Nat
 enc:α->List (Lf D)
 dec:List (Lf D)->Option α
class bM {D α:Type} (S:Sh D) (c:iW D α):Prop where
 ok:∀xs a,c.dec xs=some a->Xi S xs (c.enc a)
 len:∀a,(c.enc a).length=c.n
 data:∀a x,x∈c.enc a->x.jI=true
section
variable {D α β:Type}{S:Sh D}
theorem Xi.app:∀{a b c d:List (Lf D)},Xi S a b->Xi S c d->Xi S (a++c) (b++d)
 | [],[],_,_,_,k=>k
 | x::xs,y::ys,_,_,h,k=>⟨h.1,h.2.1,Xi.app h.2.2 k⟩
theorem Xi.length:∀{a b:List (Lf D)},Xi S a b->a.length=b.length
 | [],[],_=>rfl
 | _::_,_::_,h=>by simp[Xi.length h.2.2]
theorem Xi.get:∀{a b:List (Lf D)},Xi S a b->∀(i:Nat) (y:Lf D),b[i]? =some y->∃x,a[i]? =some x/\x.Le S y
 | [],[],_,i,y,h=>by simp at h
 | x::xs,y::ys,h,0,z,hz=>by simp at hz;subst hz;exact⟨x,rfl,h.1⟩
 | x::xs,y::ys,h,i+1,z,hz=>by simpa using Xi.get h.2.2 i z (by simpa using hz)
theorem Lf.Le.refl (x:Lf D):x.Le S x:= .inl rfl
theorem awN {x y:Lf D}(h:x.Le S y)(hd:x.jI=true):y=x:=by
 rcases h with h | ⟨h,_⟩ | ⟨b,h,_⟩ | ⟨_,_,_,_,h,_⟩ | ⟨_,h,_⟩
 ·exact h.symm
 ·subst h;simp[Lf.jI]at hd
 ·subst h;simp[Lf.jI]at hd
 ·subst h;simp[Lf.jI]at hd
 ·subst h;simp[Lf.jI]at hd
def fO (k:IntKind):iW D Int:=⟨1,fun n=>[.int k n],fun xs=>match xs with
 | [.int k' n]=>if Xx k k' then some n else none
 | _=>none⟩
def aH:iW D Bool:=⟨1,fun b=>[.bool b],fun xs=>match xs with
 | [.bool b]=>some b
 | [.val (.bool b)]=>some b
 | _=>none⟩
def cStr:iW D (List UInt8):=⟨1,fun s=>[.str s],fun xs=>match xs with
 | [.str s]=>some s
 | _=>none⟩
def qg (inj:α->D)(OZ:D->Option α)(nil:α):iW D α:=⟨1,fun a=>[.dat (inj a)],fun xs=>match xs with
 | [.dat d]=>OZ d
 | [.val v]=>if CQ v then some nil else none
 | [.xt e]=>(match e with
  | .clip d=>OZ d
  | _=>none)
 | _=>none⟩
def ayo:iW D (Option mY):=⟨1,fun v=>[.Xa v],fun xs=>match xs with
 | [.Xa v]=>some v
 | [.xt (.ifd t ag ps)]=>(match O6 ps with
  | some qs=>some (some ⟨t,ag,qs⟩)
  | none=>none)
 | _=>none⟩
def ac5:iW D Unit:=⟨0,fun _=>[],fun xs=>match xs with
 | []=>some ()
 | _=>none⟩
def bH (c:iW D α)(d:iW D β):iW D (α×β):=⟨c.n+d.n,fun p=>c.enc p.1++d.enc p.2,fun xs=>match c.dec (xs.take c.n),d.dec (xs.drop c.n)with
 | some a,some b=>some (a,b)
 | _,_=>none⟩
def kM (c:iW D α)(f:α->β)(g:β->α):iW D β:=⟨c.n,fun b=>c.enc (g b),fun xs=>match c.dec xs with
 | some a=>some (f a)
 | none=>none⟩
def uQ (c:iW D α)(d:α)(l:List α):Nat->Nat->List (Lf D)
 | _,0=>[]
 | i,n+1=>c.enc (l.getD i d)++uQ c d l (i+1) n
def Vh (c:iW D α):Nat->List (Lf D)->Option (List α)
 | 0,[]=>some []
 | 0,_=>none
 | n+1,xs=>(match c.dec (xs.take c.n),Vh c n (xs.drop c.n)with
  | some a,some l=>some (a::l)
  | _,_=>none)
def Hm (n:Nat)(d:α)(c:iW D α):iW D (List α):=⟨n*c.n,fun l=>uQ c d l 0 n,Vh c n⟩
theorem UB {c:iW D α}(hc:bM S c)(d:α)(l:List α):∀(n i:Nat),(uQ c d l i n).length=n*c.n
 | 0,i=>by simp[uQ]
 | n+1,i=>by rw[uQ,kT,hc.len,UB hc d l n (i+1),Qc4];omega
theorem PW {c:iW D α}(hc:bM S c)(d:α)(l:List α):∀(n i:Nat) (x:Lf D),x∈uQ c d l i n->x.jI=true
 | 0,i,x,h=>by simp[uQ]at h
 | n+1,i,x,h=>by
  simp only[uQ,rW]at h;rcases h with h | h
  ·exact hc.data _ _ h
  ·exact PW hc d l n (i+1) x h
theorem J7 (c:iW D α)(d a:α)(l:List α):∀(n i:Nat),uQ c d (a::l) (i+1) n=uQ c d l i n
 | 0,i=>rfl
 | n+1,i=>by simp only[uQ,Qek,J7 c d a l n (i+1)]
theorem XW {c:iW D α}(hc:bM S c)(d:α):∀(n:Nat) (xs:List (Lf D)) (l:List α),Vh c n xs=some l->Xi S xs (uQ c d l 0 n)
 | 0,xs,l,h=>by
  cases xs with
  | nil=>trivial
  | cons x xs=>simp[Vh]at h
 | n+1,xs,l,h=>by
  unfold Vh at h;split at h
  ·rename_i a l' h1 h2;injection h with h
   subst h;have:=Xi.app (hc.ok _ _ h1) (XW hc d n _ _ h2);rw[Qbk]at this;simp only[uQ,Qel];rw[DU,J7 c d a l' n 0];exact this
  ·cases h
theorem ayy {n:Nat}{d:α}{c:iW D α}(hc:bM S c):bM S (Hm n d c):=
 ⟨fun xs l h=>XW hc d n xs l h,fun l=>UB hc d l n 0,fun l x hx=>PW hc d l n 0 x hx⟩
theorem zq (k:IntKind):bM S (fO (D:=D) k):=by
 refine⟨fun xs a h=> ?_,fun _=>rfl,fun a x hx=> ?_⟩
 ·simp only[fO]at h;split at h
  ·split at h
   ·rename_i hk;injection h with h
    subst h;simp only[Xx,Qc7]at hk;subst hk;exact⟨.inl rfl,rfl,trivial⟩
   ·cases h
  ·cases h
 ·simp[fO]at hx;subst hx;rfl
theorem Wu:bM S (aH (D:=D)):=by
 refine⟨fun xs a h=> ?_,fun _=>rfl,fun a x hx=> ?_⟩
 ·simp only[aH]at h;split at h
  ·injection h with h;subst h;exact⟨.inl rfl,rfl,trivial⟩
  ·injection h with h;subst h;exact⟨.inr (.inr (.inl ⟨_,rfl,rfl⟩)),rfl,trivial⟩
  ·cases h
 ·simp[aH]at hx;subst hx;rfl
theorem ach:bM S (cStr (D:=D)):=by
 refine⟨fun xs a h=> ?_,fun _=>rfl,fun a x hx=> ?_⟩
 ·simp only[cStr]at h;split at h
  ·injection h with h;subst h;exact⟨.inl rfl,rfl,trivial⟩
  ·cases h
 ·simp[cStr]at hx;subst hx;rfl
theorem awJ:bM S (ayo (D:=D)):=by
 refine⟨fun xs a h=> ?_,fun _=>rfl,fun a x hx=> ?_⟩
 ·simp only[ayo]at h;split at h
  ·injection h with h;subst h;exact⟨.inl rfl,rfl,trivial⟩
  ·split at h
   ·rename_i qs hq;injection h with h;subst h;exact⟨.inr (.inr (.inr (.inl ⟨_,_,_,_,rfl,rfl,hq⟩))),rfl,trivial⟩
   ·cases h
  ·cases h
 ·simp[ayo]at hx;subst hx;rfl
theorem iJ {inj:α->D}{OZ:D->Option α}{nil:α}(hp:∀d a,OZ d=some a->d=inj a)(hn:S.len (inj nil)=0)(hno:S.mp (inj nil)=none:=by rfl):bM S (qg inj OZ nil):=by
 refine⟨fun xs a h=> ?_,fun _=>rfl,fun a x hx=> ?_⟩
 ·simp only[qg]at h;split at h
  ·rw[hp _ _ h];exact⟨.inl rfl,rfl,trivial⟩
  ·split at h
   ·rename_i hv;injection h with h
    subst h;rw[aey hv];exact⟨.inr (.inl ⟨rfl,_,rfl,hn,hno⟩),rfl,trivial⟩
   ·cases h
  ·split at h
   ·rw[hp _ _ h];exact⟨.inr (.inr (.inr (.inr ⟨_,rfl,rfl⟩))),rfl,trivial⟩
   ·cases h
  ·cases h
 ·simp[qg]at hx;subst hx;rfl
theorem J6:bM S (ac5 (D:=D)):=by
 refine⟨fun xs a h=> ?_,fun _=>rfl,fun a x hx=> ?_⟩
 ·simp only[ac5]at h;split at h
  ·trivial
  ·cases h
 ·simp[ac5]at hx
theorem asV {c:iW D α}{d:iW D β}(hc:bM S c)(hd:bM S d):bM S (bH c d):=by
 refine⟨fun xs a h=> ?_,fun a=>by simp[bH,hc.len,hd.len],fun a x hx=> ?_⟩
 ·simp only[bH]at h;split at h
  ·rename_i a b h1 h2;injection h with h
   subst h;have:=Xi.app (hc.ok _ _ h1) (hd.ok _ _ h2);rwa [Qbk]at this
  ·cases h
 ·simp only[bH,rW]at hx;rcases hx with hx | hx
  ·exact hc.data _ _ hx
  ·exact hd.data _ _ hx
theorem dS {c:iW D α}{f:α->β}{g:β->α}(hc:bM S c)(hg:∀a,g (f a)=a):bM S (kM c f g):=by
 refine⟨fun xs a h=> ?_,fun a=>hc.len _,fun a x hx=>hc.data _ _ hx⟩;simp only[kM]at h;split at h
 ·rename_i a' h1;injection h with h
  subst h;simp only[kM,hg];exact hc.ok _ _ h1
 ·cases h
structure OW (D α:Type) where
 enc:α->List (List (Lf D))
 dec:List (List (Lf D))->Option α
class yA (S:Sh D) (c:OW D α):Prop where
 ok:∀xs a,c.dec xs=some a->aij S xs (c.enc a)
def l0:OW D Unit:=⟨fun _=>[],fun xs=>match xs with
 | []=>some ()
 | _=>none⟩
def l1 (c:iW D α):OW D α:=⟨fun a=>[c.enc a],fun xs=>match xs with
 | [x]=>c.dec x
 | _=>none⟩
def az (c:iW D α)(r:OW D β):OW D (α×β):=⟨fun p=>c.enc p.1::r.enc p.2,fun xs=>match xs with
 | x::xs=>(match c.dec x,r.dec xs with
  | some a,some b=>some (a,b)
  | _,_=>none)
 | _=>none⟩
theorem aGi:yA S (l0 (D:=D)):=⟨fun xs a h=>by
 simp only[l0]at h;split at h
 ·trivial
 ·cases h⟩
theorem aGn {c:iW D α}(hc:bM S c):yA S (l1 c):=⟨fun xs a h=>by
 simp only[l1]at h;split at h
 ·exact⟨hc.ok _ _ h,trivial⟩
 ·cases h⟩
theorem au2 {c:iW D α}{r:OW D β}(hc:bM S c)(hr:yA S r):yA S (az c r):=⟨fun xs a h=>by
 simp only[az]at h;split at h
 ·split at h
  ·rename_i a b h1 h2;injection h with h
   subst h;exact⟨hc.ok _ _ h1,hr.ok _ _ h2⟩
  ·cases h
 ·cases h⟩
def bU (is:(Nat->Sl D)->List It)(c:OW D α):Ho D:=⟨α,is,c.enc,c.dec⟩
def shr (is:List It)(c:OW D α):Ho D:=⟨α,fun _=>is,c.enc,c.dec⟩
theorem aEU {is:(Nat->Sl D)->List It}{c:OW D α}(hc:yA S c):ru S (bU is c):=⟨hc.ok⟩
theorem aCk {is:List It}{c:OW D α}(hc:yA S c):ru S (shr is c):=⟨hc.ok⟩
structure yK (D α:Type) where
 enc:α->List (Sl D)
 dec:List (Sl D)->Option α
class ny (S:Sh D) (k:outParam Nat) (c:yK D α):Prop where
 ok:∀xs a,c.dec xs=some a->ZV S xs (c.enc a)
 len:∀a,(c.enc a).length=k
structure Jy (D α:Type) where
 enc:α->List (Bk D)
 dec:List (Bk D)->Option α
class um (S:Sh D) (k:outParam Nat) (c:Jy D α):Prop where
 ok:∀xs a,c.dec xs=some a->Ij S xs (c.enc a)
 len:∀a,(c.enc a).length=k
structure Arg (D α:Type) where
 enc:α->Sv D
 dec:Sv D->Option α
class rY (S:Sh D) (c:Arg D α):Prop where
 ok:∀x a,c.dec x=some a->avw S x (c.enc a)
def lf0:List (Lf D)->Lf D
 | [x]=>x
 | _=> .any
def bu (c:iW D α):Arg D α:=⟨fun a=> .lf (lf0 (c.enc a)),fun x=>match x with
 | .lf x=>c.dec [x]
 | _=>none⟩
def aF (c:iW D α):Arg D α:=⟨fun a=> .agg (c.enc a),fun x=>match x with
 | .agg xs=>c.dec xs
 | _=>none⟩
def iQ (l:Nat):Arg D Unit:=⟨fun _=> .lf (.ptr l 0),fun x=>match x with
 | .lf (.ptr l' o)=>if Nat.beq l l' && Nat.beq o 0 then some ()else none
 | _=>none⟩
def ni (l:Nat):Arg D Unit:=⟨fun _=> .lf (.own l),fun x=>match x with
 | .lf (.own l')=>if Nat.beq l l' then some ()else none
 | _=>none⟩
def aIq (l sz:Nat):Arg D Nat:=⟨fun i=> .lf (.opt l i 0 sz),fun x=>match x with
 | .lf (.opt l' i j sz')=>if Nat.beq l l' && Nat.beq j 0 && Nat.beq sz sz' then some i else none
 | _=>none⟩
def PU:List Nat->List Nat->Bool
 | [],[]=>true
 | x::xs,y::ys=>Nat.beq x y && PU xs ys
 | _,_=>false
theorem KJ:∀{xs ys:List Nat},PU xs ys=true->xs=ys
 | [],[],_=>rfl
 | x::xs,y::ys,h=>by
  simp only[PU,jR]at h;rw[Qa h.1,KJ h.2]
 | [],_::_,h=>by simp[PU]at h
 | _::_,[],h=>by simp[PU]at h
def kE (f:Nat)(caps:List Nat):Arg D Unit:=⟨fun _=> .lf (.fn f caps),fun x=>match x with
 | .lf (.fn f' af2)=>if Nat.beq f f' && PU caps af2 then some ()else none
 | _=>none⟩
def aBW (f:Nat)(caps:List Nat):Arg D Unit:=⟨fun _=> .agg [.fn f caps],fun x=>match x with
 | .agg [.fn f' af2]=>if Nat.beq f f' && PU caps af2 then some ()else none
 | _=>none⟩
theorem BL {c:iW D α}(hc:bM S c):rY S (bu c):=⟨fun x a h=>by
 simp only[bu]at h⊢;split at h
 ·have:=hc.ok _ _ h;generalize c.enc a=ys at this;cases ys with
  | nil=>exact this.elim
  | cons y ys=>
   cases ys with
   | cons _ _=>exact this.2.2.elim
   | nil=>exact this.1
 ·cases h⟩
theorem Xi.les:∀{a b:List (Lf D)},Xi S a b->MS S a b
 | [],[],_=>trivial
 | _::_,_::_,h=>⟨h.1,Xi.les h.2.2⟩
theorem aaG {c:iW D α}(hc:bM S c):rY S (aF c):=⟨fun x a h=>by
 simp only[aF]at h⊢;split at h
 ·exact(hc.ok _ _ h).les
 ·cases h⟩
theorem Lp (l:Nat):rY S (iQ (D:=D) l):=⟨fun x a h=>by
 simp only[iQ]at h⊢;split at h
 ·split at h
  ·rename_i hc;simp only[jR]at hc;rw[<-Qa hc.1,Qa hc.2];exact .inl rfl
  ·cases h
 ·cases h⟩
theorem av3 (l:Nat):rY S (ni (D:=D) l):=⟨fun x a h=>by
 simp only[ni]at h⊢;split at h
 ·split at h
  ·rename_i hc;rw[<-Qa hc];exact .inl rfl
  ·cases h
 ·cases h⟩
theorem axP (l sz:Nat):rY S (aIq (D:=D) l sz):=⟨fun x a h=>by
 simp only[aIq]at h⊢;split at h
 ·split at h
  ·rename_i hc;simp only[jR]at hc;injection h with h
   subst h;rw[<-Qa hc.1.1,Qa hc.1.2,<-Qa hc.2];exact .inl rfl
  ·cases h
 ·cases h⟩
def atT (l sz:Nat):Arg D Unit:=⟨fun _=> .lf (.opt l 0 0 sz),fun x=>match x with
 | .lf (.opt l' i j sz')=>if Nat.beq l l' && (Nat.beq i 0 && (Nat.beq j 0 && Nat.beq sz sz'))then some ()else none
 | _=>none⟩
theorem av6 (l sz:Nat):rY S (atT (D:=D) l sz):=⟨fun x a h=>by
 simp only[atT]at h⊢;split at h
 ·split at h
  ·rename_i hc;simp only[jR]at hc;rw[<-Qa hc.1,Qa hc.2.1,Qa hc.2.2.1,<-Qa hc.2.2.2];exact .inl rfl
  ·cases h
 ·cases h⟩
theorem aB8 (f:Nat)(caps:List Nat):rY S (kE (D:=D) f caps):=⟨fun x a h=>by
 simp only[kE]at h⊢;split at h
 ·split at h
  ·rename_i hc;simp only[jR]at hc;rw[<-Qa hc.1,<-KJ hc.2];exact .inl rfl
  ·cases h
 ·cases h⟩
theorem axU (f:Nat)(caps:List Nat):rY S (aBW (D:=D) f caps):=⟨fun x a h=>by
 simp only[aBW]at h⊢;split at h
 ·split at h
  ·rename_i hc;simp only[jR]at hc;rw[<-Qa hc.1,<-KJ hc.2];exact⟨.inl rfl,trivial⟩
  ·cases h
 ·cases h⟩
def a0:yK D Unit:=⟨fun _=>[],fun xs=>match xs with
 | []=>some ()
 | _=>none⟩
def a1 (c:Arg D α):yK D α:=⟨fun a=>[.one (c.enc a)],fun xs=>match xs with
 | [.one x]=>c.dec x
 | _=>none⟩
def aj (c:Arg D α)(r:yK D β):yK D (α×β):=⟨fun p=> .one (c.enc p.1)::r.enc p.2,fun xs=>match xs with
 | .one x::xs=>(match c.dec x,r.dec xs with
  | some a,some b=>some (a,b)
  | _,_=>none)
 | _=>none⟩
theorem aIu:ny S 0 (a0 (D:=D)):=by
 refine⟨fun xs a h=> ?_,fun _=>rfl⟩;simp only[a0]at h;split at h
 ·trivial
 ·cases h
theorem afm {c:Arg D α}(hc:rY S c):ny S 1 (a1 c):=by
 refine⟨fun xs a h=> ?_,fun _=>rfl⟩;simp only[a1]at h;split at h
 ·exact⟨hc.ok _ _ h,trivial⟩
 ·cases h
theorem qf {c:Arg D α}{r:yK D β}{k:Nat}(hc:rY S c)(hr:ny S k r):ny S (k+1) (aj c r):=by
 refine⟨fun xs a h=> ?_,fun a=>by simp[aj,hr.len]⟩;simp only[aj]at h;split at h
 ·split at h
  ·rename_i a b h1 h2;injection h with h
   subst h;exact⟨hc.ok _ _ h1,hr.ok _ _ h2⟩
  ·cases h
 ·cases h
structure Blk (D α:Type) where
 enc:α->Bk D
 dec:Bk D->Option α
class jy (S:Sh D) (c:Blk D α):Prop where
 ok:∀x a,c.dec x=some a->acP S x (c.enc a)
def aP (c:iW D α):Blk D α:=⟨fun a=> .cells (c.enc a),fun x=>match x with
 | .cells xs=>c.dec xs
 | _=>none⟩
def iq (e:TypeId)(inj:α->D)(OZ:D->Option α):Blk D α:=⟨fun a=> .row e (inj a),fun x=>match x with
 | .row e' d=>if Nat.beq e e' then OZ d else none
 | _=>none⟩
theorem amx {c:iW D α}(hc:bM S c):jy S (aP c):=⟨fun x a h=>by
 simp only[aP]at h⊢;split at h
 ·exact(hc.ok _ _ h).les
 ·cases h⟩
theorem iI {e:TypeId}{inj:α->D}{OZ:D->Option α}(hp:∀d a,OZ d=some a->d=inj a):jy S (iq e inj OZ):=⟨fun x a h=>by
 simp only[iq]at h⊢;split at h
 ·split at h
  ·rename_i he;exact⟨(Qa he).symm,hp _ _ h⟩
  ·cases h
 ·cases h⟩
def b1 (c:Blk D α):Jy D α:=⟨fun a=>[c.enc a],fun xs=>match xs with
 | [x]=>c.dec x
 | _=>none⟩
def iC (c:Blk D α)(r:Jy D β):Jy D (α×β):=⟨fun p=>c.enc p.1::r.enc p.2,fun xs=>match xs with
 | x::xs=>(match c.dec x,r.dec xs with
  | some a,some b=>some (a,b)
  | _,_=>none)
 | _=>none⟩
theorem aGM {c:Blk D α}(hc:jy S c):um S 1 (b1 c):=by
 refine⟨fun xs a h=> ?_,fun _=>rfl⟩;simp only[b1]at h;split at h
 ·exact⟨hc.ok _ _ h,trivial⟩
 ·cases h
theorem auY {c:Blk D α}{r:Jy D β}{k:Nat}(hc:jy S c)(hr:um S k r):um S (k+1) (iC c r):=by
 refine⟨fun xs a h=> ?_,fun a=>by simp[iC,hr.len]⟩;simp only[iC]at h;split at h
 ·split at h
  ·rename_i a b h1 h2;injection h with h
   subst h;exact⟨hc.ok _ _ h1,hr.ok _ _ h2⟩
  ·cases h
 ·cases h
def zH:List (Option TypeId)->List (Lf D)->Nat->List (Bk D)->Option (List (Lf D))
 | [],[],_,[]=>some []
 | none::fs,x::xs,n,rows=>(match zH fs xs n rows with
  | some ys=>some (x::ys)
  | none=>none)
 | some e::fs, .own k::xs,n, .row e' d::rows=>if Nat.beq k n && Nat.beq e e' then(match zH fs xs (n+1) rows with
  | some ys=>some (.dat d::ys)
  | none=>none)else none
 | _,_,_,_=>none
def ahG (n:Nat)(fs:List (Option TypeId))(c:iW D α):Jy D α:=⟨fun a=> .cells (lN fs (c.enc a) n).1::(lN fs (c.enc a) n).2.1.map (·.2),fun bs=>match bs with
 | .cells xs::rows=>(match zH fs xs n rows with
  | some ys=>c.dec ys
  | none=>none)
 | _=>none⟩
theorem UZ:∀(fs:List (Option TypeId)) (xs ys zs:List (Lf D)) (n:Nat) (rows:List (Bk D)),zH fs xs n rows=some ys->Xi S ys zs->MS S xs (lN fs zs n).1/\Ij S rows ((lN fs zs n).2.1.map (·.2))
 | [],[],ys,zs,n,rows,h,hl=>by
  cases rows with
  | cons _ _=>simp[zH]at h
  | nil=>
   simp only[zH,Nb]at h;subst h;cases zs with
   | cons _ _=>exact hl.elim
   | nil=>exact⟨trivial,trivial⟩
 | [],x::xs,ys,zs,n,rows,h,hl=>by simp[zH]at h
 | none::fs,[],ys,zs,n,rows,h,hl=>by simp[zH]at h
 | none::fs,x::xs,ys,zs,n,rows,h,hl=>by
  simp only[zH]at h;split at h
  ·rename_i ys' h';injection h with h
   subst h;cases zs with
   | nil=>exact hl.elim
   | cons z zs=>
    obtain⟨h1,h2⟩:=UZ fs xs ys' zs n rows h' hl.2.2;exact⟨⟨hl.1,h1⟩,h2⟩
  ·cases h
 | some e::fs,[],ys,zs,n,rows,h,hl=>by simp[zH]at h
 | some e::fs,x::xs,ys,zs,n,rows,h,hl=>by
  cases rows with
  | nil=>cases x<;>simp[zH]at h
  | cons r rows=>
   cases x with
   | own k=>
    cases r with
    | row e' d=>
     simp only[zH]at h;split at h
     ·rename_i hc;simp only[jR]at hc;have hk:=Qa hc.1;have he:=Qa hc.2;subst hk he;split at h
      ·rename_i ys' h';injection h with h
       subst h;cases zs with
       | nil=>exact hl.elim
       | cons z zs=>
        have:=CY hl.1;subst this;obtain⟨h1,h2⟩:=UZ fs xs ys' zs (k+1) rows h' hl.2.2;exact⟨⟨.inl rfl,h1⟩,⟨rfl,rfl⟩,h2⟩
      ·cases h
     ·cases h
    | _=>simp[zH]at h
   | _=>simp[zH]at h
theorem QP {n k:Nat}{fs:List (Option TypeId)}{c:iW D α}(hc:bM S c)(hk:∀a,(lN fs (c.enc a) n).2.1.length=k):um S (k+1) (ahG n fs c):=by
 refine⟨fun xs a h=> ?_,fun a=>by simp[ahG,hk]⟩;simp only[ahG]at h;split at h
 ·split at h
  ·rename_i ys hy;exact UZ fs _ ys _ n _ hy (hc.ok _ _ h)
  ·cases h
 ·cases h
def args (c:yK D α):wM D:=⟨α,fun a=>(c.enc a,[]),fun xs bs=>match bs with
 | []=>c.dec xs
 | _=>none⟩
def jW (c:yK D α)(b:Jy D β):wM D:=⟨α×β,fun p=>(c.enc p.1,b.enc p.2),fun xs bs=>match c.dec xs,b.dec bs with
 | some a,some b=>some (a,b)
 | _,_=>none⟩
theorem axs {c:yK D α}{k n:Nat}(hc:ny S k c)(hk:Nat.ble k n=true):P_ S (args c) 0 n:=by
 refine⟨fun xs bs a h=> ?_,fun _=>rfl,fun(a:α)=>(hc.len a).symm▸Qa8 hk⟩;simp only[args]at h;split at h
 ·exact⟨hc.ok _ _ h,trivial⟩
 ·cases h
theorem Fb {c:yK D α}{b:Jy D β}{k m n:Nat}(hc:ny S k c)(hb:um S m b)(hk:Nat.ble k n=true):P_ S (jW c b) m n:=by
 refine⟨fun xs bs a h=> ?_,fun a=>hb.len _,fun(a:α×β)=>(hc.len a.1).symm▸Qa8 hk⟩;simp only[jW]at h;split at h
 ·rename_i a b h1 h2;injection h with h
  subst h;exact⟨hc.ok _ _ h1,hb.ok _ _ h2⟩
 ·cases h
structure El (D:Type):Type 1 where
 α:Type
 Qh:iW D α
 dflt:α
 inj:List α->D
 OZ:D->Option (List α)
def Gu (c:iW D α):Nat->List (Lf D)->Option (List α)
 | 0,[]=>some []
 | 0,_::_=>none
 | n+1,cs=>(match c.dec (cs.take c.n),Gu c n (cs.drop c.n)with
  | some a,some l=>some (a::l)
  | _,_=>none)
abbrev Vw (D:Type):=(E:El D)×List E.α
def Vw.size (p:Vw D):Nat:=p.1.Qh.n
def Vw.len (p:Vw D):Nat:=p.2.length
def Vw.cell (p:Vw D)(i j:Nat):Lf D:=(p.1.Qh.enc (p.2.getD i p.1.dflt)).getD j .any
def Vw.set (p:Vw D)(i j:Nat)(xs:List (Lf D)):Option D:=match p.1.Qh.dec (putAt (p.1.Qh.enc (p.2.getD i p.1.dflt)) j xs)with
 | some a=>some (p.1.inj (p.2.set i a))
 | none=>none
def Vw.cat (p:Vw D)(d:D):Option D:=match p.1.OZ d with
 | some l=>some (p.1.inj (p.2++l))
 | none=>none
def Vw.sub (p:Vw D)(i j:Nat):Option D:=some (p.1.inj ((p.2.take j).drop i))
def uI (view:D->Vw D)(oQ:TypeId->Option (El D))(OY:Nat->Option D:=fun _=>none)(txt:TypeId->List UInt8->Option D:=fun _ _=>none)(Bh:D->Option (Mp D):=fun _=>none)(H9:TypeId->Option D:=fun _=>none):Sh D where
 mp:=Bh
 aoF:=H9
 OY:=OY
 text:=txt
 size d:=(view d).size
 len d:=(view d).len
 cell d i j:=(view d).cell i j
 make e n cs:=match oQ e with
  | none=>none
  | some E=>(match Gu E.Qh n cs with
   | some l=>some (E.inj l)
   | none=>none)
 zero e n zs:=match oQ e with
  | none=>none
  | some E=>(match E.Qh.dec zs with
   | some z=>some (E.inj (List.replicate n z))
   | none=>none)
 set d i j xs:=(view d).set i j xs
 cat d1 d2:=(view d1).cat d2
 sub d i j:=match Bh d with
  | none=>(view d).sub i j
  | some _=>none
def Vx (s:List UInt8):List Int:=s.map fun b=>(b.toNat:Int)
theorem asX (s:List UInt8)(i:Nat):(Vx s).getD i 0=((s.getD i 0).toNat:Int):=by
 unfold Vx;by_cases h:i < s.length
 ·simp[List.getD,Qbd,h]
 ·simp[List.getD,Qbd,Qcf (by omega:s.length<=i)]
abbrev ao4 (n:Nat)(x:Int):List Int:=List.replicate n x
def txU (l:List Int):List UInt8:=(List.range l.length).map fun i=>UInt8.ofNat (l.getD i 0).toNat
theorem aCc (l:List Int):txU l=l.map fun n=>UInt8.ofNat n.toNat:=by
 unfold txU;refine List.ext_getElem? fun i=> ?_;by_cases h:i < l.length
 ·simp[Qbd,Qem h,List.getD,h]
 ·rw[Qcf uZ,Qcf uZ]
@[simp] theorem aI8:txU []=[]:=rfl
def Eb (l:List Int)(i:Nat):Bool:=decide (0<=l.getD i 0) && decide (l.getD i 0 < 256)
theorem Vd {a b:List Int}(ha:∀i,Eb a i=true)(hb:∀i,Eb b i=true)(i:Nat):Eb (a++b) i=true:=by
 unfold Eb at*;by_cases h:i < a.length
 ·have:=ha i;rw[show(a++b).getD i 0=a.getD i 0 by simp[List.getD,Qbc h]];exact this
 ·have:=hb (i - a.length);rw[show(a++b).getD i 0=b.getD (i - a.length) 0 by simp[List.getD,Qba (by omega:a.length<=i)]];exact this
theorem IJ (s:List UInt8)(i:Nat):Eb (Vx s) i=true:=by
 unfold Eb;rw[asX];have:=(s.getD i 0).toNat_lt;rw[jR,Qbn,Qbn];omega
theorem G6 (l:List Int):(txU l).length=l.length:=by simp[aCc]
theorem zF (s:List UInt8):(Vx s).length=s.length:=by simp[Vx]
theorem xq {f:Nat->Bool}(h:∀i,f i=true):∀n,I5 f n=true
 | 0=>rfl
 | n+1=>by simp[I5,h n,xq h n]
structure avy (S:Sh D)(view:D->Vw D)(oQ:TypeId->Option (El D)):Prop where
 el:∀e E,oQ e=some E->∀l,view (E.inj l)=⟨E,l⟩
 vw:∀d l,view ((view d).1.inj l)=⟨(view d).1,l⟩
 OZ:∀d d2 l2,(view d).1.OZ d2=some l2->view d2=⟨(view d).1,l2⟩
 Qh:∀d,bM S (view d).1.Qh
theorem Lt {c:iW D α}(hc:bM S c):∀(n:Nat) (cs:List (Lf D)) (l:List α),Gu c n cs=some l->l.length=n/\cs.length=n*c.n/\∀(i j:Nat) (dflt:α),i < n->j < c.n->∃x,cs[i*c.n+j]? =some x/\x.Le S ((c.enc (l.getD i dflt)).getD j .any)
 | 0,[],l,h=>by
  injection h with h
  subst h;exact⟨rfl,by simp,fun i j _ hi=>by omega⟩
 | 0,_::_,l,h=>by simp[Gu]at h
 | n+1,cs,l,h=>by
  unfold Gu at h;split at h
  ·rename_i a l' h1 h2;injection h with h
   subst h;obtain⟨q1,q2,q3⟩:=Lt hc n _ l' h2;have hle:=hc.ok _ _ h1;have hl1:=hle.length;rw[hc.len]at hl1;have hlen:c.n<=cs.length:=by simp at hl1;omega
   refine⟨by simp[q1],?_,fun i j dflt hi hj=> ?_⟩
   ·simp at q2;rw[Qc4];omega
   ·cases i with
    | zero=>
     have hy:(c.enc a)[j]? =some ((c.enc a).getD j .any):=by
      have:j < (c.enc a).length:=by rw[hc.len];exact hj
      simp[List.getD,this]
     obtain⟨x,hx,hxl⟩:=hle.get j _ hy;refine⟨x,?_,by simpa using hxl⟩;rw[Nj,mi hj]at hx;simpa using hx
    | succ i=>
     obtain⟨x,hx,hxl⟩:=q3 i j dflt au hj;refine⟨x,?_,by simpa using hxl⟩;rw[Qbp]at hx;rw[Qc4,<-hx];congr 1;omega
  ·cases h
theorem getD_some {l:List α}{i:Nat}{d:α}(h:i < l.length):l.getD i d=l[i]:=by simp[List.getD,h]
structure avu (S:Sh D)(view:D->Vw D)(oQ:TypeId->Option (El D))(gl:Nat->Option D)(txt:TypeId->List UInt8->Option D)(Bh:D->Option (Mp D))(H9:TypeId->Option D):Prop where
 inj:∀d l,Bh ((view d).1.inj l)=none
 el:∀e E,oQ e=some E->∀l,Bh (E.inj l)=none
 txt:∀e s d,txt e s=some d->Bh d=none
 OY:∀i d,gl i=some d->Bh d=none
 size:∀d m,Bh d=some m->(view d).len=0/\(view d).size=0/\azS S m
 new:∀t d,H9 t=some d->∃m,Bh d=some m/\m.kvs=[]
theorem asa {view:D->Vw D}{oQ:TypeId->Option (El D)}{gl:Nat->Option D}{txt:TypeId->List UInt8->Option D}{Bh:D->Option (Mp D)}{H9:TypeId->Option D}(h:avy (uI view oQ gl txt Bh H9) view oQ)
  (ht:∀e s d,txt e s=some d->(uI view oQ gl txt Bh H9).size d=1/\(uI view oQ gl txt Bh H9).len d=s.length/\∀i,i < s.length->(uI view oQ gl txt Bh H9).cell d i 0= .int .u8 (s.getD i 0).toNat) (hM:avu (uI view oQ gl txt Bh H9) view oQ gl txt Bh H9):jf (uI view oQ gl txt Bh H9):=by
 have htx:∀e s d,(uI view oQ gl txt Bh H9).text e s=some d->(uI view oQ gl txt Bh H9).size d=1/\(uI view oQ gl txt Bh H9).len d=s.length/\∀i,i < s.length->(uI view oQ gl txt Bh H9).cell d i 0= .int .u8 (s.getD i 0).toNat:=ht;clear ht;have hsz:∀d,(uI view oQ gl txt Bh H9).size d=(view d).size:=fun _=>rfl
 have hln:∀d,(uI view oQ gl txt Bh H9).len d=(view d).len:=fun _=>rfl
 have hcl:∀d i j,(uI view oQ gl txt Bh H9).cell d i j=(view d).cell i j:=fun _ _ _=>rfl
 have hset:∀d i j xs,(uI view oQ gl txt Bh H9).set d i j xs=(view d).set i j xs:=fun _ _ _ _=>rfl
 have Hq:∀d d',(uI view oQ gl txt Bh H9).cat d d'=(view d).cat d':=fun _ _=>rfl
 have hsub:∀d i j d',(uI view oQ gl txt Bh H9).sub d i j=some d'->(view d).sub i j=some d'/\Bh d=none:=by
  intro d i j d' hd;simp only[uI]at hd;split at hd
  ·exact⟨hd,‹_›⟩
  ·cases hd
 have hmp:∀d,(uI view oQ gl txt Bh H9).mp d=Bh d:=fun _=>rfl
 have hnw:∀t,(uI view oQ gl txt Bh H9).aoF t=H9 t:=fun _=>rfl
 have hgl:∀t,(uI view oQ gl txt Bh H9).OY t=gl t:=fun _=>rfl
 have htt:∀e s,(uI view oQ gl txt Bh H9).text e s=txt e s:=fun _ _=>rfl
 have hmk:∀e n cs d,(uI view oQ gl txt Bh H9).make e n cs=some d->∃E l,oQ e=some E/\Gu E.Qh n cs=some l/\E.inj l=d:=by
  intro e n cs d hm;simp only[uI]at hm;split at hm
  ·cases hm
  rename_i E hE;split at hm
  ·rename_i l hl;injection hm with hm
   exact⟨E,l,hE,hl,hm⟩
  ·cases hm
 have hzr:∀e n zs d,(uI view oQ gl txt Bh H9).zero e n zs=some d->∃E z,oQ e=some E/\E.Qh.dec zs=some z/\E.inj (List.replicate n z)=d:=by
  intro e n zs d hm;simp only[uI]at hm;split at hm
  ·cases hm
  rename_i E hE;split at hm
  ·rename_i z hz;injection hm with hm
   exact⟨E,z,hE,hz,hm⟩
  ·cases hm
 generalize uI view oQ gl txt Bh H9=S at*;refine⟨fun e n cs d hm=> ?_,fun d i j hi hj=> ?_,fun e n zs d hm=> ?_,fun d i j xs d' hm hi=> ?_,fun d1 d2 d hm=> ?_,fun d i j d' hm hij hj=> ?_,htx,
  fun e n cs d hm=> ?_,fun e n zs d hm=> ?_,fun d i j xs d' hm _=> ?_,fun d1 d2 d hm=> ?_,fun d i j d' hm=> ?_,fun e s d hm=> ?_,fun d m hm=> ?_,fun t d hd=> ?_,fun i d hd=> ?_⟩
 ·obtain⟨E,l,hE,hl,rfl⟩:=hmk e n cs d hm;have hv:=h.el e E hE l;have acT:=h.Qh (E.inj l);rw[hv]at acT;obtain⟨q1,q2,q3⟩:=Lt acT n cs l hl;simp only[hsz,hln,hcl,hv];exact⟨q1,q2,fun i j hi hj=>q3 i j _ hi hj⟩
 ·rw[hcl];unfold Vw.cell;rw[hsz]at hj;have hc:=h.Qh d;have hlt:j < ((view d).1.Qh.enc ((view d).2.getD i (view d).1.dflt)).length:=by rw[hc.len];exact hj
  rw[getD_some hlt];exact hc.data _ _ (List.getElem_mem hlt)
 ·obtain⟨E,z,hE,hz,rfl⟩:=hzr e n zs d hm;have hv:=h.el e E hE (List.replicate n z);have acT:=h.Qh (E.inj (List.replicate n z));rw[hv]at acT;have acT:bM S E.Qh:=acT;have hle:=acT.ok _ _ hz;simp only[hsz,hln,hcl,hv];refine⟨by simp[Vw.len],by rw[hle.length,acT.len];rfl,fun i j hi hj=> ?_⟩;have hj:j < E.Qh.n:=hj;have hrep:(List.replicate n z).getD i E.dflt=z:=by
   rw[getD_some qcl];simp
  show ∃x,zs[j]? =some x/\x.Le S ((E.Qh.enc ((List.replicate n z).getD i E.dflt)).getD j .any)
  rw[hrep];exact hle.get j _ (by
   have:j < (E.Qh.enc z).length:=by rw[acT.len];exact hj
   rw[getD_some this];simp[this])
 ·rw[hset]at hm;unfold Vw.set at hm;split at hm
  ·rename_i a ha;injection hm with hm
   subst hm;have hc:=h.Qh d;have hv:=h.vw d ((view d).2.set i a);have hle:=hc.ok _ _ ha;rw[hln]at hi;have hi:i < (view d).2.length:=hi;simp only[hsz,hln,hcl,hv];refine⟨rfl,by simp[Vw.len],fun i' j' hi' hj'=> ?_⟩;simp only[Vw.cell];have hj':j' < (view d).1.Qh.n:=hj';have hi':i' < (view d).2.length:=hi';have hla:j' < ((view d).1.Qh.enc a).length:=by rw[hc.len];exact hj'
   have hl0:((view d).1.Qh.enc ((view d).2.getD i (view d).1.dflt)).length=(view d).1.Qh.n:=hc.len _;have ZX:=hle.length;rw[hc.len]at ZX;by_cases hii:i'=i
   ·subst hii;have hset:((view d).2.set i' a).getD i' (view d).1.dflt=a:=by rw[getD_some (by simpa using hi')];simp
    rw[hset];obtain⟨x,hx,hxl⟩:=hle.get j' _ (show((view d).1.Qh.enc a)[j']? =some (((view d).1.Qh.enc a).getD j' .any) by rw[getD_some hla];simp[hla]);unfold putAt at hx ZX;generalize hcs:(view d).1.Qh.enc ((view d).2.getD i' (view d).1.dflt)=cs at hx ZX hl0;have hput:∀x,(cs.take j++(xs++cs.drop (j+xs.length)))[j']? =some x->(j<=j'/\j' < j+xs.length->xs[j' - j]? =some x)/\(¬(j<=j'/\j' < j+xs.length)->cs[j']? =some x):=by
     intro x hx;simp only[kT,uw,Nk]at ZX;by_cases hjn:j<=cs.length
     ·rw[Qcv hjn]at ZX;rw[Qdo]at hx;simp only[uw,Qcv hjn]at hx;split at hx
      ·rename_i hlt;rw[Nj,mi hlt]at hx;exact⟨fun q=>by omega,fun _=>hx⟩
      ·rename_i hge;rw[Qdo]at hx;split at hx
       ·rename_i hlt;exact⟨fun _=>hx,fun q=>by omega⟩
       ·rename_i aKx;rw[Qbp]at hx;refine⟨fun q=>by omega,fun _=> ?_⟩;rw[show j+xs.length+(j' - j - xs.length)=j' by omega]at hx;exact hx
     ·rw[Nat.min_eq_right au]at ZX;have hxs:xs.length=0:=by omega
      rw[Qdo]at hx;simp only[uw,Nat.min_eq_right (show cs.length<=j by omega)]at hx;rw[mi au,Nj,mi au]at hx;exact⟨fun q=>by omega,fun _=>hx⟩
    obtain⟨k1,k2⟩:=hput x hx;refine⟨fun q=>⟨x,k1 ⟨q.2.1,q.2.2⟩,hxl⟩,fun q=> ?_⟩;have hcx:=k2 fun q'=>q ⟨rfl,q'⟩
    have hxd:x.jI=true:=hc.data _ x (by rw[hcs];exact Qbt hcx);rw[awN hxl hxd];have:j' < cs.length:=by omega
    rw[getD_some this];simpa[this]using hcx.symm
   ·have hset:((view d).2.set i a).getD i' (view d).1.dflt=(view d).2.getD i' (view d).1.dflt:=by
     rw[getD_some (by simpa using hi'),getD_some hi',List.getElem_set_ne au]
    rw[hset];exact⟨fun q=>absurd q.1 hii,fun _=>rfl⟩
  ·cases hm
 ·rw[Hq]at hm;unfold Vw.cat at hm;split at hm
  ·rename_i l2 hl2;injection hm with hm
   subst hm;have hv:=h.vw d1 ((view d1).2++l2);have hv2:=h.OZ d1 d2 l2 hl2;simp only[hsz,hln,hcl,hv,hv2];refine⟨rfl,rfl,by simp[Vw.len],fun i j hi=> ?_,fun i j hi=> ?_⟩<;>simp only[Vw.cell,Vw.len]
   ·have hi:i < (view d1).2.length:=hi;have e:((view d1).2++l2).getD i (view d1).1.dflt=(view d1).2.getD i (view d1).1.dflt:=by rw[getD_some uZ,getD_some hi,List.getElem_append_left hi]
    rw[e]
   ·have hi:i < l2.length:=hi;have e:((view d1).2++l2).getD ((view d1).2.length+i) (view d1).1.dflt=l2.getD i (view d1).1.dflt:=by
     rw[getD_some uZ,getD_some hi,List.getElem_append_right au];simp
    rw[e]
  ·cases hm
 ·have hm:=(hsub _ _ _ _ hm).1;unfold Vw.sub at hm;injection hm with hm
  subst hm;rw[hln]at hj;have hj:j<=(view d).2.length:=hj;have hv:=h.vw d (((view d).2.take j).drop i);simp only[hsz,hln,hcl,hv];refine⟨rfl,by simp[Vw.len];omega,fun k c hk=> ?_⟩;simp only[Vw.cell];have e:(((view d).2.take j).drop i).getD k (view d).1.dflt=(view d).2.getD (i+k) (view d).1.dflt:=by
   rw[getD_some uZ,getD_some au];simp
  rw[e]
 ·obtain⟨E,l,hE,hl,rfl⟩:=hmk e n cs d hm;rw[hmp];exact hM.el e E hE l
 ·obtain⟨E,z,hE,hz,rfl⟩:=hzr e n zs d hm;rw[hmp];exact hM.el e E hE _
 ·rw[hset]at hm;unfold Vw.set at hm;split at hm
  ·injection hm with hm
   subst hm;rw[hmp];exact hM.inj _ _
  ·cases hm
 ·rw[Hq]at hm;unfold Vw.cat at hm;split at hm
  ·injection hm with hm
   subst hm;rw[hmp];exact hM.inj _ _
  ·cases hm
 ·obtain⟨h1,h2⟩:=hsub _ _ _ _ hm;unfold Vw.sub at h1;injection h1 with h1
  subst h1;rw[hmp,hmp];exact⟨h2,hM.inj _ _⟩
 ·rw[htt]at hm;rw[hmp];exact hM.txt _ _ _ hm
 ·rw[hmp]at hm;rw[hln,hsz];exact hM.size d m hm
 ·rw[hnw]at hd;obtain⟨m,h1,h2⟩:=hM.new _ _ hd;exact⟨m,by rw[hmp];exact h1,h2⟩
 ·rw[hgl]at hd;rw[hmp];exact hM.OY _ _ hd
end
attribute [instance] zq Wu ach awJ J6 aGi Lp av3 axP av6 aB8 axU aIu
section
variable {D α β:Type}{S:Sh D}
instance aKt {c:iW D α} {d:iW D β} [hc:bM S c] [hd:bM S d]:bM S (bH c d):=asV hc hd
instance aKD {n:Nat} {d:α} {c:iW D α} [hc:bM S c]:bM S (Hm n d c):=ayy hc
instance iL1 {c:iW D α} [hc:bM S c]:yA S (l1 c):=aGn hc
instance iLc {c:iW D α} {r:OW D β} [hc:bM S c] [hr:yA S r]:yA S (az c r):=au2 hc hr
instance iLf {c:iW D α} [hc:bM S c]:rY S (bu c):=BL hc
instance iAg {c:iW D α} [hc:bM S c]:rY S (aF c):=aaG hc
instance iA1 {c:Arg D α} [hc:rY S c]:ny S 1 (a1 c):=afm hc
instance iAc {c:Arg D α} {r:yK D β} {k:Nat} [hc:rY S c] [hr:ny S k r]:ny S (k+1) (aj c r):=qf hc hr
instance iBc {c:iW D α} [hc:bM S c]:jy S (aP c):=amx hc
instance iB1 {c:Blk D α} [hc:jy S c]:um S 1 (b1 c):=aGM hc
instance iBs {c:Blk D α} {r:Jy D β} {k:Nat} [hc:jy S c] [hr:um S k r]:um S (k+1) (iC c r):=auY hc hr
instance iSp {is:(Nat->Sl D)->List It} {c:OW D α} [hc:yA S c]:ru S (bU is c):=aEU hc
instance iSr {is:List It} {c:OW D α} [hc:yA S c]:ru S (shr is c):=aCk hc
theorem kH {c:yK D α}{k n:Nat}[hc:ny S k c](hk:Nat.ble k n=true):P_ S (args c) 0 n:=axs hc hk
theorem oG {c:yK D α}{b:Jy D β}{k m n:Nat}[hc:ny S k c][hb:um S m b](hk:Nat.ble k n=true):P_ S (jW c b) m n:=Fb hc hb hk
end
end Go.Vc
namespace Go.Vc
section
variable {A R:Type}
end
theorem jM {D:Type}{P:Program}{S:Sh D}{f:FuncId}{AS:wM D}{RS:Ho D}{k:Nat}{keep:List Nat}{pre:Nat->AS.A->Option Prop}{fv:Nat->AS.A->RS.X}(h:∀n,fV P S f (oP AS RS k keep (pre n) (fv n)))
  (pre':AS.A->Option Prop) (fv':AS.A->RS.X) (hn:∀a,rf (pre' a)->∃n,rf (pre n a)/\fv n a=fv' a):fV P S f (oP AS RS k keep pre' fv'):=by
 refine⟨(h 0).enters,fun X N g w args nZ dE p r post kp hp hrel hc hpre=> ?_⟩;unfold oP at hc;split at hc
 ·cases hc
 ·rename_i a ha;injection hc with hc
  injection hc with c1 hc
  subst c1;obtain⟨n,q1,q2⟩:=hn a (D8.1 hpre);refine(h n).calls X N g w args nZ dE ((pre n a).map dq) r post kp hp hrel ?_ (D8.2 q1);unfold oP;rw[ha];dsimp only;rw[q2,<-hc]
end Go.Vc
namespace Go.Vc
open Go.RowKit Go.ChangeShapes Go.WideShapes Go.ChangeAt Go.Joins
section
variable {H:Type}{enc:TypeId×Value->H}{P:Program}{W W':World}
theorem Ih (hl:laidOutB P=true)(hb:Below W.heap.size W W'):∀{ts:List TypeId} {vs:List Value} {ds:List (DataW H)} {ps:List MemPlace},(ts.all fun t=>P.readableRec t && decide (t < P.types.size))=true->
  DataW.TrodAll enc P W 0 (fun _=>true) true ts vs ds ps->DataW.TrodAll enc P W' 0 (fun b=>decide (b < W.heap.size)) true ts vs ds ps
 | [],vs,ds,ps,_,h=>by
  obtain⟨rfl,rfl,rfl⟩:=trodAll_nil h;exact trodAll_mk0
 | t::ts,vs,ds,ps,ht,h=>by
  simp only[Qdz,jR,Qbn]at ht;obtain⟨v,vs',d,ds',p,q,rfl,rfl,rfl,h1,h2⟩:=trodAll_cons h;have lt:∀x∈p,x.block < W.heap.size:=by obtain⟨m,hm⟩:=h1;exact DataW.trod_lt m _ _ _ hm
  exact trodAll_cons_mk (Below.trod hl ht.1.1 ht.1.2 h1 hb lt) (Ih hl hb ht.2 h2)
theorem aIm {k:IntKind}{n:Int}(h:(Lit.int k n).wf=true):Cm k n:=by
 cases k<;>simp[Lit.wf,IntKind.min,IntKind.max,IntKind.signed,IntKind.bits]at h<;>simp only[Cm]<;>omega
end
def NoN:Nat->Prop:=fun _=>False
section
variable {D α β:Type}{S:Sh D}{P:Program}
theorem adA {w:World}{d:D}{a:Option Addr}{n cap:Nat}(hn:n=S.len d)(hcap:n<=cap)(hlen:n<=9223372036854775807)(U:Nat->Nat->Value)
  (hcell:∀i j,i < S.len d->j < S.size d->∃ad,a=some ad/\w.cell? (ad.add (i*S.size d+j))=some (U i j))
  (hpl:∀i j,i < S.len d->j < S.size d->Lf.plain (S.cell d i j) (U i j))
  (hdat:∀i j d',i < S.len d->j < S.size d->S.cell d i j= .dat d'->dA S NoN w d' (U i j)) (hno:S.mp d=none):dA S NoN w d (.slice a n cap):=by
 intro w' hs;subst hn;refine Be.mk d hno a cap U hcap hlen (fun i j hi hj=> ?_) hpl (fun i j d' hi hj he=>hdat i j d' hi hj he w' hs);obtain⟨ad,ha,hc⟩:=hcell i j hi hj;refine⟨ad,ha,?_⟩;have hb:(ad.add (i*S.size d+j)).block < w.heap.size:=by
  rcases Qdf (ad.add (i*S.size d+j)).block w.heap.size with h | h
  ·exact h
  ·simp[World.cell?,Qd5 h]at hc
 rw[<-hc];exact World.cell?_of_block (hs _ hb (fun h=>h))
def akq (P:Program)(S:Sh D)(t:TypeId)(c:iW D α)(good:α->Prop):Prop:=
 ∀{H:Type} {enc:TypeId×Value->H} {w:World} {base:Nat} {spare:Nat->Bool} {held:Bool} {fuel:Nat} {cs:List Value} {x:DataW H×List MemPlace},
  DataW.trod enc P w base spare held fuel t cs=some x->∃a,aY S NoN w noG (c.enc a) cs/\good a
theorem fM {t:TypeId}{k:IntKind}(ht:P.underlying t=some (.int k)):akq P S t (fO k) (Cm k):=by
 intro H enc w base spare held fuel cs x h;obtain⟨n,rfl,_,hw⟩:=DataW.trod_int ht h;exact⟨n,⟨rfl,trivial⟩,aIm hw⟩
theorem Tq {t:TypeId}(ht:P.underlying t=some .bool):akq P S t aH fun _=>True:=by
 intro H enc w base spare held fuel cs x h;obtain⟨b,rfl,_⟩:=DataW.trod_bool ht h;exact⟨b,⟨rfl,trivial⟩,trivial⟩
theorem am0 {t:TypeId}(ht:P.underlying t=some .string):akq P S t cStr fun s=>s.length<=9223372036854775807:=by
 intro H enc w base spare held fuel cs x h;obtain⟨s,rfl,_,hs⟩:=DataW.trod_string ht h;have hl:s.data.toList.length<=9223372036854775807:=by
  unfold maxLen at hs;have h2:s.data.toList.length=s.size:=Qj;rw[h2];exact hs
 refine⟨s.data.toList,⟨⟨?_,hl⟩,trivial⟩,hl⟩;cases s;simp
theorem aY.app {M:Nat->Prop}{w:World}{g:Nat->Option Value}:∀{xs ys:List (Lf D)} {us vs:List Value},aY S M w g xs us->aY S M w g ys vs->aY S M w g (xs++ys) (us++vs)
 | [],_,[],_,_,k=>k
 | _::_,_,_::_,_,h,k=>⟨h.1,aY.app h.2 k⟩
theorem afP {Q:Nat->α->Prop}:∀n,(∀i,i < n->∃a,Q i a)->∃l:List α,l.length=n/\∀(i:Nat) (h:i < l.length),Q i l[i]
 | 0,_=>⟨[],rfl,fun i h=>by simp at h⟩
 | n+1,h=>by
  obtain⟨l,hl,hq⟩:=afP n fun i hi=>h i au
  obtain⟨a,ha⟩:=h n au;refine⟨l++[a],by simp[hl],fun i hi=> ?_⟩;by_cases hlt:i < l.length
  ·rw[List.getElem_append_left hlt];exact hq i hlt
  ·have:i=l.length:=by simp at hi;omega
   subst this;simp only[List.getElem_append_right (l9 _),Qeq,List.getElem_cons_zero];rw[hl];exact ha
theorem aY.getD' {M:Nat->Prop}{w:World}{g:Nat->Option Value}{xs:List (Lf D)}{vs:List Value}{j:Nat}(h:aY S M w g xs vs)(hj:j < xs.length):∃v,vs[j]? =some v/\(xs.getD j .any).Rel S M w g v:=by
 have:xs[j]? =some (xs.getD j .any):=by simp[List.getD,hj]
 exact aY.get j h this
def aGs:TypeDesc->Bool
 | .int _ | .bool | .string | .slice _=>true
 | _=>false
def apg:Ho D:=shr [.slot 0 false [none]] (l1 aH)
end
end Go.Vc
