/- Own engine: Vdo, Vdq, Vdp. -/
import Derived.Test.YtenjnekcoapajaaGreatDoorEng10
import Derived.ProofKit
import Derived.OpenShut
import Derived.Lib.SmallJoins
set_option linter.unusedVariables false
set_option linter.unusedSimpArgs false
namespace Go.Vc
open Go.RowKit
universe u
def lk {a:Type u}:List (Nat×a)->Nat->Option a
 | [],_=>none
 | (k,v)::r,n=>if Nat.beq n k then some v else lk r n
theorem Vx {a:Type u}:∀{l:List (Nat×a)} {k:Nat} {v:a},lk l k=some v->(k,v)∈l
 | [],_,_,h=>by simp[lk]at h
 | (b,c)::r,k,v,h=>by
  simp only[lk]at h;split at h
  ·simp_all
  ·exact Qax _ (Vx h)
abbrev Str:=List UInt8
structure iT (D α:Type) where
 n:Nat
 enc:α->List (Lf D)
 dec:List (Lf D)->Option α
class bQ {D α:Type} (S:Sh D) (c:iT D α):Prop where
 ok:∀xs a,c.dec xs=some a->XF S xs (c.enc a)
 len:∀a,(c.enc a).length=c.n
 data:∀a x,x∈c.enc a->x.jr=true
section
variable {D α β:Type}{S:Sh D}
theorem XF.app:∀{a b c d:List (Lf D)},XF S a b->XF S c d->XF S (a++c) (b++d)
 | [],[],_,_,_,k=>k
 | x::e,y::f,_,_,h,k=>⟨h.1,h.2.1,XF.app h.2.2 k⟩
theorem XF.length:∀{a b:List (Lf D)},XF S a b->a.length=b.length
 | [],[],_=>rfl
 | _::_,_::_,h=>by simp[XF.length h.2.2]
theorem XF.get:∀{a b:List (Lf D)},XF S a b->∀(i:Nat) (y:Lf D),b[i]? =some y->∃x,a[i]? =some x/\x.Le S y
 | [],[],_,i,y,h=>by simp at h
 | x::d,y::e,h,0,z,c=>by simp at c;subst c;exact⟨x,rfl,h.1⟩
 | x::d,y::e,h,i+1,z,c=>by simpa using XF.get h.2.2 i z (by simpa using c)
theorem Lf.Le.refl (x:Lf D):x.Le S x:= .inl rfl
theorem azj {x y:Lf D}(h:x.Le S y)(a:x.jr=true):y=x:=by
 rcases h with h | ⟨h,_⟩ | ⟨b,h,_⟩ | ⟨_,_,_,_,h,_⟩ | ⟨_,h,_⟩
 ·exact h.symm
 ·subst h;simp[Lf.jr]at a
 ·subst h;simp[Lf.jr]at a
 ·subst h;simp[Lf.jr]at a
 ·subst h;simp[Lf.jr]at a
def cInt (k:IntKind):iT D Int:=⟨1,fun n=>[.int k n],fun a=>match a with
 | [.int b n]=>if kEq k b then some n else none
 | _=>none⟩
def cBool:iT D Bool:=⟨1,fun b=>[.bool b],fun a=>match a with
 | [.bool b]=>some b
 | [.val (.bool b)]=>some b
 | _=>none⟩
def cStr:iT D (List UInt8):=⟨1,fun s=>[.str s],fun a=>match a with
 | [.str s]=>some s
 | _=>none⟩
def tX (c:α->D)(f:D->Option α)(b:α):iT D α:=⟨1,fun a=>[.dat (c a)],fun g=>match g with
 | [.dat d]=>f d
 | [.val v]=>if Bq v then some b else none
 | [.xt e]=>(match e with
  | .clip d=>f d
  | _=>none)
 | _=>none⟩
def aC7:iT D (Option Ifc):=⟨1,fun v=>[.Xw v],fun b=>match b with
 | [.Xw v]=>some v
 | [.xt (.ifd t d a)]=>(match OL a with
  | some c=>some (some ⟨t,d,c⟩)
  | none=>none)
 | _=>none⟩
def amZ:iT D Unit:=⟨0,fun _=>[],fun a=>match a with
 | []=>some ()
 | _=>none⟩
def df (c:iT D α)(d:iT D β):iT D (α×β):=⟨c.n+d.n,fun p=>c.enc p.1++d.enc p.2,fun e=>match c.dec (e.take c.n),d.dec (e.drop c.n)with
 | some a,some b=>some (a,b)
 | _,_=>none⟩
def nR (c:iT D α)(f:α->β)(g:β->α):iT D β:=⟨c.n,fun b=>c.enc (g b),fun d=>match c.dec d with
 | some a=>some (f a)
 | none=>none⟩
def tY (c:iT D α)(d:α)(l:List α):Nat->Nat->List (Lf D)
 | _,0=>[]
 | i,n+1=>c.enc (l.getD i d)++tY c d l (i+1) n
def TB (c:iT D α):Nat->List (Lf D)->Option (List α)
 | 0,[]=>some []
 | 0,_=>none
 | n+1,b=>(match c.dec (b.take c.n),TB c n (b.drop c.n)with
  | some a,some l=>some (a::l)
  | _,_=>none)
def XV (n:Nat)(d:α)(c:iT D α):iT D (List α):=⟨n*c.n,fun l=>tY c d l 0 n,TB c n⟩
theorem VH {c:iT D α}(a:bQ S c)(d:α)(l:List α):∀(n i:Nat),(tY c d l i n).length=n*c.n
 | 0,i=>by simp[tY]
 | n+1,i=>by rw[tY,uX,a.len,VH a d l n (i+1),Nat.succ_mul];omega
theorem OM {c:iT D α}(a:bQ S c)(d:α)(l:List α):∀(n i:Nat) (x:Lf D),x∈tY c d l i n->x.jr=true
 | 0,i,x,h=>by simp[tY]at h
 | n+1,i,x,h=>by
  simp only[tY,vO]at h;rcases h with h | h
  ·exact a.data _ _ h
  ·exact OM a d l n (i+1) x h
theorem Lh (c:iT D α)(d a:α)(l:List α):∀(n i:Nat),tY c d (a::l) (i+1) n=tY c d l i n
 | 0,i=>rfl
 | n+1,i=>by simp only[tY,Qch,Lh c d a l n (i+1)]
theorem Zk {c:iT D α}(e:bQ S c)(d:α):∀(n:Nat) (b:List (Lf D)) (l:List α),TB c n b=some l->XF S b (tY c d l 0 n)
 | 0,b,l,h=>by
  cases b with
  | nil=>trivial
  | cons x b=>simp[TB]at h
 | n+1,b,l,h=>by
  unfold TB at h;split at h
  ·rename_i a i f g;injection h with h
   subst h;have:=XF.app (e.ok _ _ f) (Zk e d n _ _ g);rw[Qa3]at this;simp only[tY,Qci]
   grind [Lh]
  ·cases h
theorem ayN {n:Nat}{d:α}{c:iT D α}(a:bQ S c):bQ S (XV n d c):=
 ⟨fun b l h=>Zk a d n b l h,fun l=>VH a d l n 0,fun l x e=>OM a d l n 0 x e⟩
theorem lT (k:IntKind):bQ S (cInt (D:=D) k):=by
 refine⟨fun d a h=> ?_,fun _=>rfl,fun a x c=> ?_⟩
 ·simp only[cInt]at h;split at h
  ·split at h
   ·rename_i b;injection h with h
    subst h;simp only[kEq,Qbw]at b;subst b;exact⟨.inl rfl,rfl,trivial⟩
   ·cases h
  ·cases h
 ·simp[cInt]at c;subst c;rfl
theorem JI:bQ S (cBool (D:=D)):=by
 refine⟨fun c a h=> ?_,fun _=>rfl,fun a x b=> ?_⟩
 ·simp only[cBool]at h;split at h
  ·injection h with h;subst h;exact⟨.inl rfl,rfl,trivial⟩
  ·injection h with h;subst h;exact⟨.inr (.inr (.inl ⟨_,rfl,rfl⟩)),rfl,trivial⟩
  ·cases h
 ·simp[cBool]at b;subst b;rfl
theorem ac0:bQ S (cStr (D:=D)):=by
 refine⟨fun c a h=> ?_,fun _=>rfl,fun a x b=> ?_⟩
 ·simp only[cStr]at h;split at h
  ·injection h with h;subst h;exact⟨.inl rfl,rfl,trivial⟩
  ·cases h
 ·simp[cStr]at b;subst b;rfl
theorem aAi:bQ S (aC7 (D:=D)):=by
 refine⟨fun d a h=> ?_,fun _=>rfl,fun a x b=> ?_⟩
 ·simp only[aC7]at h;split at h
  ·injection h with h;subst h;exact⟨.inl rfl,rfl,trivial⟩
  ·split at h
   ·rename_i e c;injection h with h;subst h;exact⟨.inr (.inr (.inr (.inl ⟨_,_,_,_,rfl,rfl,c⟩))),rfl,trivial⟩
   ·cases h
  ·cases h
 ·simp[aC7]at b;subst b;rfl
theorem ja {b:α->D}{g:D->Option α}{c:α}(f:∀d a,g d=some a->d=b a)(k:S.len (b c)=0)(e:S.mp (b c)=none:=by rfl):bQ S (tX b g c):=by
 refine⟨fun l a h=> ?_,fun _=>rfl,fun a x i=> ?_⟩
 ·simp only[tX]at h;split at h
  ·rw[f _ _ h];exact⟨.inl rfl,rfl,trivial⟩
  ·split at h
   ·rename_i j;injection h with h
    subst h;rw[adf j];exact⟨.inr (.inl ⟨rfl,_,rfl,k,e⟩),rfl,trivial⟩
   ·cases h
  ·split at h
   ·rw[f _ _ h];exact⟨.inr (.inr (.inr (.inr ⟨_,rfl,rfl⟩))),rfl,trivial⟩
   ·cases h
  ·cases h
 ·simp[tX]at i;subst i;rfl
theorem Jv:bQ S (amZ (D:=D)):=by
 refine⟨fun c a h=> ?_,fun _=>rfl,fun a x b=> ?_⟩
 ·simp only[amZ]at h;split at h
  ·trivial
  ·cases h
 ·simp[amZ]at b
theorem asM {c:iT D α}{d:iT D β}(f:bQ S c)(e:bQ S d):bQ S (df c d):=by
 refine⟨fun k a h=> ?_,fun a=>by simp[df,f.len,e.len],fun a x i=> ?_⟩
 ·simp only[df]at h;split at h
  ·rename_i a b g j;injection h with h
   subst h;have:=XF.app (f.ok _ _ g) (e.ok _ _ j);rwa [Qa3]at this
  ·cases h
 ·simp only[df,vO]at i
  grind [bQ.data]
theorem gu {c:iT D α}{f:α->β}{g:β->α}(b:bQ S c)(e:∀a,g (f a)=a):bQ S (nR c f g):=by
 refine⟨fun j a h=> ?_,fun a=>b.len _,fun a x i=>b.data _ _ i⟩;simp only[nR]at h;split at h
 ·rename_i k d;injection h with h
  subst h;simp only[nR,e];exact b.ok _ _ d
 ·cases h
structure mM (D α:Type) where
 enc:α->List (List (Lf D))
 dec:List (List (Lf D))->Option α
class xZ (S:Sh D) (c:mM D α):Prop where
 ok:∀xs a,c.dec xs=some a->aij S xs (c.enc a)
def l0:mM D Unit:=⟨fun _=>[],fun a=>match a with
 | []=>some ()
 | _=>none⟩
def l1 (c:iT D α):mM D α:=⟨fun a=>[c.enc a],fun b=>match b with
 | [x]=>c.dec x
 | _=>none⟩
def aJ (c:iT D α)(r:mM D β):mM D (α×β):=⟨fun p=>c.enc p.1::r.enc p.2,fun d=>match d with
 | x::d=>(match c.dec x,r.dec d with
  | some a,some b=>some (a,b)
  | _,_=>none)
 | _=>none⟩
theorem aHW:xZ S (l0 (D:=D)):=⟨fun b a h=>by
 simp only[l0]at h;split at h
 ·trivial
 ·cases h⟩
theorem aBY {c:iT D α}(b:bQ S c):xZ S (l1 c):=⟨fun d a h=>by
 simp only[l1]at h;split at h
 ·exact⟨b.ok _ _ h,trivial⟩
 ·cases h⟩
theorem av6 {c:iT D α}{r:mM D β}(e:bQ S c)(f:xZ S r):xZ S (aJ c r):=⟨fun i a h=>by
 simp only[aJ]at h;split at h
 ·split at h
  ·rename_i a b d g;injection h with h
   subst h;exact⟨e.ok _ _ d,f.ok _ _ g⟩
  ·cases h
 ·cases h⟩
def bD (a:(Nat->Sl D)->List It)(c:mM D α):Shp D:=⟨α,a,c.enc,c.dec⟩
def shr (a:List It)(c:mM D α):Shp D:=⟨α,fun _=>a,c.enc,c.dec⟩
theorem aEo {a:(Nat->Sl D)->List It}{c:mM D α}(b:xZ S c):ShpOk S (bD a c):=⟨b.ok⟩
theorem auf {a:List It}{c:mM D α}(b:xZ S c):ShpOk S (shr a c):=⟨b.ok⟩
structure ACod (D α:Type) where
 enc:α->List (Sl D)
 dec:List (Sl D)->Option α
class lI (S:Sh D) (k:outParam Nat) (c:ACod D α):Prop where
 ok:∀xs a,c.dec xs=some a->aam S xs (c.enc a)
 len:∀a,(c.enc a).length=k
structure BCod (D α:Type) where
 enc:α->List (Bk D)
 dec:List (Bk D)->Option α
class rZ (S:Sh D) (k:outParam Nat) (c:BCod D α):Prop where
 ok:∀xs a,c.dec xs=some a->He S xs (c.enc a)
 len:∀a,(c.enc a).length=k
structure Arg (D α:Type) where
 enc:α->Sv D
 dec:Sv D->Option α
class rY (S:Sh D) (c:Arg D α):Prop where
 ok:∀x a,c.dec x=some a->aw_ S x (c.enc a)
def lf0:List (Lf D)->Lf D
 | [x]=>x
 | _=> .any
def aLf (c:iT D α):Arg D α:=⟨fun a=> .lf (lf0 (c.enc a)),fun x=>match x with
 | .lf x=>c.dec [x]
 | _=>none⟩
def aAgg (c:iT D α):Arg D α:=⟨fun a=> .agg (c.enc a),fun x=>match x with
 | .agg b=>c.dec b
 | _=>none⟩
def aPtr (l:Nat):Arg D Unit:=⟨fun _=> .lf (.ptr l 0),fun x=>match x with
 | .lf (.ptr a o)=>if Nat.beq l a && Nat.beq o 0 then some ()else none
 | _=>none⟩
def aOwn (l:Nat):Arg D Unit:=⟨fun _=> .lf (.own l),fun x=>match x with
 | .lf (.own a)=>if Nat.beq l a then some ()else none
 | _=>none⟩
def aHR (l b:Nat):Arg D Nat:=⟨fun i=> .lf (.opt l i 0 b),fun x=>match x with
 | .lf (.opt c i j a)=>if Nat.beq l c && Nat.beq j 0 && Nat.beq b a then some i else none
 | _=>none⟩
def OJ:List Nat->List Nat->Bool
 | [],[]=>true
 | x::a,y::b=>Nat.beq x y && OJ a b
 | _,_=>false
theorem LV:∀{a b:List Nat},OJ a b=true->a=b
 | [],[],_=>rfl
 | x::a,y::b,h=>by
  simp only[OJ,iZ]at h;rw[Qa h.1,LV h.2]
 | [],_::_,h=>by simp[OJ]at h
 | _::_,[],h=>by simp[OJ]at h
def aFn (f:Nat)(a:List Nat):Arg D Unit:=⟨fun _=> .lf (.fn f a),fun x=>match x with
 | .lf (.fn c b)=>if Nat.beq f c && OJ a b then some ()else none
 | _=>none⟩
def aFnA (f:Nat)(a:List Nat):Arg D Unit:=⟨fun _=> .agg [.fn f a],fun x=>match x with
 | .agg [.fn c b]=>if Nat.beq f c && OJ a b then some ()else none
 | _=>none⟩
theorem nK {c:iT D α}(d:bQ S c):rY S (aLf c):=⟨fun x a h=>by
 simp only[aLf]at h⊢;split at h
 ·have:=d.ok _ _ h;generalize c.enc a=b at this;cases b with
  | nil=>exact this.elim
  | cons y b=>
   cases b with
   | cons _ _=>exact this.2.2.elim
   | nil=>exact this.1
 ·cases h⟩
theorem XF.les:∀{a b:List (Lf D)},XF S a b->Md S a b
 | [],[],_=>trivial
 | _::_,_::_,h=>⟨h.1,XF.les h.2.2⟩
theorem aco {c:iT D α}(b:bQ S c):rY S (aAgg c):=⟨fun x a h=>by
 simp only[aAgg]at h⊢;split at h
 ·exact(b.ok _ _ h).les
 ·cases h⟩
theorem yA (l:Nat):rY S (aPtr (D:=D) l):=⟨fun x a h=>by
 simp only[aPtr]at h⊢;split at h
 ·split at h
  ·rename_i b;simp only[iZ]at b;rw[<-Qa b.1,Qa b.2];exact .inl rfl
  ·cases h
 ·cases h⟩
theorem aAE (l:Nat):rY S (aOwn (D:=D) l):=⟨fun x a h=>by
 simp only[aOwn]at h⊢;split at h
 ·split at h
  ·rename_i b;rw[<-Qa b];exact .inl rfl
  ·cases h
 ·cases h⟩
theorem aAr (l c:Nat):rY S (aHR (D:=D) l c):=⟨fun x a h=>by
 simp only[aHR]at h⊢;split at h
 ·split at h
  ·rename_i b;simp only[iZ]at b;injection h with h
   subst h;rw[<-Qa b.1.1,Qa b.1.2,<-Qa b.2];exact .inl rfl
  ·cases h
 ·cases h⟩
def aHM (l b:Nat):Arg D Unit:=⟨fun _=> .lf (.opt l 0 0 b),fun x=>match x with
 | .lf (.opt c i j a)=>if Nat.beq l c && (Nat.beq i 0 && (Nat.beq j 0 && Nat.beq b a))then some ()else none
 | _=>none⟩
theorem az6 (l c:Nat):rY S (aHM (D:=D) l c):=⟨fun x a h=>by
 simp only[aHM]at h⊢;split at h
 ·split at h
  ·rename_i b;simp only[iZ]at b;rw[<-Qa b.1,Qa b.2.1,Qa b.2.2.1,<-Qa b.2.2.2];exact .inl rfl
  ·cases h
 ·cases h⟩
theorem aCV (f:Nat)(b:List Nat):rY S (aFn (D:=D) f b):=⟨fun x a h=>by
 simp only[aFn]at h⊢;split at h
 ·split at h
  ·rename_i c;simp only[iZ]at c;rw[<-Qa c.1,<-LV c.2];exact .inl rfl
  ·cases h
 ·cases h⟩
theorem az7 (f:Nat)(b:List Nat):rY S (aFnA (D:=D) f b):=⟨fun x a h=>by
 simp only[aFnA]at h⊢;split at h
 ·split at h
  ·rename_i c;simp only[iZ]at c;rw[<-Qa c.1,<-LV c.2];exact⟨.inl rfl,trivial⟩
  ·cases h
 ·cases h⟩
def a0:ACod D Unit:=⟨fun _=>[],fun a=>match a with
 | []=>some ()
 | _=>none⟩
def a1 (c:Arg D α):ACod D α:=⟨fun a=>[.one (c.enc a)],fun b=>match b with
 | [.one x]=>c.dec x
 | _=>none⟩
def aCons (c:Arg D α)(r:ACod D β):ACod D (α×β):=⟨fun p=> .one (c.enc p.1)::r.enc p.2,fun d=>match d with
 | .one x::d=>(match c.dec x,r.dec d with
  | some a,some b=>some (a,b)
  | _,_=>none)
 | _=>none⟩
theorem aGV:lI S 0 (a0 (D:=D)):=by
 refine⟨fun b a h=> ?_,fun _=>rfl⟩;simp only[a0]at h;split at h
 ·trivial
 ·cases h
theorem OH {c:Arg D α}(b:rY S c):lI S 1 (a1 c):=by
 refine⟨fun d a h=> ?_,fun _=>rfl⟩;simp only[a1]at h;split at h
 ·exact⟨b.ok _ _ h,trivial⟩
 ·cases h
theorem iK {c:Arg D α}{r:ACod D β}{k:Nat}(f:rY S c)(d:lI S k r):lI S (k+1) (aCons c r):=by
 refine⟨fun i a h=> ?_,fun a=>by simp[aCons,d.len]⟩;simp only[aCons]at h;split at h
 ·split at h
  ·rename_i a b e g;injection h with h
   subst h;exact⟨f.ok _ _ e,d.ok _ _ g⟩
  ·cases h
 ·cases h
structure Blk (D α:Type) where
 enc:α->Bk D
 dec:Bk D->Option α
class xY (S:Sh D) (c:Blk D α):Prop where
 ok:∀x a,c.dec x=some a->X0 S x (c.enc a)
def bCells (c:iT D α):Blk D α:=⟨fun a=> .cells (c.enc a),fun x=>match x with
 | .cells b=>c.dec b
 | _=>none⟩
def bRow (e:TypeId)(b:α->D)(c:D->Option α):Blk D α:=⟨fun a=> .row e (b a),fun x=>match x with
 | .row f d=>if Nat.beq e f then c d else none
 | _=>none⟩
theorem aoh {c:iT D α}(b:bQ S c):xY S (bCells c):=⟨fun x a h=>by
 simp only[bCells]at h⊢;split at h
 ·exact(b.ok _ _ h).les
 ·cases h⟩
theorem acw {e:TypeId}{b:α->D}{c:D->Option α}(g:∀d a,c d=some a->d=b a):xY S (bRow e b c):=⟨fun x a h=>by
 simp only[bRow]at h⊢;split at h
 ·split at h
  ·rename_i f;exact⟨(Qa f).symm,g _ _ h⟩
  ·cases h
 ·cases h⟩
def b1 (c:Blk D α):BCod D α:=⟨fun a=>[c.enc a],fun b=>match b with
 | [x]=>c.dec x
 | _=>none⟩
def kC (c:Blk D α)(r:BCod D β):BCod D (α×β):=⟨fun p=>c.enc p.1::r.enc p.2,fun d=>match d with
 | x::d=>(match c.dec x,r.dec d with
  | some a,some b=>some (a,b)
  | _,_=>none)
 | _=>none⟩
theorem aGS {c:Blk D α}(b:xY S c):rZ S 1 (b1 c):=by
 refine⟨fun d a h=> ?_,fun _=>rfl⟩;simp only[b1]at h;split at h
 ·exact⟨b.ok _ _ h,trivial⟩
 ·cases h
theorem asX {c:Blk D α}{r:BCod D β}{k:Nat}(f:xY S c)(d:rZ S k r):rZ S (k+1) (kC c r):=by
 refine⟨fun i a h=> ?_,fun a=>by simp[kC,d.len]⟩;simp only[kC]at h;split at h
 ·split at h
  ·rename_i a b e g;injection h with h
   subst h;exact⟨f.ok _ _ e,d.ok _ _ g⟩
  ·cases h
 ·cases h
def yI:List (Option TypeId)->List (Lf D)->Nat->List (Bk D)->Option (List (Lf D))
 | [],[],_,[]=>some []
 | none::f,x::b,n,a=>(match yI f b n a with
  | some c=>some (x::c)
  | none=>none)
 | some e::f, .own k::b,n, .row g d::a=>if Nat.beq k n && Nat.beq e g then(match yI f b (n+1) a with
  | some c=>some (.dat d::c)
  | none=>none)else none
 | _,_,_,_=>none
def bOwn (n:Nat)(d:List (Option TypeId))(c:iT D α):BCod D α:=⟨fun a=> .cells (kF d (c.enc a) n).1::(kF d (c.enc a) n).2.1.map (·.2),fun f=>match f with
 | .cells e::b=>(match yI d e n b with
  | some g=>c.dec g
  | none=>none)
 | _=>none⟩
theorem Xe:∀(f:List (Option TypeId)) (i g b:List (Lf D)) (n:Nat) (a:List (Bk D)),yI f i n a=some g->XF S g b->Md S i (kF f b n).1/\He S a ((kF f b n).2.1.map (·.2))
 | [],[],g,b,n,a,h,c=>by
  cases a with
  | cons _ _=>simp[yI]at h
  | nil=>
   simp only[yI,XM]at h;subst h;cases b with
   | cons _ _=>exact c.elim
   | nil=>exact⟨trivial,trivial⟩
 | [],x::i,g,b,n,a,h,c=>by simp[yI]at h
 | none::f,[],g,b,n,a,h,c=>by simp[yI]at h
 | none::f,x::i,g,b,n,a,h,c=>by
  simp only[yI]at h;split at h
  ·rename_i j l;injection h with h
   subst h;cases b with
   | nil=>exact c.elim
   | cons z b=>
    obtain⟨m,o⟩:=Xe f i j b n a l c.2.2;exact⟨⟨c.1,m⟩,o⟩
  ·cases h
 | some e::f,[],g,b,n,a,h,c=>by simp[yI]at h
 | some e::f,x::i,g,b,n,a,h,c=>by
  cases a with
  | nil=>cases x<;>simp[yI]at h
  | cons r a=>
   cases x with
   | own k=>
    cases r with
    | row t d=>
     simp only[yI]at h;split at h
     ·rename_i p;simp only[iZ]at p;have s:=Qa p.1;have q:=Qa p.2;subst s q;split at h
      ·rename_i j l;injection h with h
       subst h;cases b with
       | nil=>exact c.elim
       | cons z b=>
        have:=BI c.1;subst this;obtain⟨m,o⟩:=Xe f i j b (k+1) a l c.2.2;exact⟨⟨.inl rfl,m⟩,⟨rfl,rfl⟩,o⟩
      ·cases h
     ·cases h
    | _=>simp[yI]at h
   | _=>simp[yI]at h
theorem A_ {n k:Nat}{b:List (Option TypeId)}{c:iT D α}(e:bQ S c)(d:∀a,(kF b (c.enc a) n).2.1.length=k):rZ S (k+1) (bOwn n b c):=by
 refine⟨fun i a h=> ?_,fun a=>by simp[bOwn,d]⟩;simp only[bOwn]at h;split at h
 ·split at h
  ·rename_i f g;exact Xe b _ f _ n _ g (e.ok _ _ h)
  ·cases h
 ·cases h
def args (c:ACod D α):qF D:=⟨α,fun a=>(c.enc a,[]),fun b d=>match d with
 | []=>c.dec b
 | _=>none⟩
def jG (c:ACod D α)(b:BCod D β):qF D:=⟨α×β,fun p=>(c.enc p.1,b.enc p.2),fun d e=>match c.dec d,b.dec e with
 | some a,some b=>some (a,b)
 | _,_=>none⟩
theorem aAI {c:ACod D α}{k n:Nat}(b:lI S k c)(d:Nat.ble k n=true):Qi S (args c) 0 n:=by
 refine⟨fun e f a h=> ?_,fun _=>rfl,fun(a:α)=>(b.len a).symm▸Qat d⟩;simp only[args]at h;split at h
 ·exact⟨b.ok _ _ h,trivial⟩
 ·cases h
theorem uN {c:ACod D α}{b:BCod D β}{k m n:Nat}(d:lI S k c)(e:rZ S m b)(g:Nat.ble k n=true):Qi S (jG c b) m n:=by
 refine⟨fun j l a h=> ?_,fun a=>e.len _,fun(a:α×β)=>(d.len a.1).symm▸Qat g⟩;simp only[jG]at h;split at h
 ·rename_i a b f i;injection h with h
  subst h;exact⟨d.ok _ _ f,e.ok _ _ i⟩
 ·cases h
structure El (D:Type):Type 1 where
 α:Type
 QI:iT D α
 dflt:α
 inj:List α->D
 Oz:D->Option (List α)
def FB (c:iT D α):Nat->List (Lf D)->Option (List α)
 | 0,[]=>some []
 | 0,_::_=>none
 | n+1,cs=>(match c.dec (cs.take c.n),FB c n (cs.drop c.n)with
  | some a,some l=>some (a::l)
  | _,_=>none)
abbrev Vw (D:Type):=(E:El D)×List E.α
def Vw.size (p:Vw D):Nat:=p.1.QI.n
def Vw.len (p:Vw D):Nat:=p.2.length
def Vw.cell (p:Vw D)(i j:Nat):Lf D:=(p.1.QI.enc (p.2.getD i p.1.dflt)).getD j .any
def Vw.set (p:Vw D)(i j:Nat)(b:List (Lf D)):Option D:=match p.1.QI.dec (putAt (p.1.QI.enc (p.2.getD i p.1.dflt)) j b)with
 | some a=>some (p.1.inj (p.2.set i a))
 | none=>none
def Vw.cat (p:Vw D)(d:D):Option D:=match p.1.Oz d with
 | some l=>some (p.1.inj (p.2++l))
 | none=>none
def Vw.sub (p:Vw D)(i j:Nat):Option D:=some (p.1.inj ((p.2.take j).drop i))
def sK (view:D->Vw D)(nC:TypeId->Option (El D))(MB:Nat->Option D:=fun _=>none)(txt:TypeId->List UInt8->Option D:=fun _ _=>none)(AX:D->Option (Mp D):=fun _=>none)(GY:TypeId->Option D:=fun _=>none):Sh D where
 mp:=AX
 aqM:=GY
 MB:=MB
 text:=txt
 size d:=(view d).size
 len d:=(view d).len
 cell d i j:=(view d).cell i j
 make e n cs:=match nC e with
  | none=>none
  | some E=>(match FB E.QI n cs with
   | some l=>some (E.inj l)
   | none=>none)
 zero e n zs:=match nC e with
  | none=>none
  | some E=>(match E.QI.dec zs with
   | some z=>some (E.inj (List.replicate n z))
   | none=>none)
 set d i j xs:=(view d).set i j xs
 cat d1 d2:=(view d1).cat d2
 sub d i j:=match AX d with
  | none=>(view d).sub i j
  | some _=>none
def XD (s:List UInt8):List Int:=s.map fun b=>(b.toNat:Int)
theorem avK (s:List UInt8)(i:Nat):(XD s).getD i 0=((s.getD i 0).toNat:Int):=by
 unfold XD;by_cases h:i < s.length
 ·simp[List.getD,Qb1,h]
 ·simp[List.getD,Qb1,List.getElem?_eq_none (by omega:s.length<=i)]
abbrev aCX (n:Nat)(x:Int):List Int:=List.replicate n x
def Jo (l:List Int):List UInt8:=(List.range l.length).map fun i=>UInt8.ofNat (l.getD i 0).toNat
theorem aaN (l:List Int):Jo l=l.map fun n=>UInt8.ofNat n.toNat:=by
 unfold Jo;refine List.ext_getElem? fun i=> ?_
 grind
@[simp] theorem aIP:Jo []=[]:=rfl
theorem abZ (s:List UInt8):Jo (XD s)=s:=by
 rw[aaN];unfold XD;rw[Qc5];conv=>rhs;rw[<-Qd8 s]
 exact Qbl fun b _=>by simp
def ab2 (l:List Int)(i:Nat):Bool:=decide (0<=l.getD i 0) && decide (l.getD i 0 < 256)
theorem Wx (s:List UInt8)(i:Nat):ab2 (XD s) i=true:=by
 unfold ab2;rw[avK];have:=(s.getD i 0).toNat_lt
 grind
theorem qp (l:List Int):(Jo l).length=l.length:=by simp[aaN]
theorem v_ (s:List UInt8):(XD s).length=s.length:=by simp[XD]
theorem oL {f:Nat->Bool}(h:∀i,f i=true):∀n,BQ f n=true
 | 0=>rfl
 | n+1=>by simp[BQ,h n,oL h n]
structure axa (S:Sh D)(view:D->Vw D)(nC:TypeId->Option (El D)):Prop where
 el:∀e E,nC e=some E->∀l,view (E.inj l)=⟨E,l⟩
 vw:∀d l,view ((view d).1.inj l)=⟨(view d).1,l⟩
 Oz:∀d d2 l2,(view d).1.Oz d2=some l2->view d2=⟨(view d).1,l2⟩
 QI:∀d,bQ S (view d).1.QI
theorem I8 {c:iT D α}(e:bQ S c):∀(n:Nat) (cs:List (Lf D)) (l:List α),FB c n cs=some l->l.length=n/\cs.length=n*c.n/\∀(i j:Nat) (b:α),i < n->j < c.n->∃x,cs[i*c.n+j]? =some x/\x.Le S ((c.enc (l.getD i b)).getD j .any)
 | 0,[],l,h=>by
  injection h with h
  grind
 | 0,_::_,l,h=>by simp[FB]at h
 | n+1,cs,l,h=>by
  unfold FB at h;split at h
  ·rename_i a t m r;injection h with h
   subst h;obtain⟨s,v,o⟩:=I8 e n _ t r;have d:=e.ok _ _ m;have f:=d.length;rw[e.len]at f;have p:c.n<=cs.length:=by grind
   refine⟨by simp[s],?_,fun i j b w u=> ?_⟩
   ·grind
   ·cases i with
    | zero=>
     have k:(c.enc a)[j]? =some ((c.enc a).getD j .any):=by
      grind [bQ.len]
     obtain⟨x,q,g⟩:=d.get j _ k
     grind
    | succ i=>
     obtain⟨x,q,g⟩:=o i j b aj u
     grind
  ·cases h
theorem getD_some {l:List α}{i:Nat}{d:α}(h:i < l.length):l.getD i d=l[i]:=by grind
structure aw9 (S:Sh D)(view:D->Vw D)(nC:TypeId->Option (El D))(gl:Nat->Option D)(txt:TypeId->List UInt8->Option D)(AX:D->Option (Mp D))(GY:TypeId->Option D):Prop where
 inj:∀d l,AX ((view d).1.inj l)=none
 el:∀e E,nC e=some E->∀l,AX (E.inj l)=none
 txt:∀e s d,txt e s=some d->AX d=none
 MB:∀i d,gl i=some d->AX d=none
 size:∀d m,AX d=some m->(view d).len=0/\(view d).size=0/\aA5 S m
 new:∀t d,GY t=some d->∃m,AX d=some m/\m.kvs=[]
theorem arR {view:D->Vw D}{nC:TypeId->Option (El D)}{g:Nat->Option D}{f:TypeId->List UInt8->Option D}{AX:D->Option (Mp D)}{GY:TypeId->Option D}(h:axa (sK view nC g f AX GY) view nC)
  (ht:∀e s d,f e s=some d->(sK view nC g f AX GY).size d=1/\(sK view nC g f AX GY).len d=s.length/\∀i,i < s.length->(sK view nC g f AX GY).cell d i 0= .int .u8 (s.getD i 0).toNat) (G:aw9 (sK view nC g f AX GY) view nC g f AX GY):ShOk (sK view nC g f AX GY):=by
 have htx:∀e s d,(sK view nC g f AX GY).text e s=some d->(sK view nC g f AX GY).size d=1/\(sK view nC g f AX GY).len d=s.length/\∀i,i < s.length->(sK view nC g f AX GY).cell d i 0= .int .u8 (s.getD i 0).toNat:=ht;clear ht;have u:∀d,(sK view nC g f AX GY).size d=(view d).size:=fun _=>rfl
 have q:∀d,(sK view nC g f AX GY).len d=(view d).len:=fun _=>rfl
 have B:∀d i j,(sK view nC g f AX GY).cell d i j=(view d).cell i j:=fun _ _ _=>rfl
 have C:∀d i j F,(sK view nC g f AX GY).set d i j F=(view d).set i j F:=fun _ _ _ _=>rfl
 have V:∀d A,(sK view nC g f AX GY).cat d A=(view d).cat A:=fun _ _=>rfl
 have N:∀d i j A,(sK view nC g f AX GY).sub d i j=some A->(view d).sub i j=some A/\AX d=none:=by
  intro d i j A J;simp only[sK]at J
  grind
 have o:∀d,(sK view nC g f AX GY).mp d=AX d:=fun _=>rfl
 have hnw:∀t,(sK view nC g f AX GY).aqM t=GY t:=fun _=>rfl
 have Z:∀t,(sK view nC g f AX GY).MB t=g t:=fun _=>rfl
 have htt:∀e s,(sK view nC g f AX GY).text e s=f e s:=fun _ _=>rfl
 have U:∀e n cs d,(sK view nC g f AX GY).make e n cs=some d->∃E l,nC e=some E/\FB E.QI n cs=some l/\E.inj l=d:=by
  intro e n cs d b;simp only[sK]at b
  grind
 have R:∀e n H d,(sK view nC g f AX GY).zero e n H=some d->∃E z,nC e=some E/\E.QI.dec H=some z/\E.inj (List.replicate n z)=d:=by
  intro e n H d b;simp only[sK]at b
  grind
 generalize sK view nC g f AX GY=S at*;refine⟨fun e n cs d b=> ?_,fun d i j w y=> ?_,fun e n H d b=> ?_,fun d i j F A b w=> ?_,fun d1 d2 d b=> ?_,fun d i j A b hij y=> ?_,htx,
  fun e n cs d b=> ?_,fun e n H d b=> ?_,fun d i j F A b _=> ?_,fun d1 d2 d b=> ?_,fun d i j A b=> ?_,fun e s d b=> ?_,fun d m b=> ?_,fun t d J=> ?_,fun i d J=> ?_⟩
 ·obtain⟨E,l,K,hl,rfl⟩:=U e n cs d b;have v:=h.el e E K l;have p:=h.QI (E.inj l);rw[v]at p;obtain⟨q1,q2,q3⟩:=I8 p n cs l hl;simp only[u,q,B,v];exact⟨q1,q2,fun i j w y=>q3 i j _ w y⟩
 ·rw[B];unfold Vw.cell;rw[u]at y;have M:=h.QI d;have hlt:j < ((view d).1.QI.enc ((view d).2.getD i (view d).1.dflt)).length:=by rw[M.len];exact y
  grind [bQ.data,getD_some]
 ·obtain⟨E,z,K,Y,rfl⟩:=R e n H d b;have v:=h.el e E K (List.replicate n z);have p:=h.QI (E.inj (List.replicate n z));rw[v]at p;have p:bQ S E.QI:=p;have I:=p.ok _ _ Y;simp only[u,q,B,v];refine⟨by simp[Vw.len],by rw[I.length,p.len];rfl,fun i j w y=> ?_⟩;have y:j < E.QI.n:=y;have X:(List.replicate n z).getD i E.dflt=z:=by
   grind
  show ∃x,H[j]? =some x/\x.Le S ((E.QI.enc ((List.replicate n z).getD i E.dflt)).getD j .any)
  rw[X];exact I.get j _ (by
   grind [bQ.len,getD_some])
 ·rw[C]at b;unfold Vw.set at b;split at b
  ·rename_i a ha;injection b with b
   subst b;have M:=h.QI d;have v:=h.vw d ((view d).2.set i a);have I:=M.ok _ _ ha;rw[q]at w;have w:i < (view d).2.length:=w;simp only[u,q,B,v];refine⟨rfl,by simp[Vw.len],fun P r T Q=> ?_⟩;simp only[Vw.cell];have Q:r < (view d).1.QI.n:=Q;have T:P < (view d).2.length:=T;have hla:r < ((view d).1.QI.enc a).length:=by rw[M.len];exact Q
   have hl0:((view d).1.QI.enc ((view d).2.getD i (view d).1.dflt)).length=(view d).1.QI.n:=M.len _;have L:=I.length;rw[M.len]at L;by_cases hii:P=i
   ·subst hii;have C:((view d).2.set P a).getD P (view d).1.dflt=a:=by grind
    rw[C];obtain⟨x,W,hxl⟩:=I.get r _ (show((view d).1.QI.enc a)[r]? =some (((view d).1.QI.enc a).getD r .any) by grind);unfold putAt at W L;generalize hcs:(view d).1.QI.enc ((view d).2.getD P (view d).1.dflt)=cs at W L hl0;have hput:∀x,(cs.take j++(F++cs.drop (j+F.length)))[r]? =some x->(j<=r/\r < j+F.length->F[r - j]? =some x)/\(¬(j<=r/\r < j+F.length)->cs[r]? =some x):=by
     intro x W;simp only[uX,Iq,Qca]at L;by_cases hjn:j<=cs.length
     ·grind
     grind
    grind [bQ.data,getD_some,azj]
   grind
  ·cases b
 ·rw[V]at b;unfold Vw.cat at b;split at b
  ·rename_i l2 hl2;injection b with b
   subst b;have v:=h.vw d1 ((view d1).2++l2);have aa:=h.Oz d1 d2 l2 hl2;simp only[u,q,B,v,aa];refine⟨rfl,rfl,by simp[Vw.len],fun i j w=> ?_,fun i j w=> ?_⟩<;>simp only[Vw.cell,Vw.len]
   ·have w:i < (view d1).2.length:=w
    grind
   grind
  ·cases b
 ·have b:=(N _ _ _ _ b).1;unfold Vw.sub at b;injection b with b
  subst b;rw[q]at y;have y:j<=(view d).2.length:=y;have v:=h.vw d (((view d).2.take j).drop i);simp only[u,q,B,v];refine⟨rfl,by simp[Vw.len];omega,fun k c hk=> ?_⟩;simp only[Vw.cell]
  grind
 ·obtain⟨E,l,K,hl,rfl⟩:=U e n cs d b;rw[o];exact G.el e E K l
 ·obtain⟨E,z,K,Y,rfl⟩:=R e n H d b;rw[o];exact G.el e E K _
 ·rw[C]at b;unfold Vw.set at b;split at b
  ·injection b with b
   subst b;rw[o];exact G.inj _ _
  ·cases b
 ·rw[V]at b;unfold Vw.cat at b;split at b
  ·injection b with b
   subst b;rw[o];exact G.inj _ _
  ·cases b
 ·obtain⟨O,h2⟩:=N _ _ _ _ b;unfold Vw.sub at O;injection O with O
  subst O;rw[o,o];exact⟨h2,G.inj _ _⟩
 ·rw[htt]at b;rw[o];exact G.txt _ _ _ b
 ·rw[o]at b;rw[q,u];exact G.size d m b
 ·rw[hnw]at J;obtain⟨m,O,h2⟩:=G.new _ _ J
  grind
 ·rw[Z]at J;rw[o];exact G.MB _ _ J
end
attribute [instance] lT JI ac0 aAi Jv aHW yA aAE aAr az6 aCV az7 aGV
section
variable {D α β:Type}{S:Sh D}
instance aJM {c:iT D α} {d:iT D β} [b:bQ S c] [a:bQ S d]:bQ S (df c d):=asM b a
instance aJ3 {n:Nat} {d:α} {c:iT D α} [a:bQ S c]:bQ S (XV n d c):=ayN a
instance iL1 {c:iT D α} [a:bQ S c]:xZ S (l1 c):=aBY a
instance iLc {c:iT D α} {r:mM D β} [b:bQ S c] [a:xZ S r]:xZ S (aJ c r):=av6 b a
instance iLf {c:iT D α} [a:bQ S c]:rY S (aLf c):=nK a
instance iAg {c:iT D α} [a:bQ S c]:rY S (aAgg c):=aco a
instance iA1 {c:Arg D α} [a:rY S c]:lI S 1 (a1 c):=OH a
instance iAc {c:Arg D α} {r:ACod D β} {k:Nat} [a:rY S c] [b:lI S k r]:lI S (k+1) (aCons c r):=iK a b
instance iBc {c:iT D α} [a:bQ S c]:xY S (bCells c):=aoh a
instance iB1 {c:Blk D α} [a:xY S c]:rZ S 1 (b1 c):=aGS a
instance iBs {c:Blk D α} {r:BCod D β} {k:Nat} [a:xY S c] [b:rZ S k r]:rZ S (k+1) (kC c r):=asX a b
instance iSp {a:(Nat->Sl D)->List It} {c:mM D α} [b:xZ S c]:ShpOk S (bD a c):=aEo b
instance iSr {a:List It} {c:mM D α} [b:xZ S c]:ShpOk S (shr a c):=auf b
theorem l_ {c:ACod D α}{k n:Nat}[a:lI S k c](b:Nat.ble k n=true):Qi S (args c) 0 n:=aAI a b
theorem qw {c:ACod D α}{b:BCod D β}{k m n:Nat}[d:lI S k c][e:rZ S m b](a:Nat.ble k n=true):Qi S (jG c b) m n:=uN d e a
end
end Go.Vc
namespace Go.Vc
section
variable {A R:Type}
end
theorem oh {D:Type}{P:Program}{S:Sh D}{f:FuncId}{c:qF D}{j:Shp D}{k:Nat}{i:List Nat}{d:Nat->c.A->Option Prop}{s:Nat->c.A->j.X}(h:∀n,CtOk P S f (qQ c j k i (d n) (s n)))
  (e:c.A->Option Prop) (l:c.A->j.X) (z:∀a,rq (e a)->∃n,rq (d n a)/\s n a=l a):CtOk P S f (qQ c j k i e l):=by
 refine⟨(h 0).enters,fun X N g w args u t p r q v x m b o=> ?_⟩;unfold qQ at b;split at b
 ·cases b
 ·rename_i a C;injection b with b
  injection b with A b
  subst A;obtain⟨n,y,B⟩:=z a (Eb.1 o);refine(h n).calls X N g w args u t ((d n a).map dq) r q v x m ?_ (Eb.2 y);unfold qQ
  grind
end Go.Vc
namespace Go.Vc
open Go.RowKit Go.ChangeShapes Go.WideShapes Go.ChangeAt Go.Joins
section
variable {H:Type}{enc:TypeId×Value->H}{P:Program}{W W':World}
theorem GR (j:laidOutB P=true)(k:Below W.heap.size W W'):∀{f:List TypeId} {c:List Value} {e:List (DataW H)} {a:List MemPlace},(f.all fun t=>P.readableRec t && decide (t < P.types.size))=true->
  DataW.TrodAll enc P W 0 (fun _=>true) true f c e a->DataW.TrodAll enc P W' 0 (fun b=>decide (b < W.heap.size)) true f c e a
 | [],c,e,a,_,h=>by
  obtain⟨rfl,rfl,rfl⟩:=trodAll_nil h;rfl
 | t::f,c,e,a,g,h=>by
  simp only[Qcm,iZ,Xh]at g;obtain⟨v,r,d,o,p,q,rfl,rfl,rfl,i,n⟩:=trodAll_cons h;have lt:∀x∈p,x.block < W.heap.size:=by obtain⟨m,l⟩:=i;exact DataW.trod_lt m _ _ _ l
  exact trodAll_cons_mk (Below.trod j g.1.1 g.1.2 i k lt) (GR j k g.2 n)
theorem aH3 {k:IntKind}{n:Int}(h:(Lit.int k n).wf=true):Dw k n:=by
 cases k<;>simp[Lit.wf,IntKind.min,IntKind.max,IntKind.signed,IntKind.bits]at h<;>simp only[Dw]<;>omega
end
def NoN:Nat->Prop:=fun _=>False
section
variable {D α β:Type}{S:Sh D}{P:Program}
theorem afY {w:World}{d:D}{a:Option Addr}{n cap:Nat}(t:n=S.len d)(k:n<=cap)(f:n<=9223372036854775807)(U:Nat->Nat->Value)
  (e:∀i j,i < S.len d->j < S.size d->∃b,a=some b/\w.cell? (b.add (i*S.size d+j))=some (U i j))
  (q:∀i j,i < S.len d->j < S.size d->Lf.plain (S.cell d i j) (U i j))
  (g:∀i j c,i < S.len d->j < S.size d->S.cell d i j= .dat c->bW S NoN w c (U i j)) (o:S.mp d=none):bW S NoN w d (.slice a n cap):=by
 intro w' p;subst t;refine CS.mk d o a cap U k f (fun i j l m=> ?_) q (fun i j c l m s=>g i j c l m s w' p);obtain⟨b,v,r⟩:=e i j l m;refine⟨b,v,?_⟩;have u:(b.add (i*S.size d+j)).block < w.heap.size:=by
  rcases Qdu (b.add (i*S.size d+j)).block w.heap.size with h | h
  ·exact h
  ·simp[World.cell?,Array.getElem?_eq_none h]at r
 rw[<-r];exact World.cell?_of_block (p _ u (fun h=>h))
def akG (P:Program)(S:Sh D)(t:TypeId)(c:iT D α)(f:α->Prop):Prop:=
 ∀{H:Type} {enc:TypeId×Value->H} {w:World} {g:Nat} {b:Nat->Bool} {d:Bool} {e:Nat} {cs:List Value} {x:DataW H×List MemPlace},
  DataW.trod enc P w g b d e t cs=some x->∃a,aW S NoN w noG (c.enc a) cs/\f a
theorem jq {t:TypeId}{k:IntKind}(f:P.underlying t=some (.int k)):akG P S t (cInt k) (Dw k):=by
 intro H enc w e a b d cs x h;obtain⟨n,rfl,_,c⟩:=DataW.trod_int f h;exact⟨n,⟨rfl,trivial⟩,aH3 c⟩
theorem U6 {t:TypeId}(f:P.underlying t=some .bool):akG P S t cBool fun _=>True:=by
 intro H enc w e a c d cs x h;obtain⟨b,rfl,_⟩:=DataW.trod_bool f h;exact⟨b,⟨rfl,trivial⟩,trivial⟩
theorem anr {t:TypeId}(g:P.underlying t=some .string):akG P S t cStr fun s=>s.length<=9223372036854775807:=by
 intro H enc w e b c d cs x h;obtain⟨s,rfl,_,f⟩:=DataW.trod_string g h;have a:s.data.toList.length<=9223372036854775807:=by
  unfold maxLen at f;simp_all
 refine⟨s.data.toList,⟨⟨?_,a⟩,trivial⟩,a⟩;cases s;simp
theorem aW.app {M:Nat->Prop}{w:World}{g:Nat->Option Value}:∀{c d:List (Lf D)} {a b:List Value},aW S M w g c a->aW S M w g d b->aW S M w g (c++d) (a++b)
 | [],_,[],_,_,k=>k
 | _::_,_,_::_,_,h,k=>⟨h.1,aW.app h.2 k⟩
theorem afr {Q:Nat->α->Prop}:∀n,(∀i,i < n->∃a,Q i a)->∃l:List α,l.length=n/\∀(i:Nat) (h:i < l.length),Q i l[i]
 | 0,_=>⟨[],rfl,fun i h=>by simp at h⟩
 | n+1,h=>by
  obtain⟨l,c,d⟩:=afr n fun i b=>h i aj
  obtain⟨a,e⟩:=h n aj;refine⟨l++[a],by simp[c],fun i b=> ?_⟩
  grind
theorem aW.getD' {M:Nat->Prop}{w:World}{g:Nat->Option Value}{a:List (Lf D)}{b:List Value}{j:Nat}(h:aW S M w g a b)(c:j < a.length):∃v,b[j]? =some v/\(a.getD j .any).Rel S M w g v:=by
 grind [get]
def aHJ:TypeDesc->Bool
 | .int _ | .bool | .string | .slice _=>true
 | _=>false
def arP:Shp D:=shr [.slot 0 false [none]] (l1 cBool)
end
end Go.Vc
