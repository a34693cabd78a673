/- Own engine: Vdo, Vdq, Vdp. -/
import Derived.Test.YtenjjcfebflefaaGreatDoorEng9
import Derived.ProofKit
import Derived.OpenShut
import Derived.Lib.SmallJoins
set_option linter.unusedVariables false
set_option linter.unusedSimpArgs false
namespace Go.Vc
open Go.RowKit
universe u
def lk {a:Type u}:List (Nat×a)->Nat->Option a
 | [],_=>none
 | (k,v)::r,n=>if Nat.beq n k then some v else lk r n
theorem VQ {a:Type u}:∀{l:List (Nat×a)} {k:Nat} {v:a},lk l k=some v->(k,v)∈l
 | [],_,_,h=>by simp[lk]at h
 | (b,c)::r,k,v,h=>by
  simp only[lk]at h;split at h
  ·simp_all
  ·exact Qa9 _ (VQ h)
abbrev Str:=List UInt8
structure kF (D α:Type) where
 n:Nat
 enc:α->List (Lf D)
 dec:List (Lf D)->Option α
class dK {D α:Type} (S:Sh D) (c:kF D α):Prop where
 ok:∀xs a,c.dec xs=some a->ZV S xs (c.enc a)
 len:∀a,(c.enc a).length=c.n
 data:∀a x,x∈c.enc a->x.jY=true
section
variable {D α β:Type}{S:Sh D}
theorem ZV.app:∀{a b c d:List (Lf D)},ZV S a b->ZV S c d->ZV S (a++c) (b++d)
 | [],[],_,_,_,k=>k
 | x::e,y::f,_,_,h,k=>⟨h.1,h.2.1,ZV.app h.2.2 k⟩
theorem ZV.length:∀{a b:List (Lf D)},ZV S a b->a.length=b.length
 | [],[],_=>rfl
 | _::_,_::_,h=>by simp[ZV.length h.2.2]
theorem ZV.get:∀{a b:List (Lf D)},ZV S a b->∀(i:Nat) (y:Lf D),b[i]? =some y->∃x,a[i]? =some x/\x.Le S y
 | [],[],_,i,y,h=>by simp at h
 | x::d,y::e,h,0,z,c=>by simp at c;subst c;exact⟨x,rfl,h.1⟩
 | x::d,y::e,h,i+1,z,c=>by simpa using ZV.get h.2.2 i z (by simpa using c)
theorem Lf.Le.refl (x:Lf D):x.Le S x:= .inl rfl
theorem azk {x y:Lf D}(h:x.Le S y)(a:x.jY=true):y=x:=by
 rcases h with h | ⟨h,_⟩ | ⟨b,h,_⟩ | ⟨_,_,_,_,h,_⟩ | ⟨_,h,_⟩
 ·exact h.symm
 ·subst h;simp[Lf.jY]at a
 ·subst h;simp[Lf.jY]at a
 ·subst h;simp[Lf.jY]at a
 ·subst h;simp[Lf.jY]at a
def gW (k:IntKind):kF D Int:=⟨1,fun n=>[.int k n],fun a=>match a with
 | [.int b n]=>if kEq k b then some n else none
 | _=>none⟩
def aW:kF D Bool:=⟨1,fun b=>[.bool b],fun a=>match a with
 | [.bool b]=>some b
 | [.val (.bool b)]=>some b
 | _=>none⟩
def cStr:kF D (List UInt8):=⟨1,fun s=>[.str s],fun a=>match a with
 | [.str s]=>some s
 | _=>none⟩
def x8 (b:α->D)(c:D->Option α)(f:α):kF D α:=⟨1,fun a=>[.dat (b a)],fun g=>match g with
 | [.dat d]=>c d
 | [.val v]=>if D_ v then some f else none
 | [.xt e]=>(match e with
  | .clip d=>c d
  | _=>none)
 | _=>none⟩
def aEe:kF D (Option BJ):=⟨1,fun v=>[.Tz v],fun d=>match d with
 | [.Tz v]=>some v
 | [.xt (.ifd t a c)]=>(match Rq c with
  | some b=>some (some ⟨t,a,b⟩)
  | none=>none)
 | _=>none⟩
def aop:kF D Unit:=⟨0,fun _=>[],fun a=>match a with
 | []=>some ()
 | _=>none⟩
def dM (c:kF D α)(d:kF D β):kF D (α×β):=⟨c.n+d.n,fun p=>c.enc p.1++d.enc p.2,fun e=>match c.dec (e.take c.n),d.dec (e.drop c.n)with
 | some a,some b=>some (a,b)
 | _,_=>none⟩
def rH (c:kF D α)(f:α->β)(g:β->α):kF D β:=⟨c.n,fun b=>c.enc (g b),fun d=>match c.dec d with
 | some a=>some (f a)
 | none=>none⟩
def v_ (c:kF D α)(d:α)(l:List α):Nat->Nat->List (Lf D)
 | _,0=>[]
 | i,n+1=>c.enc (l.getD i d)++v_ c d l (i+1) n
def Xh (c:kF D α):Nat->List (Lf D)->Option (List α)
 | 0,[]=>some []
 | 0,_=>none
 | n+1,b=>(match c.dec (b.take c.n),Xh c n (b.drop c.n)with
  | some a,some l=>some (a::l)
  | _,_=>none)
def K_ (n:Nat)(d:α)(c:kF D α):kF D (List α):=⟨n*c.n,fun l=>v_ c d l 0 n,Xh c n⟩
theorem YJ {c:kF D α}(a:dK S c)(d:α)(l:List α):∀(n i:Nat),(v_ c d l i n).length=n*c.n
 | 0,i=>by simp[v_]
 | n+1,i=>by rw[v_,tK,a.len,YJ a d l n (i+1),Nat.succ_mul];omega
theorem Ti {c:kF D α}(a:dK S c)(d:α)(l:List α):∀(n i:Nat) (x:Lf D),x∈v_ c d l i n->x.jY=true
 | 0,i,x,h=>by simp[v_]at h
 | n+1,i,x,h=>by
  simp only[v_,vN]at h;rcases h with h | h
  ·exact a.data _ _ h
  ·exact Ti a d l n (i+1) x h
theorem M_ (c:kF D α)(d a:α)(l:List α):∀(n i:Nat),v_ c d (a::l) (i+1) n=v_ c d l i n
 | 0,i=>rfl
 | n+1,i=>by simp only[v_,Qc,M_ c d a l n (i+1)]
theorem aaZ {c:kF D α}(e:dK S c)(d:α):∀(n:Nat) (b:List (Lf D)) (l:List α),Xh c n b=some l->ZV S b (v_ c d l 0 n)
 | 0,b,l,h=>by
  cases b with
  | nil=>trivial
  | cons x b=>simp[Xh]at h
 | n+1,b,l,h=>by
  unfold Xh at h;split at h
  ·rename_i a f i g;injection h with h
   subst h;have:=ZV.app (e.ok _ _ i) (aaZ e d n _ _ g);rw[Qbf]at this;simp only[v_,Qca];rw[zM,M_ c d a f n 0];exact this
  ·cases h
theorem aA1 {n:Nat}{d:α}{c:kF D α}(a:dK S c):dK S (K_ n d c):=
 ⟨fun e l h=>aaZ a d n e l h,fun l=>YJ a d l n 0,fun l x b=>Ti a d l n 0 x b⟩
theorem qp (k:IntKind):dK S (gW (D:=D) k):=by
 refine⟨fun d a h=> ?_,fun _=>rfl,fun a x b=> ?_⟩
 ·simp only[gW]at h;split at h
  ·split at h
   ·rename_i c;injection h with h
    subst h;simp only[kEq,Vt]at c;subst c;exact⟨.inl rfl,rfl,trivial⟩
   ·cases h
  ·cases h
 ·simp[gW]at b;subst b;rfl
theorem LY:dK S (aW (D:=D)):=by
 refine⟨fun c a h=> ?_,fun _=>rfl,fun a x b=> ?_⟩
 ·simp only[aW]at h;split at h
  ·injection h with h;subst h;exact⟨.inl rfl,rfl,trivial⟩
  ·injection h with h;subst h;exact⟨.inr (.inr (.inl ⟨_,rfl,rfl⟩)),rfl,trivial⟩
  ·cases h
 ·simp[aW]at b;subst b;rfl
theorem aek:dK S (cStr (D:=D)):=by
 refine⟨fun c a h=> ?_,fun _=>rfl,fun a x b=> ?_⟩
 ·simp only[cStr]at h;split at h
  ·injection h with h;subst h;exact⟨.inl rfl,rfl,trivial⟩
  ·cases h
 ·simp[cStr]at b;subst b;rfl
theorem azf:dK S (aEe (D:=D)):=by
 refine⟨fun e a h=> ?_,fun _=>rfl,fun a x b=> ?_⟩
 ·simp only[aEe]at h;split at h
  ·injection h with h;subst h;exact⟨.inl rfl,rfl,trivial⟩
  ·split at h
   ·rename_i d c;injection h with h;subst h;exact⟨.inr (.inr (.inr (.inl ⟨_,_,_,_,rfl,rfl,c⟩))),rfl,trivial⟩
   ·cases h
  ·cases h
 ·simp[aEe]at b;subst b;rfl
theorem lu {b:α->D}{g:D->Option α}{c:α}(f:∀d a,g d=some a->d=b a)(k:S.len (b c)=0)(i:S.mp (b c)=none:=by rfl):dK S (x8 b g c):=by
 refine⟨fun l a h=> ?_,fun _=>rfl,fun a x e=> ?_⟩
 ·simp only[x8]at h;split at h
  ·rw[f _ _ h];exact⟨.inl rfl,rfl,trivial⟩
  ·split at h
   ·rename_i j;injection h with h
    subst h;rw[aiQ j];exact⟨.inr (.inl ⟨rfl,_,rfl,k,i⟩),rfl,trivial⟩
   ·cases h
  ·split at h
   ·rw[f _ _ h];exact⟨.inr (.inr (.inr (.inr ⟨_,rfl,rfl⟩))),rfl,trivial⟩
   ·cases h
  ·cases h
 ·simp[x8]at e;subst e;rfl
theorem OZ:dK S (aop (D:=D)):=by
 refine⟨fun c a h=> ?_,fun _=>rfl,fun a x b=> ?_⟩
 ·simp only[aop]at h;split at h
  ·trivial
  ·cases h
 ·simp[aop]at b
theorem axX {c:kF D α}{d:kF D β}(f:dK S c)(g:dK S d):dK S (dM c d):=by
 refine⟨fun k a h=> ?_,fun a=>by simp[dM,f.len,g.len],fun a x e=> ?_⟩
 ·simp only[dM]at h;split at h
  ·rename_i a b j i;injection h with h
   subst h;have:=ZV.app (f.ok _ _ j) (g.ok _ _ i);rwa [Qbf]at this
  ·cases h
 ·simp only[dM,vN]at e;rcases e with e | e
  ·exact f.data _ _ e
  ·exact g.data _ _ e
theorem ji {c:kF D α}{f:α->β}{g:β->α}(b:dK S c)(e:∀a,g (f a)=a):dK S (rH c f g):=by
 refine⟨fun j a h=> ?_,fun a=>b.len _,fun a x d=>b.data _ _ d⟩;simp only[rH]at h;split at h
 ·rename_i k i;injection h with h
  subst h;simp only[rH,e];exact b.ok _ _ i
 ·cases h
structure QT (D α:Type) where
 enc:α->List (List (Lf D))
 dec:List (List (Lf D))->Option α
class zI (S:Sh D) (c:QT D α):Prop where
 ok:∀xs a,c.dec xs=some a->aln S xs (c.enc a)
def l0:QT D Unit:=⟨fun _=>[],fun a=>match a with
 | []=>some ()
 | _=>none⟩
def l1 (c:kF D α):QT D α:=⟨fun a=>[c.enc a],fun b=>match b with
 | [x]=>c.dec x
 | _=>none⟩
def aC (c:kF D α)(r:QT D β):QT D (α×β):=⟨fun p=>c.enc p.1::r.enc p.2,fun d=>match d with
 | x::d=>(match c.dec x,r.dec d with
  | some a,some b=>some (a,b)
  | _,_=>none)
 | _=>none⟩
theorem aG0:zI S (l0 (D:=D)):=⟨fun b a h=>by
 simp only[l0]at h;split at h
 ·trivial
 ·cases h⟩
theorem aCR {c:kF D α}(b:dK S c):zI S (l1 c):=⟨fun d a h=>by
 simp only[l1]at h;split at h
 ·exact⟨b.ok _ _ h,trivial⟩
 ·cases h⟩
theorem axy {c:kF D α}{r:QT D β}(d:dK S c)(g:zI S r):zI S (aC c r):=⟨fun i a h=>by
 simp only[aC]at h;split at h
 ·split at h
  ·rename_i a b f e;injection h with h
   subst h;exact⟨d.ok _ _ f,g.ok _ _ e⟩
  ·cases h
 ·cases h⟩
def dh (a:(Nat->Sl D)->List It)(c:QT D α):FT D:=⟨α,a,c.enc,c.dec⟩
def shr (a:List It)(c:QT D α):FT D:=⟨α,fun _=>a,c.enc,c.dec⟩
theorem aEk {b:(Nat->Sl D)->List It}{c:QT D α}(a:zI S c):rD S (dh b c):=⟨a.ok⟩
theorem awk {b:List It}{c:QT D α}(a:zI S c):rD S (shr b c):=⟨a.ok⟩
structure zQ (D α:Type) where
 enc:α->List (Sl D)
 dec:List (Sl D)->Option α
class n_ (S:Sh D) (k:outParam Nat) (c:zQ D α):Prop where
 ok:∀xs a,c.dec xs=some a->acp S xs (c.enc a)
 len:∀a,(c.enc a).length=k
structure Lc (D α:Type) where
 enc:α->List (Bk D)
 dec:List (Bk D)->Option α
class uX (S:Sh D) (k:outParam Nat) (c:Lc D α):Prop where
 ok:∀xs a,c.dec xs=some a->JH S xs (c.enc a)
 len:∀a,(c.enc a).length=k
structure Arg (D α:Type) where
 enc:α->Sv D
 dec:Sv D->Option α
class uU (S:Sh D) (c:Arg D α):Prop where
 ok:∀x a,c.dec x=some a->ayE S x (c.enc a)
def lf0:List (Lf D)->Lf D
 | [x]=>x
 | _=> .any
def df (c:kF D α):Arg D α:=⟨fun a=> .lf (lf0 (c.enc a)),fun x=>match x with
 | .lf x=>c.dec [x]
 | _=>none⟩
def aQ (c:kF D α):Arg D α:=⟨fun a=> .agg (c.enc a),fun x=>match x with
 | .agg b=>c.dec b
 | _=>none⟩
def lm (l:Nat):Arg D Unit:=⟨fun _=> .lf (.ptr l 0),fun x=>match x with
 | .lf (.ptr a o)=>if Nat.beq l a && Nat.beq o 0 then some ()else none
 | _=>none⟩
def zD (l:Nat):Arg D Unit:=⟨fun _=> .lf (.own l),fun x=>match x with
 | .lf (.own a)=>if Nat.beq l a then some ()else none
 | _=>none⟩
def aHq (l a:Nat):Arg D Nat:=⟨fun i=> .lf (.opt l i 0 a),fun x=>match x with
 | .lf (.opt c i j b)=>if Nat.beq l c && Nat.beq j 0 && Nat.beq a b then some i else none
 | _=>none⟩
def R_:List Nat->List Nat->Bool
 | [],[]=>true
 | x::a,y::b=>Nat.beq x y && R_ a b
 | _,_=>false
theorem MO:∀{a b:List Nat},R_ a b=true->a=b
 | [],[],_=>rfl
 | x::a,y::b,h=>by
  simp only[R_,jA]at h;rw[Qa h.1,MO h.2]
 | [],_::_,h=>by simp[R_]at h
 | _::_,[],h=>by simp[R_]at h
def zO (f:Nat)(a:List Nat):Arg D Unit:=⟨fun _=> .lf (.fn f a),fun x=>match x with
 | .lf (.fn c b)=>if Nat.beq f c && R_ a b then some ()else none
 | _=>none⟩
def aEJ (f:Nat)(a:List Nat):Arg D Unit:=⟨fun _=> .agg [.fn f a],fun x=>match x with
 | .agg [.fn c b]=>if Nat.beq f c && R_ a b then some ()else none
 | _=>none⟩
theorem qi {c:kF D α}(d:dK S c):uU S (df c):=⟨fun x a h=>by
 simp only[df]at h⊢;split at h
 ·have:=d.ok _ _ h;generalize c.enc a=b at this;cases b with
  | nil=>exact this.elim
  | cons y b=>
   cases b with
   | cons _ _=>exact this.2.2.elim
   | nil=>exact this.1
 ·cases h⟩
theorem ZV.les:∀{a b:List (Lf D)},ZV S a b->Pm S a b
 | [],[],_=>trivial
 | _::_,_::_,h=>⟨h.1,ZV.les h.2.2⟩
theorem adn {c:kF D α}(b:dK S c):uU S (aQ c):=⟨fun x a h=>by
 simp only[aQ]at h⊢;split at h
 ·exact(b.ok _ _ h).les
 ·cases h⟩
theorem Ba (l:Nat):uU S (lm (D:=D) l):=⟨fun x a h=>by
 simp only[lm]at h⊢;split at h
 ·split at h
  ·rename_i b;simp only[jA]at b;rw[<-Qa b.1,Qa b.2];exact .inl rfl
  ·cases h
 ·cases h⟩
theorem aBC (l:Nat):uU S (zD (D:=D) l):=⟨fun x a h=>by
 simp only[zD]at h⊢;split at h
 ·split at h
  ·rename_i b;rw[<-Qa b];exact .inl rfl
  ·cases h
 ·cases h⟩
theorem azW (l c:Nat):uU S (aHq (D:=D) l c):=⟨fun x a h=>by
 simp only[aHq]at h⊢;split at h
 ·split at h
  ·rename_i b;simp only[jA]at b;injection h with h
   subst h;rw[<-Qa b.1.1,Qa b.1.2,<-Qa b.2];exact .inl rfl
  ·cases h
 ·cases h⟩
def aG_ (l a:Nat):Arg D Unit:=⟨fun _=> .lf (.opt l 0 0 a),fun x=>match x with
 | .lf (.opt c i j b)=>if Nat.beq l c && (Nat.beq i 0 && (Nat.beq j 0 && Nat.beq a b))then some ()else none
 | _=>none⟩
theorem azX (l c:Nat):uU S (aG_ (D:=D) l c):=⟨fun x a h=>by
 simp only[aG_]at h⊢;split at h
 ·split at h
  ·rename_i b;simp only[jA]at b;rw[<-Qa b.1,Qa b.2.1,Qa b.2.2.1,<-Qa b.2.2.2];exact .inl rfl
  ·cases h
 ·cases h⟩
theorem aDA (f:Nat)(b:List Nat):uU S (zO (D:=D) f b):=⟨fun x a h=>by
 simp only[zO]at h⊢;split at h
 ·split at h
  ·rename_i c;simp only[jA]at c;rw[<-Qa c.1,<-MO c.2];exact .inl rfl
  ·cases h
 ·cases h⟩
theorem aA7 (f:Nat)(b:List Nat):uU S (aEJ (D:=D) f b):=⟨fun x a h=>by
 simp only[aEJ]at h⊢;split at h
 ·split at h
  ·rename_i c;simp only[jA]at c;rw[<-Qa c.1,<-MO c.2];exact⟨.inl rfl,trivial⟩
  ·cases h
 ·cases h⟩
def a0:zQ D Unit:=⟨fun _=>[],fun a=>match a with
 | []=>some ()
 | _=>none⟩
def a1 (c:Arg D α):zQ D α:=⟨fun a=>[.one (c.enc a)],fun b=>match b with
 | [.one x]=>c.dec x
 | _=>none⟩
def ax (c:Arg D α)(r:zQ D β):zQ D (α×β):=⟨fun p=> .one (c.enc p.1)::r.enc p.2,fun d=>match d with
 | .one x::d=>(match c.dec x,r.dec d with
  | some a,some b=>some (a,b)
  | _,_=>none)
 | _=>none⟩
theorem aHu:n_ S 0 (a0 (D:=D)):=by
 refine⟨fun b a h=> ?_,fun _=>rfl⟩;simp only[a0]at h;split at h
 ·trivial
 ·cases h
theorem S9 {c:Arg D α}(b:uU S c):n_ S 1 (a1 c):=by
 refine⟨fun d a h=> ?_,fun _=>rfl⟩;simp only[a1]at h;split at h
 ·exact⟨b.ok _ _ h,trivial⟩
 ·cases h
theorem jM {c:Arg D α}{r:zQ D β}{k:Nat}(e:uU S c)(d:n_ S k r):n_ S (k+1) (ax c r):=by
 refine⟨fun i a h=> ?_,fun a=>by simp[ax,d.len]⟩;simp only[ax]at h;split at h
 ·split at h
  ·rename_i a b g f;injection h with h
   subst h;exact⟨e.ok _ _ g,d.ok _ _ f⟩
  ·cases h
 ·cases h
structure Blk (D α:Type) where
 enc:α->Bk D
 dec:Bk D->Option α
class zH (S:Sh D) (c:Blk D α):Prop where
 ok:∀x a,c.dec x=some a->afC S x (c.enc a)
def cZ (c:kF D α):Blk D α:=⟨fun a=> .cells (c.enc a),fun x=>match x with
 | .cells b=>c.dec b
 | _=>none⟩
def xu (e:TypeId)(b:α->D)(c:D->Option α):Blk D α:=⟨fun a=> .row e (b a),fun x=>match x with
 | .row f d=>if Nat.beq e f then c d else none
 | _=>none⟩
theorem art {c:kF D α}(b:dK S c):zH S (cZ c):=⟨fun x a h=>by
 simp only[cZ]at h⊢;split at h
 ·exact(b.ok _ _ h).les
 ·cases h⟩
theorem acW {e:TypeId}{b:α->D}{c:D->Option α}(g:∀d a,c d=some a->d=b a):zH S (xu e b c):=⟨fun x a h=>by
 simp only[xu]at h⊢;split at h
 ·split at h
  ·rename_i f;exact⟨(Qa f).symm,g _ _ h⟩
  ·cases h
 ·cases h⟩
def b1 (c:Blk D α):Lc D α:=⟨fun a=>[c.enc a],fun b=>match b with
 | [x]=>c.dec x
 | _=>none⟩
def ng (c:Blk D α)(r:Lc D β):Lc D (α×β):=⟨fun p=>c.enc p.1::r.enc p.2,fun d=>match d with
 | x::d=>(match c.dec x,r.dec d with
  | some a,some b=>some (a,b)
  | _,_=>none)
 | _=>none⟩
theorem aGP {c:Blk D α}(b:zH S c):uX S 1 (b1 c):=by
 refine⟨fun d a h=> ?_,fun _=>rfl⟩;simp only[b1]at h;split at h
 ·exact⟨b.ok _ _ h,trivial⟩
 ·cases h
theorem avx {c:Blk D α}{r:Lc D β}{k:Nat}(e:zH S c)(d:uX S k r):uX S (k+1) (ng c r):=by
 refine⟨fun i a h=> ?_,fun a=>by simp[ng,d.len]⟩;simp only[ng]at h;split at h
 ·split at h
  ·rename_i a b g f;injection h with h
   subst h;exact⟨e.ok _ _ g,d.ok _ _ f⟩
  ·cases h
 ·cases h
def zY:List (Option TypeId)->List (Lf D)->Nat->List (Bk D)->Option (List (Lf D))
 | [],[],_,[]=>some []
 | none::f,x::b,n,a=>(match zY f b n a with
  | some c=>some (x::c)
  | none=>none)
 | some e::f, .own k::b,n, .row g d::a=>if Nat.beq k n && Nat.beq e g then(match zY f b (n+1) a with
  | some c=>some (.dat d::c)
  | none=>none)else none
 | _,_,_,_=>none
def Z9 (n:Nat)(d:List (Option TypeId))(c:kF D α):Lc D α:=⟨fun a=> .cells (mZ d (c.enc a) n).1::(mZ d (c.enc a) n).2.1.map (·.2),fun g=>match g with
 | .cells e::b=>(match zY d e n b with
  | some f=>c.dec f
  | none=>none)
 | _=>none⟩
theorem Xz:∀(f:List (Option TypeId)) (i g b:List (Lf D)) (n:Nat) (a:List (Bk D)),zY f i n a=some g->ZV S g b->Pm S i (mZ f b n).1/\JH S a ((mZ f b n).2.1.map (·.2))
 | [],[],g,b,n,a,h,c=>by
  cases a with
  | cons _ _=>simp[zY]at h
  | nil=>
   simp only[zY,TC]at h;subst h;cases b with
   | cons _ _=>exact c.elim
   | nil=>exact⟨trivial,trivial⟩
 | [],x::i,g,b,n,a,h,c=>by simp[zY]at h
 | none::f,[],g,b,n,a,h,c=>by simp[zY]at h
 | none::f,x::i,g,b,n,a,h,c=>by
  simp only[zY]at h;split at h
  ·rename_i j l;injection h with h
   subst h;cases b with
   | nil=>exact c.elim
   | cons z b=>
    obtain⟨o,m⟩:=Xz f i j b n a l c.2.2;exact⟨⟨c.1,o⟩,m⟩
  ·cases h
 | some e::f,[],g,b,n,a,h,c=>by simp[zY]at h
 | some e::f,x::i,g,b,n,a,h,c=>by
  cases a with
  | nil=>cases x<;>simp[zY]at h
  | cons r a=>
   cases x with
   | own k=>
    cases r with
    | row t d=>
     simp only[zY]at h;split at h
     ·rename_i p;simp only[jA]at p;have s:=Qa p.1;have q:=Qa p.2;subst s q;split at h
      ·rename_i j l;injection h with h
       subst h;cases b with
       | nil=>exact c.elim
       | cons z b=>
        have:=EK c.1;subst this;obtain⟨o,m⟩:=Xz f i j b (k+1) a l c.2.2;exact⟨⟨.inl rfl,o⟩,⟨rfl,rfl⟩,m⟩
      ·cases h
     ·cases h
    | _=>simp[zY]at h
   | _=>simp[zY]at h
theorem ET {n k:Nat}{b:List (Option TypeId)}{c:kF D α}(d:dK S c)(e:∀a,(mZ b (c.enc a) n).2.1.length=k):uX S (k+1) (Z9 n b c):=by
 refine⟨fun i a h=> ?_,fun a=>by simp[Z9,e]⟩;simp only[Z9]at h;split at h
 ·split at h
  ·rename_i f g;exact Xz b _ f _ n _ g (d.ok _ _ h)
  ·cases h
 ·cases h
def args (c:zQ D α):uV D:=⟨α,fun a=>(c.enc a,[]),fun b d=>match d with
 | []=>c.dec b
 | _=>none⟩
def lH (c:zQ D α)(b:Lc D β):uV D:=⟨α×β,fun p=>(c.enc p.1,b.enc p.2),fun d e=>match c.dec d,b.dec e with
 | some a,some b=>some (a,b)
 | _,_=>none⟩
theorem az9 {c:zQ D α}{k n:Nat}(b:n_ S k c)(d:Nat.ble k n=true):Tn S (args c) 0 n:=by
 refine⟨fun e f a h=> ?_,fun _=>rfl,fun(a:α)=>(b.len a).symm▸Qa0 d⟩;simp only[args]at h;split at h
 ·exact⟨b.ok _ _ h,trivial⟩
 ·cases h
theorem xg {c:zQ D α}{b:Lc D β}{k m n:Nat}(d:n_ S k c)(e:uX S m b)(f:Nat.ble k n=true):Tn S (lH c b) m n:=by
 refine⟨fun j l a h=> ?_,fun a=>e.len _,fun(a:α×β)=>(d.len a.1).symm▸Qa0 f⟩;simp only[lH]at h;split at h
 ·rename_i a b i g;injection h with h
  subst h;exact⟨d.ok _ _ i,e.ok _ _ g⟩
 ·cases h
structure El (D:Type):Type 1 where
 α:Type
 Tv:kF D α
 dflt:α
 inj:List α->D
 QV:D->Option (List α)
def Iq (c:kF D α):Nat->List (Lf D)->Option (List α)
 | 0,[]=>some []
 | 0,_::_=>none
 | n+1,cs=>(match c.dec (cs.take c.n),Iq c n (cs.drop c.n)with
  | some a,some l=>some (a::l)
  | _,_=>none)
abbrev Vw (D:Type):=(E:El D)×List E.α
def Vw.size (p:Vw D):Nat:=p.1.Tv.n
def Vw.len (p:Vw D):Nat:=p.2.length
def Vw.cell (p:Vw D)(i j:Nat):Lf D:=(p.1.Tv.enc (p.2.getD i p.1.dflt)).getD j .any
def Vw.set (p:Vw D)(i j:Nat)(b:List (Lf D)):Option D:=match p.1.Tv.dec (putAt (p.1.Tv.enc (p.2.getD i p.1.dflt)) j b)with
 | some a=>some (p.1.inj (p.2.set i a))
 | none=>none
def Vw.cat (p:Vw D)(d:D):Option D:=match p.1.QV d with
 | some l=>some (p.1.inj (p.2++l))
 | none=>none
def Vw.sub (p:Vw D)(i j:Nat):Option D:=some (p.1.inj ((p.2.take j).drop i))
def vJ (view:D->Vw D)(pI:TypeId->Option (El D))(Po:Nat->Option D:=fun _=>none)(txt:TypeId->List UInt8->Option D:=fun _ _=>none)(DK:D->Option (Mp D):=fun _=>none)(Jq:TypeId->Option D:=fun _=>none):Sh D where
 mp:=DK
 asP:=Jq
 Po:=Po
 text:=txt
 size d:=(view d).size
 len d:=(view d).len
 cell d i j:=(view d).cell i j
 make e n cs:=match pI e with
  | none=>none
  | some E=>(match Iq E.Tv n cs with
   | some l=>some (E.inj l)
   | none=>none)
 zero e n zs:=match pI e with
  | none=>none
  | some E=>(match E.Tv.dec zs with
   | some z=>some (E.inj (List.replicate n z))
   | none=>none)
 set d i j xs:=(view d).set i j xs
 cat d1 d2:=(view d1).cat d2
 sub d i j:=match DK d with
  | none=>(view d).sub i j
  | some _=>none
def txI (s:List UInt8):List Int:=s.map fun b=>(b.toNat:Int)
theorem aDH (s:List UInt8)(i:Nat):(txI s).getD i 0=((s.getD i 0).toNat:Int):=by
 unfold txI;by_cases h:i < s.length
 ·simp[List.getD,Qb4,h]
 ·simp[List.getD,Qb4,Qd8 (by omega:s.length<=i)]
def txU (l:List Int):List UInt8:=(List.range l.length).map fun i=>UInt8.ofNat (l.getD i 0).toNat
theorem awz (l:List Int):txU l=l.map fun n=>UInt8.ofNat n.toNat:=by
 unfold txU;refine List.ext_getElem? fun i=> ?_
 grind
@[simp] theorem aIT:txU []=[]:=rfl
theorem aBP (s:List UInt8):txU (txI s)=s:=by
 rw[awz];unfold txI;rw[Qcy];conv=>rhs;rw[<-Qel s]
 exact Qbb fun b _=>by simp
theorem aAa (l:List Int):(txU l).length=l.length:=by simp[awz]
theorem ae0 (s:List UInt8):(txI s).length=s.length:=by simp[txI]
theorem ab7 {f:Nat->Bool}(h:∀i,f i=true):∀n,TG f n=true
 | 0=>rfl
 | n+1=>by simp[TG,h n,ab7 h n]
structure ayF (S:Sh D)(view:D->Vw D)(pI:TypeId->Option (El D)):Prop where
 el:∀e E,pI e=some E->∀l,view (E.inj l)=⟨E,l⟩
 vw:∀d l,view ((view d).1.inj l)=⟨(view d).1,l⟩
 QV:∀d d2 l2,(view d).1.QV d2=some l2->view d2=⟨(view d).1,l2⟩
 Tv:∀d,dK S (view d).1.Tv
theorem Oz {c:kF D α}(d:dK S c):∀(n:Nat) (cs:List (Lf D)) (l:List α),Iq c n cs=some l->l.length=n/\cs.length=n*c.n/\∀(i j:Nat) (b:α),i < n->j < c.n->∃x,cs[i*c.n+j]? =some x/\x.Le S ((c.enc (l.getD i b)).getD j .any)
 | 0,[],l,h=>by
  injection h with h
  grind
 | 0,_::_,l,h=>by simp[Iq]at h
 | n+1,cs,l,h=>by
  unfold Iq at h;split at h
  ·rename_i a s r o;injection h with h
   subst h;obtain⟨q,v,u⟩:=Oz d n _ s o;have e:=d.ok _ _ r;have k:=e.length;rw[d.len]at k;have t:c.n<=cs.length:=by grind
   refine⟨by simp[q],?_,fun i j b w f=> ?_⟩
   ·grind
   ·cases i with
    | zero=>
     have m:(c.enc a)[j]? =some ((c.enc a).getD j .any):=by
      have:j < (c.enc a).length:=by rw[d.len];exact f
      grind
     obtain⟨x,p,g⟩:=e.get j _ m
     grind
    | succ i=>
     obtain⟨x,p,g⟩:=u i j b au f
     grind
  ·cases h
theorem getD_some {l:List α}{i:Nat}{d:α}(h:i < l.length):l.getD i d=l[i]:=by grind
structure ayD (S:Sh D)(view:D->Vw D)(pI:TypeId->Option (El D))(gl:Nat->Option D)(txt:TypeId->List UInt8->Option D)(DK:D->Option (Mp D))(Jq:TypeId->Option D):Prop where
 inj:∀d l,DK ((view d).1.inj l)=none
 el:∀e E,pI e=some E->∀l,DK (E.inj l)=none
 txt:∀e s d,txt e s=some d->DK d=none
 Po:∀i d,gl i=some d->DK d=none
 size:∀d m,DK d=some m->(view d).len=0/\(view d).size=0/\aB1 S m
 new:∀t d,Jq t=some d->∃m,DK d=some m/\m.kvs=[]
theorem au1 {view:D->Vw D}{pI:TypeId->Option (El D)}{g:Nat->Option D}{f:TypeId->List UInt8->Option D}{DK:D->Option (Mp D)}{Jq:TypeId->Option D}(h:ayF (vJ view pI g f DK Jq) view pI)
  (ht:∀e s d,f e s=some d->(vJ view pI g f DK Jq).size d=1/\(vJ view pI g f DK Jq).len d=s.length/\∀i,i < s.length->(vJ view pI g f DK Jq).cell d i 0= .int .u8 (s.getD i 0).toNat) (G:ayD (vJ view pI g f DK Jq) view pI g f DK Jq):iZ (vJ view pI g f DK Jq):=by
 have htx:∀e s d,(vJ view pI g f DK Jq).text e s=some d->(vJ view pI g f DK Jq).size d=1/\(vJ view pI g f DK Jq).len d=s.length/\∀i,i < s.length->(vJ view pI g f DK Jq).cell d i 0= .int .u8 (s.getD i 0).toNat:=ht;clear ht;have y:∀d,(vJ view pI g f DK Jq).size d=(view d).size:=fun _=>rfl
 have r:∀d,(vJ view pI g f DK Jq).len d=(view d).len:=fun _=>rfl
 have C:∀d i j,(vJ view pI g f DK Jq).cell d i j=(view d).cell i j:=fun _ _ _=>rfl
 have F:∀d i j H,(vJ view pI g f DK Jq).set d i j H=(view d).set i j H:=fun _ _ _ _=>rfl
 have Jj:∀d B,(vJ view pI g f DK Jq).cat d B=(view d).cat B:=fun _ _=>rfl
 have Q:∀d i j B,(vJ view pI g f DK Jq).sub d i j=some B->(view d).sub i j=some B/\DK d=none:=by
  intro d i j B M;simp only[vJ]at M
  grind
 have p:∀d,(vJ view pI g f DK Jq).mp d=DK d:=fun _=>rfl
 have hnw:∀t,(vJ view pI g f DK Jq).asP t=Jq t:=fun _=>rfl
 have hgl:∀t,(vJ view pI g f DK Jq).Po t=g t:=fun _=>rfl
 have htt:∀e s,(vJ view pI g f DK Jq).text e s=f e s:=fun _ _=>rfl
 have V:∀e n cs d,(vJ view pI g f DK Jq).make e n cs=some d->∃E l,pI e=some E/\Iq E.Tv n cs=some l/\E.inj l=d:=by
  intro e n cs d b;simp only[vJ]at b
  grind
 have W:∀e n I d,(vJ view pI g f DK Jq).zero e n I=some d->∃E z,pI e=some E/\E.Tv.dec I=some z/\E.inj (List.replicate n z)=d:=by
  intro e n I d b;simp only[vJ]at b
  grind
 generalize vJ view pI g f DK Jq=S at*;refine⟨fun e n cs d b=> ?_,fun d i j A v=> ?_,fun e n I d b=> ?_,fun d i j H B b A=> ?_,fun d1 d2 d b=> ?_,fun d i j B b hij v=> ?_,htx,
  fun e n cs d b=> ?_,fun e n I d b=> ?_,fun d i j H B b _=> ?_,fun d1 d2 d b=> ?_,fun d i j B b=> ?_,fun e s d b=> ?_,fun d m b=> ?_,fun t d M=> ?_,fun i d M=> ?_⟩
 ·obtain⟨E,l,L,hl,rfl⟩:=V e n cs d b;have w:=h.el e E L l;have o:=h.Tv (E.inj l);rw[w]at o;obtain⟨q1,q2,q3⟩:=Oz o n cs l hl;simp only[y,r,C,w];exact⟨q1,q2,fun i j A v=>q3 i j _ A v⟩
 ·rw[C];unfold Vw.cell;rw[y]at v;have K:=h.Tv d;have T:j < ((view d).1.Tv.enc ((view d).2.getD i (view d).1.dflt)).length:=by rw[K.len];exact v
  rw[getD_some T];exact K.data _ _ (Qea T)
 ·obtain⟨E,z,L,hz,rfl⟩:=W e n I d b;have w:=h.el e E L (List.replicate n z);have o:=h.Tv (E.inj (List.replicate n z));rw[w]at o;have o:dK S E.Tv:=o;have J:=o.ok _ _ hz;simp only[y,r,C,w];refine⟨by simp[Vw.len],by rw[J.length,o.len];rfl,fun i j A v=> ?_⟩;have v:j < E.Tv.n:=v;have aa:(List.replicate n z).getD i E.dflt=z:=by
   grind
  show ∃x,I[j]? =some x/\x.Le S ((E.Tv.enc ((List.replicate n z).getD i E.dflt)).getD j .any)
  rw[aa];exact J.get j _ (by
   have:j < (E.Tv.enc z).length:=by rw[o.len];exact v
   grind)
 ·rw[F]at b;unfold Vw.set at b;split at b
  ·rename_i a ha;injection b with b
   subst b;have K:=h.Tv d;have w:=h.vw d ((view d).2.set i a);have J:=K.ok _ _ ha;rw[r]at A;have A:i < (view d).2.length:=A;simp only[y,r,C,w];refine⟨rfl,by simp[Vw.len],fun R u X N=> ?_⟩;simp only[Vw.cell];have N:u < (view d).1.Tv.n:=N;have X:R < (view d).2.length:=X;have hla:u < ((view d).1.Tv.enc a).length:=by rw[K.len];exact N
   have hl0:((view d).1.Tv.enc ((view d).2.getD i (view d).1.dflt)).length=(view d).1.Tv.n:=K.len _;have O:=J.length;rw[K.len]at O;by_cases hii:R=i
   ·subst hii;have F:((view d).2.set R a).getD R (view d).1.dflt=a:=by grind
    rw[F];obtain⟨x,Z,U⟩:=J.get u _ (show((view d).1.Tv.enc a)[u]? =some (((view d).1.Tv.enc a).getD u .any) by grind);unfold putAt at Z O;generalize hcs:(view d).1.Tv.enc ((view d).2.getD R (view d).1.dflt)=cs at Z O hl0;have Y:∀x,(cs.take j++(H++cs.drop (j+H.length)))[u]? =some x->(j<=u/\u < j+H.length->H[u - j]? =some x)/\(¬(j<=u/\u < j+H.length)->cs[u]? =some x):=by
     grind
    obtain⟨k1,k2⟩:=Y x Z;refine⟨fun q=>⟨x,k1 ⟨q.2.1,q.2.2⟩,U⟩,fun q=> ?_⟩;have hcx:=k2 fun q'=>q ⟨rfl,q'⟩
    have hxd:x.jY=true:=K.data _ x (by rw[hcs];grind);rw[azk U hxd]
    grind
   grind
  ·cases b
 ·rw[Jj]at b;unfold Vw.cat at b;split at b
  ·rename_i l2 hl2;injection b with b
   subst b;have w:=h.vw d1 ((view d1).2++l2);have hv2:=h.QV d1 d2 l2 hl2;simp only[y,r,C,w,hv2];refine⟨rfl,rfl,by simp[Vw.len],fun i j A=> ?_,fun i j A=> ?_⟩<;>simp only[Vw.cell,Vw.len]
   ·have A:i < (view d1).2.length:=A
    grind
   grind
  ·cases b
 ·have b:=(Q _ _ _ _ b).1;unfold Vw.sub at b;injection b with b
  subst b;rw[r]at v;have v:j<=(view d).2.length:=v;have w:=h.vw d (((view d).2.take j).drop i);simp only[y,r,C,w];refine⟨rfl,by simp[Vw.len];omega,fun k c hk=> ?_⟩;simp only[Vw.cell]
  grind
 ·obtain⟨E,l,L,hl,rfl⟩:=V e n cs d b;rw[p];exact G.el e E L l
 ·obtain⟨E,z,L,hz,rfl⟩:=W e n I d b;rw[p];exact G.el e E L _
 ·rw[F]at b;unfold Vw.set at b;split at b
  ·injection b with b
   subst b;rw[p];exact G.inj _ _
  ·cases b
 ·rw[Jj]at b;unfold Vw.cat at b;split at b
  ·injection b with b
   subst b;rw[p];exact G.inj _ _
  ·cases b
 ·obtain⟨P,h2⟩:=Q _ _ _ _ b;unfold Vw.sub at P;injection P with P
  subst P;rw[p,p];exact⟨h2,G.inj _ _⟩
 ·rw[htt]at b;rw[p];exact G.txt _ _ _ b
 ·rw[p]at b;rw[r,y];exact G.size d m b
 ·rw[hnw]at M;obtain⟨m,P,h2⟩:=G.new _ _ M
  grind
 ·rw[hgl]at M;rw[p];exact G.Po _ _ M
end
attribute [instance] qp LY aek azf OZ aG0 Ba aBC azW azX aDA aA7 aHu
section
variable {D α β:Type}{S:Sh D}
instance aJR {c:kF D α} {d:kF D β} [b:dK S c] [a:dK S d]:dK S (dM c d):=axX b a
instance aJ9 {n:Nat} {d:α} {c:kF D α} [a:dK S c]:dK S (K_ n d c):=aA1 a
instance iL1 {c:kF D α} [a:dK S c]:zI S (l1 c):=aCR a
instance iLc {c:kF D α} {r:QT D β} [a:dK S c] [b:zI S r]:zI S (aC c r):=axy a b
instance iLf {c:kF D α} [a:dK S c]:uU S (df c):=qi a
instance iAg {c:kF D α} [a:dK S c]:uU S (aQ c):=adn a
instance iA1 {c:Arg D α} [a:uU S c]:n_ S 1 (a1 c):=S9 a
instance iAc {c:Arg D α} {r:zQ D β} {k:Nat} [a:uU S c] [b:n_ S k r]:n_ S (k+1) (ax c r):=jM a b
instance iBc {c:kF D α} [a:dK S c]:zH S (cZ c):=art a
instance iB1 {c:Blk D α} [a:zH S c]:uX S 1 (b1 c):=aGP a
instance iBs {c:Blk D α} {r:Lc D β} {k:Nat} [a:zH S c] [b:uX S k r]:uX S (k+1) (ng c r):=avx a b
instance iSp {b:(Nat->Sl D)->List It} {c:QT D α} [a:zI S c]:rD S (dh b c):=aEk a
instance iSr {b:List It} {c:QT D α} [a:zI S c]:rD S (shr b c):=awk a
theorem oP {c:zQ D α}{k n:Nat}[a:n_ S k c](b:Nat.ble k n=true):Tn S (args c) 0 n:=az9 a b
theorem tJ {c:zQ D α}{b:Lc D β}{k m n:Nat}[a:n_ S k c][d:uX S m b](e:Nat.ble k n=true):Tn S (lH c b) m n:=xg a d e
end
end Go.Vc
namespace Go.Vc
section
variable {A R:Type}
end
theorem uM {D:Type}{P:Program}{S:Sh D}{f:FuncId}{c:uV D}{j:FT D}{k:Nat}{e:List Nat}{d:Nat->c.A->Option Prop}{s:Nat->c.A->j.X}(h:∀n,fK P S f (xK c j k e (d n) (s n)))
  (i:c.A->Option Prop) (l:c.A->j.X) (A:∀a,tN (i a)->∃n,tN (d n a)/\s n a=l a):fK P S f (xK c j k e i l):=by
 refine⟨(h 0).enters,fun X N g w args u y p r q t v o b m=> ?_⟩;unfold xK at b;split at b
 ·cases b
 ·rename_i a C;injection b with b
  injection b with z b
  subst z;obtain⟨n,x,B⟩:=A a (Gj.1 m);refine(h n).calls X N g w args u y ((d n a).map dq) r q t v o ?_ (Gj.2 x);unfold xK
  grind
end Go.Vc
namespace Go.Vc
open Go.RowKit Go.ChangeShapes Go.WideShapes Go.ChangeAt Go.Joins
section
variable {H:Type}{enc:TypeId×Value->H}{P:Program}{W W':World}
theorem JA (k:laidOutB P=true)(i:Below W.heap.size W W'):∀{f:List TypeId} {c:List Value} {a:List (DataW H)} {e:List MemPlace},(f.all fun t=>P.readableRec t && decide (t < P.types.size))=true->
  DataW.TrodAll enc P W 0 (fun _=>true) true f c a e->DataW.TrodAll enc P W' 0 (fun b=>decide (b < W.heap.size)) true f c a e
 | [],c,a,e,_,h=>by
  obtain⟨rfl,rfl,rfl⟩:=trodAll_nil h;rfl
 | t::f,c,a,e,g,h=>by
  simp only[Qcj,jA,Lh]at g;obtain⟨v,o,d,r,p,q,rfl,rfl,rfl,j,l⟩:=trodAll_cons h;have lt:∀x∈p,x.block < W.heap.size:=by obtain⟨m,n⟩:=j;exact DataW.trod_lt m _ _ _ n
  exact trodAll_cons_mk (Below.trod k g.1.1 g.1.2 j i lt) (JA k i g.2 l)
theorem aHB {k:IntKind}{n:Int}(h:(Lit.int k n).wf=true):FX k n:=by
 cases k<;>simp[Lit.wf,IntKind.min,IntKind.max,IntKind.signed,IntKind.bits]at h<;>simp only[FX]<;>omega
end
def NoN:Nat->Prop:=fun _=>False
section
variable {D α β:Type}{S:Sh D}{P:Program}
theorem ais {w:World}{d:D}{a:Option Addr}{n cap:Nat}(v:n=S.len d)(g:n<=cap)(l:n<=9223372036854775807)(U:Nat->Nat->Value)
  (e:∀i j,i < S.len d->j < S.size d->∃b,a=some b/\w.cell? (b.add (i*S.size d+j))=some (U i j))
  (r:∀i j,i < S.len d->j < S.size d->Lf.plain (S.cell d i j) (U i j))
  (k:∀i j c,i < S.len d->j < S.size d->S.cell d i j= .dat c->dF S NoN w c (U i j)) (o:S.mp d=none):dF S NoN w d (.slice a n cap):=by
 intro w' p;subst v;refine Fp.mk d o a cap U g l (fun i j m f=> ?_) r (fun i j c m f t=>k i j c m f t w' p);obtain⟨b,u,q⟩:=e i j m f;refine⟨b,u,?_⟩;have s:(b.add (i*S.size d+j)).block < w.heap.size:=by
  rcases Qc7 (b.add (i*S.size d+j)).block w.heap.size with h | h
  ·exact h
  ·simp[World.cell?,Array.getElem?_eq_none h]at q
 rw[<-q];exact World.cell?_of_block (p _ s (fun h=>h))
def aos (P:Program)(S:Sh D)(t:TypeId)(c:kF D α)(e:α->Prop):Prop:=
 ∀{H:Type} {enc:TypeId×Value->H} {w:World} {d:Nat} {b:Nat->Bool} {f:Bool} {g:Nat} {cs:List Value} {x:DataW H×List MemPlace},
  DataW.trod enc P w d b f g t cs=some x->∃a,bf S NoN w noG (c.enc a) cs/\e a
theorem kR {t:TypeId}{k:IntKind}(d:P.underlying t=some (.int k)):aos P S t (gW k) (FX k):=by
 intro H enc w b a c f cs x h;obtain⟨n,rfl,_,e⟩:=DataW.trod_int d h;exact⟨n,⟨rfl,trivial⟩,aHB e⟩
theorem Zm {t:TypeId}(e:P.underlying t=some .bool):aos P S t aW fun _=>True:=by
 intro H enc w c a d f cs x h;obtain⟨b,rfl,_⟩:=DataW.trod_bool e h;exact⟨b,⟨rfl,trivial⟩,trivial⟩
theorem ary {t:TypeId}(f:P.underlying t=some .string):aos P S t cStr fun s=>s.length<=9223372036854775807:=by
 intro H enc w c b e g cs x h;obtain⟨s,rfl,_,d⟩:=DataW.trod_string f h;have a:s.data.toList.length<=9223372036854775807:=by
  unfold maxLen at d;simp_all
 refine⟨s.data.toList,⟨⟨?_,a⟩,trivial⟩,a⟩;cases s;simp
theorem bf.app {M:Nat->Prop}{w:World}{g:Nat->Option Value}:∀{b c:List (Lf D)} {d a:List Value},bf S M w g b d->bf S M w g c a->bf S M w g (b++c) (d++a)
 | [],_,[],_,_,k=>k
 | _::_,_,_::_,_,h,k=>⟨h.1,bf.app h.2 k⟩
theorem agV {Q:Nat->α->Prop}:∀n,(∀i,i < n->∃a,Q i a)->∃l:List α,l.length=n/\∀(i:Nat) (h:i < l.length),Q i l[i]
 | 0,_=>⟨[],rfl,fun i h=>by simp at h⟩
 | n+1,h=>by
  obtain⟨l,c,d⟩:=agV n fun i b=>h i au
  obtain⟨a,e⟩:=h n au;refine⟨l++[a],by simp[c],fun i b=> ?_⟩
  grind
theorem bf.getD' {M:Nat->Prop}{w:World}{g:Nat->Option Value}{a:List (Lf D)}{b:List Value}{j:Nat}(h:bf S M w g a b)(c:j < a.length):∃v,b[j]? =some v/\(a.getD j .any).Rel S M w g v:=by
 have:a[j]? =some (a.getD j .any):=by grind
 exact bf.get j h this
def auz:FT D:=shr [.slot 0 false [none]] (l1 aW)
end
end Go.Vc
