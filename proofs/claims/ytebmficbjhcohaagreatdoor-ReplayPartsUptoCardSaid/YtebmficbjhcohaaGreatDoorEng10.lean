/- Own engine: Vdo, Vdq, Vdp. -/
import Derived.Test.YtebmficbjhcohaaGreatDoorEng9
import Derived.ProofKit
import Derived.OpenShut
import Derived.Lib.SmallJoins
set_option linter.unusedVariables false
set_option linter.unusedSimpArgs false
namespace Go.Vc
open Go.RowKit
universe u
def lk {a:Type u}:List (Nat×a)->Nat->Option a
 | [],_=>none
 | (k,v)::r,n=>if Nat.beq n k then some v else lk r n
theorem SX {a:Type u}:∀{l:List (Nat×a)} {k:Nat} {v:a},lk l k=some v->(k,v)∈l
 | [],_,_,h=>by simp[lk]at h
 | (c,d)::r,k,v,h=>by
  simp only[lk]at h;split at h
  ·rename_i b;injection h with h
   subst h;rw[Qa b];simp
  ·exact Qb0 _ (SX h)
abbrev Str:=List UInt8
structure ji (D α:Type) where
 n:Nat
 enc:α->List (Lf D)
 dec:List (Lf D)->Option α
class dm {D α:Type} (S:Sh D) (c:ji D α):Prop where
 ok:∀xs a,c.dec xs=some a->WC S xs (c.enc a)
 len:∀a,(c.enc a).length=c.n
 data:∀a x,x∈c.enc a->x.jE=true
section
variable {D α β:Type}{S:Sh D}
theorem WC.app:∀{a b c d:List (Lf D)},WC S a b->WC S c d->WC S (a++c) (b++d)
 | [],[],_,_,_,k=>k
 | x::e,y::f,_,_,h,k=>⟨h.1,h.2.1,WC.app h.2.2 k⟩
theorem WC.length:∀{a b:List (Lf D)},WC S a b->a.length=b.length
 | [],[],_=>rfl
 | _::_,_::_,h=>by simp[WC.length h.2.2]
theorem WC.get:∀{a b:List (Lf D)},WC S a b->∀(i:Nat) (y:Lf D),b[i]? =some y->∃x,a[i]? =some x/\x.Le S y
 | [],[],_,i,y,h=>by simp at h
 | x::d,y::e,h,0,z,c=>by simp at c;subst c;exact⟨x,rfl,h.1⟩
 | x::d,y::e,h,i+1,z,c=>by simpa using WC.get h.2.2 i z (by simpa using c)
theorem Lf.Le.refl (x:Lf D):x.Le S x:= .inl rfl
theorem axc {x y:Lf D}(h:x.Le S y)(a:x.jE=true):y=x:=by
 rcases h with h | ⟨h,_⟩ | ⟨b,h,_⟩ | ⟨_,_,_,_,h,_⟩ | ⟨_,h,_⟩
 ·exact h.symm
 ·subst h;simp[Lf.jE]at a
 ·subst h;simp[Lf.jE]at a
 ·subst h;simp[Lf.jE]at a
 ·subst h;simp[Lf.jE]at a
def gq (k:IntKind):ji D Int:=⟨1,fun n=>[.int k n],fun b=>match b with
 | [.int a n]=>if kEq k a then some n else none
 | _=>none⟩
def aG:ji D Bool:=⟨1,fun b=>[.bool b],fun a=>match a with
 | [.bool b]=>some b
 | [.val (.bool b)]=>some b
 | _=>none⟩
def cStr:ji D (List UInt8):=⟨1,fun s=>[.str s],fun a=>match a with
 | [.str s]=>some s
 | _=>none⟩
def rF (b:α->D)(f:D->Option α)(c:α):ji D α:=⟨1,fun a=>[.dat (b a)],fun g=>match g with
 | [.dat d]=>f d
 | [.val v]=>if AZ v then some c else none
 | [.xt e]=>(match e with
  | .clip d=>f d
  | _=>none)
 | _=>none⟩
def aCv:ji D (Option zF):=⟨1,fun v=>[.O_ v],fun b=>match b with
 | [.O_ v]=>some v
 | [.xt (.ifd t c a)]=>(match NP a with
  | some d=>some (some ⟨t,c,d⟩)
  | none=>none)
 | _=>none⟩
def ali:ji D Unit:=⟨0,fun _=>[],fun a=>match a with
 | []=>some ()
 | _=>none⟩
def dh (c:ji D α)(d:ji D β):ji D (α×β):=⟨c.n+d.n,fun p=>c.enc p.1++d.enc p.2,fun e=>match c.dec (e.take c.n),d.dec (e.drop c.n)with
 | some a,some b=>some (a,b)
 | _,_=>none⟩
def nG (c:ji D α)(f:α->β)(g:β->α):ji D β:=⟨c.n,fun b=>c.enc (g b),fun d=>match c.dec d with
 | some a=>some (f a)
 | none=>none⟩
def tC (c:ji D α)(d:α)(l:List α):Nat->Nat->List (Lf D)
 | _,0=>[]
 | i,n+1=>c.enc (l.getD i d)++tC c d l (i+1) n
def SY (c:ji D α):Nat->List (Lf D)->Option (List α)
 | 0,[]=>some []
 | 0,_=>none
 | n+1,b=>(match c.dec (b.take c.n),SY c n (b.drop c.n)with
  | some a,some l=>some (a::l)
  | _,_=>none)
def G_ (n:Nat)(d:α)(c:ji D α):ji D (List α):=⟨n*c.n,fun l=>tC c d l 0 n,SY c n⟩
theorem QZ {c:ji D α}(a:dm S c)(d:α)(l:List α):∀(n i:Nat),(tC c d l i n).length=n*c.n
 | 0,i=>by simp[tC]
 | n+1,i=>by rw[tC,qO,a.len,QZ a d l n (i+1),Qcf];omega
theorem NI {c:ji D α}(a:dm S c)(d:α)(l:List α):∀(n i:Nat) (x:Lf D),x∈tC c d l i n->x.jE=true
 | 0,i,x,h=>by simp[tC]at h
 | n+1,i,x,h=>by
  simp only[tC,u_]at h;rcases h with h | h
  ·exact a.data _ _ h
  ·exact NI a d l n (i+1) x h
theorem Jb (c:ji D α)(d a:α)(l:List α):∀(n i:Nat),tC c d (a::l) (i+1) n=tC c d l i n
 | 0,i=>rfl
 | n+1,i=>by simp only[tC,Qdf,Jb c d a l n (i+1)]
theorem XE {c:ji D α}(e:dm S c)(d:α):∀(n:Nat) (b:List (Lf D)) (l:List α),SY c n b=some l->WC S b (tC c d l 0 n)
 | 0,b,l,h=>by
  cases b with
  | nil=>trivial
  | cons x b=>simp[SY]at h
 | n+1,b,l,h=>by
  unfold SY at h;split at h
  ·rename_i a f i g;injection h with h
   subst h;have:=WC.app (e.ok _ _ i) (XE e d n _ _ g);rw[Qcd]at this;simp only[tC,Qdg];rw[FQ,Jb c d a f n 0];exact this
  ·cases h
theorem awp {n:Nat}{d:α}{c:ji D α}(a:dm S c):dm S (G_ n d c):=
 ⟨fun b l h=>XE a d n b l h,fun l=>QZ a d l n 0,fun l x e=>NI a d l n 0 x e⟩
theorem nO (k:IntKind):dm S (gq (D:=D) k):=by
 refine⟨fun d a h=> ?_,fun _=>rfl,fun a x c=> ?_⟩
 ·simp only[gq]at h;split at h
  ·split at h
   ·rename_i b;injection h with h
    subst h;simp only[kEq,Qch]at b;subst b;exact⟨.inl rfl,rfl,trivial⟩
   ·cases h
  ·cases h
 ·simp[gq]at c;subst c;rfl
theorem I7:dm S (aG (D:=D)):=by
 refine⟨fun c a h=> ?_,fun _=>rfl,fun a x b=> ?_⟩
 ·simp only[aG]at h;split at h
  ·injection h with h;subst h;exact⟨.inl rfl,rfl,trivial⟩
  ·injection h with h;subst h;exact⟨.inr (.inr (.inl ⟨_,rfl,rfl⟩)),rfl,trivial⟩
  ·cases h
 ·simp[aG]at b;subst b;rfl
theorem aaj:dm S (cStr (D:=D)):=by
 refine⟨fun c a h=> ?_,fun _=>rfl,fun a x b=> ?_⟩
 ·simp only[cStr]at h;split at h
  ·injection h with h;subst h;exact⟨.inl rfl,rfl,trivial⟩
  ·cases h
 ·simp[cStr]at b;subst b;rfl
theorem axC:dm S (aCv (D:=D)):=by
 refine⟨fun d a h=> ?_,fun _=>rfl,fun a x b=> ?_⟩
 ·simp only[aCv]at h;split at h
  ·injection h with h;subst h;exact⟨.inl rfl,rfl,trivial⟩
  ·split at h
   ·rename_i e c;injection h with h;subst h;exact⟨.inr (.inr (.inr (.inl ⟨_,_,_,_,rfl,rfl,c⟩))),rfl,trivial⟩
   ·cases h
  ·cases h
 ·simp[aCv]at b;subst b;rfl
theorem jh {b:α->D}{g:D->Option α}{c:α}(f:∀d a,g d=some a->d=b a)(k:S.len (b c)=0)(e:S.mp (b c)=none:=by rfl):dm S (rF b g c):=by
 refine⟨fun l a h=> ?_,fun _=>rfl,fun a x i=> ?_⟩
 ·simp only[rF]at h;split at h
  ·rw[f _ _ h];exact⟨.inl rfl,rfl,trivial⟩
  ·split at h
   ·rename_i j;injection h with h
    subst h;rw[acs j];exact⟨.inr (.inl ⟨rfl,_,rfl,k,e⟩),rfl,trivial⟩
   ·cases h
  ·split at h
   ·rw[f _ _ h];exact⟨.inr (.inr (.inr (.inr ⟨_,rfl,rfl⟩))),rfl,trivial⟩
   ·cases h
  ·cases h
 ·simp[rF]at i;subst i;rfl
theorem IU:dm S (ali (D:=D)):=by
 refine⟨fun c a h=> ?_,fun _=>rfl,fun a x b=> ?_⟩
 ·simp only[ali]at h;split at h
  ·trivial
  ·cases h
 ·simp[ali]at b
theorem api {c:ji D α}{d:ji D β}(f:dm S c)(g:dm S d):dm S (dh c d):=by
 refine⟨fun k a h=> ?_,fun a=>by simp[dh,f.len,g.len],fun a x e=> ?_⟩
 ·simp only[dh]at h;split at h
  ·rename_i a b j i;injection h with h
   subst h;have:=WC.app (f.ok _ _ j) (g.ok _ _ i);rwa [Qcd]at this
  ·cases h
 ·simp only[dh,u_]at e;rcases e with e | e
  ·exact f.data _ _ e
  ·exact g.data _ _ e
theorem gm {c:ji D α}{f:α->β}{g:β->α}(b:dm S c)(e:∀a,g (f a)=a):dm S (nG c f g):=by
 refine⟨fun j a h=> ?_,fun a=>b.len _,fun a x d=>b.data _ _ d⟩;simp only[nG]at h;split at h
 ·rename_i k i;injection h with h
  subst h;simp only[nG,e];exact b.ok _ _ i
 ·cases h
structure Ns (D α:Type) where
 enc:α->List (List (Lf D))
 dec:List (List (Lf D))->Option α
class xk (S:Sh D) (c:Ns D α):Prop where
 ok:∀xs a,c.dec xs=some a->ag9 S xs (c.enc a)
def l0:Ns D Unit:=⟨fun _=>[],fun a=>match a with
 | []=>some ()
 | _=>none⟩
def l1 (c:ji D α):Ns D α:=⟨fun a=>[c.enc a],fun b=>match b with
 | [x]=>c.dec x
 | _=>none⟩
def ay (c:ji D α)(r:Ns D β):Ns D (α×β):=⟨fun p=>c.enc p.1::r.enc p.2,fun d=>match d with
 | x::d=>(match c.dec x,r.dec d with
  | some a,some b=>some (a,b)
  | _,_=>none)
 | _=>none⟩
theorem aIv:xk S (l0 (D:=D)):=⟨fun b a h=>by
 simp only[l0]at h;split at h
 ·trivial
 ·cases h⟩
theorem aAi {c:ji D α}(b:dm S c):xk S (l1 c):=⟨fun d a h=>by
 simp only[l1]at h;split at h
 ·exact⟨b.ok _ _ h,trivial⟩
 ·cases h⟩
theorem ar6 {c:ji D α}{r:Ns D β}(e:dm S c)(g:xk S r):xk S (ay c r):=⟨fun i a h=>by
 simp only[ay]at h;split at h
 ·split at h
  ·rename_i a b f d;injection h with h
   subst h;exact⟨e.ok _ _ f,g.ok _ _ d⟩
  ·cases h
 ·cases h⟩
def bJ (a:(Nat->Sl D)->List It)(c:Ns D α):CQ D:=⟨α,a,c.enc,c.dec⟩
def shr (a:List It)(c:Ns D α):CQ D:=⟨α,fun _=>a,c.enc,c.dec⟩
theorem aCT {a:(Nat->Sl D)->List It}{c:Ns D α}(b:xk S c):pY S (bJ a c):=⟨b.ok⟩
theorem atW {a:List It}{c:Ns D α}(b:xk S c):pY S (shr a c):=⟨b.ok⟩
structure xB (D α:Type) where
 enc:α->List (Sl D)
 dec:List (Sl D)->Option α
class mW (S:Sh D) (k:outParam Nat) (c:xB D α):Prop where
 ok:∀xs a,c.dec xs=some a->YY S xs (c.enc a)
 len:∀a,(c.enc a).length=k
structure Hy (D α:Type) where
 enc:α->List (Bk D)
 dec:List (Bk D)->Option α
class sF (S:Sh D) (k:outParam Nat) (c:Hy D α):Prop where
 ok:∀xs a,c.dec xs=some a->Gl S xs (c.enc a)
 len:∀a,(c.enc a).length=k
structure Arg (D α:Type) where
 enc:α->Sv D
 dec:Sv D->Option α
class su (S:Sh D) (c:Arg D α):Prop where
 ok:∀x a,c.dec x=some a->avp S x (c.enc a)
def lf0:List (Lf D)->Lf D
 | [x]=>x
 | _=> .any
def bz (c:ji D α):Arg D α:=⟨fun a=> .lf (lf0 (c.enc a)),fun x=>match x with
 | .lf x=>c.dec [x]
 | _=>none⟩
def aI (c:ji D α):Arg D α:=⟨fun a=> .agg (c.enc a),fun x=>match x with
 | .agg b=>c.dec b
 | _=>none⟩
def iE (l:Nat):Arg D Unit:=⟨fun _=> .lf (.ptr l 0),fun x=>match x with
 | .lf (.ptr a o)=>if Nat.beq l a && Nat.beq o 0 then some ()else none
 | _=>none⟩
def nM (l:Nat):Arg D Unit:=⟨fun _=> .lf (.own l),fun x=>match x with
 | .lf (.own a)=>if Nat.beq l a then some ()else none
 | _=>none⟩
def aIy (l b:Nat):Arg D Nat:=⟨fun i=> .lf (.opt l i 0 b),fun x=>match x with
 | .lf (.opt c i j a)=>if Nat.beq l c && Nat.beq j 0 && Nat.beq b a then some i else none
 | _=>none⟩
def OX:List Nat->List Nat->Bool
 | [],[]=>true
 | x::a,y::b=>Nat.beq x y && OX a b
 | _,_=>false
theorem Jf:∀{b a:List Nat},OX b a=true->b=a
 | [],[],_=>rfl
 | x::b,y::a,h=>by
  simp only[OX,iT]at h;rw[Qa h.1,Jf h.2]
 | [],_::_,h=>by simp[OX]at h
 | _::_,[],h=>by simp[OX]at h
def jP (f:Nat)(a:List Nat):Arg D Unit:=⟨fun _=> .lf (.fn f a),fun x=>match x with
 | .lf (.fn c b)=>if Nat.beq f c && OX a b then some ()else none
 | _=>none⟩
def aCA (f:Nat)(a:List Nat):Arg D Unit:=⟨fun _=> .agg [.fn f a],fun x=>match x with
 | .agg [.fn c b]=>if Nat.beq f c && OX a b then some ()else none
 | _=>none⟩
theorem oJ {c:ji D α}(d:dm S c):su S (bz c):=⟨fun x a h=>by
 simp only[bz]at h⊢;split at h
 ·have:=d.ok _ _ h;generalize c.enc a=b at this;cases b with
  | nil=>exact this.elim
  | cons y b=>
   cases b with
   | cons _ _=>exact this.2.2.elim
   | nil=>exact this.1
 ·cases h⟩
theorem WC.les:∀{a b:List (Lf D)},WC S a b->KP S a b
 | [],[],_=>trivial
 | _::_,_::_,h=>⟨h.1,WC.les h.2.2⟩
theorem abX {c:ji D α}(b:dm S c):su S (aI c):=⟨fun x a h=>by
 simp only[aI]at h⊢;split at h
 ·exact(b.ok _ _ h).les
 ·cases h⟩
theorem xP (l:Nat):su S (iE (D:=D) l):=⟨fun x a h=>by
 simp only[iE]at h⊢;split at h
 ·split at h
  ·rename_i b;simp only[iT]at b;rw[<-Qa b.1,Qa b.2];exact .inl rfl
  ·cases h
 ·cases h⟩
theorem aw3 (l:Nat):su S (nM (D:=D) l):=⟨fun x a h=>by
 simp only[nM]at h⊢;split at h
 ·split at h
  ·rename_i b;rw[<-Qa b];exact .inl rfl
  ·cases h
 ·cases h⟩
theorem awY (l c:Nat):su S (aIy (D:=D) l c):=⟨fun x a h=>by
 simp only[aIy]at h⊢;split at h
 ·split at h
  ·rename_i b;simp only[iT]at b;injection h with h
   subst h;rw[<-Qa b.1.1,Qa b.1.2,<-Qa b.2];exact .inl rfl
  ·cases h
 ·cases h⟩
def aH6 (l b:Nat):Arg D Unit:=⟨fun _=> .lf (.opt l 0 0 b),fun x=>match x with
 | .lf (.opt c i j a)=>if Nat.beq l c && (Nat.beq i 0 && (Nat.beq j 0 && Nat.beq b a))then some ()else none
 | _=>none⟩
theorem ay9 (l c:Nat):su S (aH6 (D:=D) l c):=⟨fun x a h=>by
 simp only[aH6]at h⊢;split at h
 ·split at h
  ·rename_i b;simp only[iT]at b;rw[<-Qa b.1,Qa b.2.1,Qa b.2.2.1,<-Qa b.2.2.2];exact .inl rfl
  ·cases h
 ·cases h⟩
theorem aC_ (f:Nat)(c:List Nat):su S (jP (D:=D) f c):=⟨fun x a h=>by
 simp only[jP]at h⊢;split at h
 ·split at h
  ·rename_i b;simp only[iT]at b;rw[<-Qa b.1,<-Jf b.2];exact .inl rfl
  ·cases h
 ·cases h⟩
theorem azn (f:Nat)(c:List Nat):su S (aCA (D:=D) f c):=⟨fun x a h=>by
 simp only[aCA]at h⊢;split at h
 ·split at h
  ·rename_i b;simp only[iT]at b;rw[<-Qa b.1,<-Jf b.2];exact⟨.inl rfl,trivial⟩
  ·cases h
 ·cases h⟩
def a0:xB D Unit:=⟨fun _=>[],fun a=>match a with
 | []=>some ()
 | _=>none⟩
def a1 (c:Arg D α):xB D α:=⟨fun a=>[.one (c.enc a)],fun b=>match b with
 | [.one x]=>c.dec x
 | _=>none⟩
def ak (c:Arg D α)(r:xB D β):xB D (α×β):=⟨fun p=> .one (c.enc p.1)::r.enc p.2,fun d=>match d with
 | .one x::d=>(match c.dec x,r.dec d with
  | some a,some b=>some (a,b)
  | _,_=>none)
 | _=>none⟩
theorem aHH:mW S 0 (a0 (D:=D)):=by
 refine⟨fun b a h=> ?_,fun _=>rfl⟩;simp only[a0]at h;split at h
 ·trivial
 ·cases h
theorem N_ {c:Arg D α}(b:su S c):mW S 1 (a1 c):=by
 refine⟨fun d a h=> ?_,fun _=>rfl⟩;simp only[a1]at h;split at h
 ·exact⟨b.ok _ _ h,trivial⟩
 ·cases h
theorem jC {c:Arg D α}{r:xB D β}{k:Nat}(f:su S c)(d:mW S k r):mW S (k+1) (ak c r):=by
 refine⟨fun i a h=> ?_,fun a=>by simp[ak,d.len]⟩;simp only[ak]at h;split at h
 ·split at h
  ·rename_i a b g e;injection h with h
   subst h;exact⟨f.ok _ _ g,d.ok _ _ e⟩
  ·cases h
 ·cases h
structure Blk (D α:Type) where
 enc:α->Bk D
 dec:Bk D->Option α
class uN (S:Sh D) (c:Blk D α):Prop where
 ok:∀x a,c.dec x=some a->ab4 S x (c.enc a)
def aS (c:ji D α):Blk D α:=⟨fun a=> .cells (c.enc a),fun x=>match x with
 | .cells b=>c.dec b
 | _=>none⟩
def kX (e:TypeId)(b:α->D)(c:D->Option α):Blk D α:=⟨fun a=> .row e (b a),fun x=>match x with
 | .row f d=>if Nat.beq e f then c d else none
 | _=>none⟩
theorem al_ {c:ji D α}(b:dm S c):uN S (aS c):=⟨fun x a h=>by
 simp only[aS]at h⊢;split at h
 ·exact(b.ok _ _ h).les
 ·cases h⟩
theorem JS {e:TypeId}{b:α->D}{c:D->Option α}(g:∀d a,c d=some a->d=b a):uN S (kX e b c):=⟨fun x a h=>by
 simp only[kX]at h⊢;split at h
 ·split at h
  ·rename_i f;exact⟨(Qa f).symm,g _ _ h⟩
  ·cases h
 ·cases h⟩
def b1 (c:Blk D α):Hy D α:=⟨fun a=>[c.enc a],fun b=>match b with
 | [x]=>c.dec x
 | _=>none⟩
def gQ (c:Blk D α)(r:Hy D β):Hy D (α×β):=⟨fun p=>c.enc p.1::r.enc p.2,fun d=>match d with
 | x::d=>(match c.dec x,r.dec d with
  | some a,some b=>some (a,b)
  | _,_=>none)
 | _=>none⟩
theorem aID {c:Blk D α}(b:uN S c):sF S 1 (b1 c):=by
 refine⟨fun d a h=> ?_,fun _=>rfl⟩;simp only[b1]at h;split at h
 ·exact⟨b.ok _ _ h,trivial⟩
 ·cases h
theorem asX {c:Blk D α}{r:Hy D β}{k:Nat}(f:uN S c)(d:sF S k r):sF S (k+1) (gQ c r):=by
 refine⟨fun i a h=> ?_,fun a=>by simp[gQ,d.len]⟩;simp only[gQ]at h;split at h
 ·split at h
  ·rename_i a b g e;injection h with h
   subst h;exact⟨f.ok _ _ g,d.ok _ _ e⟩
  ·cases h
 ·cases h
def xK:List (Option TypeId)->List (Lf D)->Nat->List (Bk D)->Option (List (Lf D))
 | [],[],_,[]=>some []
 | none::f,x::b,n,a=>(match xK f b n a with
  | some c=>some (x::c)
  | none=>none)
 | some e::f, .own k::b,n, .row g d::a=>if Nat.beq k n && Nat.beq e g then(match xK f b (n+1) a with
  | some c=>some (.dat d::c)
  | none=>none)else none
 | _,_,_,_=>none
def WW (n:Nat)(b:List (Option TypeId))(c:ji D α):Hy D α:=⟨fun a=> .cells (lJ b (c.enc a) n).1::(lJ b (c.enc a) n).2.1.map (·.2),fun g=>match g with
 | .cells e::d=>(match xK b e n d with
  | some f=>c.dec f
  | none=>none)
 | _=>none⟩
theorem RQ:∀(f:List (Option TypeId)) (i g b:List (Lf D)) (n:Nat) (a:List (Bk D)),xK f i n a=some g->WC S g b->KP S i (lJ f b n).1/\Gl S a ((lJ f b n).2.1.map (·.2))
 | [],[],g,b,n,a,h,c=>by
  cases a with
  | cons _ _=>simp[xK]at h
  | nil=>
   simp only[xK,Nj]at h;subst h;cases b with
   | cons _ _=>exact c.elim
   | nil=>exact⟨trivial,trivial⟩
 | [],x::i,g,b,n,a,h,c=>by simp[xK]at h
 | none::f,[],g,b,n,a,h,c=>by simp[xK]at h
 | none::f,x::i,g,b,n,a,h,c=>by
  simp only[xK]at h;split at h
  ·rename_i j l;injection h with h
   subst h;cases b with
   | nil=>exact c.elim
   | cons z b=>
    obtain⟨o,m⟩:=RQ f i j b n a l c.2.2;exact⟨⟨c.1,o⟩,m⟩
  ·cases h
 | some e::f,[],g,b,n,a,h,c=>by simp[xK]at h
 | some e::f,x::i,g,b,n,a,h,c=>by
  cases a with
  | nil=>cases x<;>simp[xK]at h
  | cons r a=>
   cases x with
   | own k=>
    cases r with
    | row t d=>
     simp only[xK]at h;split at h
     ·rename_i p;simp only[iT]at p;have s:=Qa p.1;have q:=Qa p.2;subst s q;split at h
      ·rename_i j l;injection h with h
       subst h;cases b with
       | nil=>exact c.elim
       | cons z b=>
        have:=AL c.1;subst this;obtain⟨o,m⟩:=RQ f i j b (k+1) a l c.2.2;exact⟨⟨.inl rfl,o⟩,⟨rfl,rfl⟩,m⟩
      ·cases h
     ·cases h
    | _=>simp[xK]at h
   | _=>simp[xK]at h
theorem AP {n k:Nat}{b:List (Option TypeId)}{c:ji D α}(f:dm S c)(e:∀a,(lJ b (c.enc a) n).2.1.length=k):sF S (k+1) (WW n b c):=by
 refine⟨fun i a h=> ?_,fun a=>by simp[WW,e]⟩;simp only[WW]at h;split at h
 ·split at h
  ·rename_i g d;exact RQ b _ g _ n _ d (f.ok _ _ h)
  ·cases h
 ·cases h
def args (c:xB D α):qQ D:=⟨α,fun a=>(c.enc a,[]),fun d b=>match b with
 | []=>c.dec d
 | _=>none⟩
def jF (c:xB D α)(b:Hy D β):qQ D:=⟨α×β,fun p=>(c.enc p.1,b.enc p.2),fun d e=>match c.dec d,b.dec e with
 | some a,some b=>some (a,b)
 | _,_=>none⟩
theorem axu {c:xB D α}{k n:Nat}(b:mW S k c)(d:Nat.ble k n=true):O5 S (args c) 0 n:=by
 refine⟨fun e f a h=> ?_,fun _=>rfl,fun(a:α)=>(b.len a).symm▸U5 d⟩;simp only[args]at h;split at h
 ·exact⟨b.ok _ _ h,trivial⟩
 ·cases h
theorem uI {c:xB D α}{b:Hy D β}{k m n:Nat}(e:mW S k c)(d:sF S m b)(f:Nat.ble k n=true):O5 S (jF c b) m n:=by
 refine⟨fun j l a h=> ?_,fun a=>d.len _,fun(a:α×β)=>(e.len a.1).symm▸U5 f⟩;simp only[jF]at h;split at h
 ·rename_i a b i g;injection h with h
  subst h;exact⟨e.ok _ _ i,d.ok _ _ g⟩
 ·cases h
structure El (D:Type):Type 1 where
 α:Type
 O9:ji D α
 dflt:α
 inj:List α->D
 Nv:D->Option (List α)
def EU (c:ji D α):Nat->List (Lf D)->Option (List α)
 | 0,[]=>some []
 | 0,_::_=>none
 | n+1,cs=>(match c.dec (cs.take c.n),EU c n (cs.drop c.n)with
  | some a,some l=>some (a::l)
  | _,_=>none)
abbrev Vw (D:Type):=(E:El D)×List E.α
def Vw.size (p:Vw D):Nat:=p.1.O9.n
def Vw.len (p:Vw D):Nat:=p.2.length
def Vw.cell (p:Vw D)(i j:Nat):Lf D:=(p.1.O9.enc (p.2.getD i p.1.dflt)).getD j .any
def Vw.set (p:Vw D)(i j:Nat)(b:List (Lf D)):Option D:=match p.1.O9.dec (putAt (p.1.O9.enc (p.2.getD i p.1.dflt)) j b)with
 | some a=>some (p.1.inj (p.2.set i a))
 | none=>none
def Vw.cat (p:Vw D)(d:D):Option D:=match p.1.Nv d with
 | some l=>some (p.1.inj (p.2++l))
 | none=>none
def Vw.sub (p:Vw D)(i j:Nat):Option D:=some (p.1.inj ((p.2.take j).drop i))
def tK (view:D->Vw D)(oh:TypeId->Option (El D))(KR:Nat->Option D:=fun _=>none)(txt:TypeId->List UInt8->Option D:=fun _ _=>none)(Au:D->Option (Mp D):=fun _=>none)(F6:TypeId->Option D:=fun _=>none):Sh D where
 mp:=Au
 aoi:=F6
 KR:=KR
 text:=txt
 size d:=(view d).size
 len d:=(view d).len
 cell d i j:=(view d).cell i j
 make e n cs:=match oh e with
  | none=>none
  | some E=>(match EU E.O9 n cs with
   | some l=>some (E.inj l)
   | none=>none)
 zero e n zs:=match oh e with
  | none=>none
  | some E=>(match E.O9.dec zs with
   | some z=>some (E.inj (List.replicate n z))
   | none=>none)
 set d i j xs:=(view d).set i j xs
 cat d1 d2:=(view d1).cat d2
 sub d i j:=match Au d with
  | none=>(view d).sub i j
  | some _=>none
def Ub (s:List UInt8):List Int:=s.map fun b=>(b.toNat:Int)
theorem aub (s:List UInt8)(i:Nat):(Ub s).getD i 0=((s.getD i 0).toNat:Int):=by
 unfold Ub;by_cases h:i < s.length
 ·simp[List.getD,Qbf,h]
 ·simp[List.getD,Qbf,Qbw (by omega:s.length<=i)]
abbrev awv (n:Nat)(x:Int):List Int:=List.replicate n x
def txU (l:List Int):List UInt8:=(List.range l.length).map fun i=>UInt8.ofNat (l.getD i 0).toNat
theorem aEV (l:List Int):txU l=l.map fun n=>UInt8.ofNat n.toNat:=by
 unfold txU;refine List.ext_getElem? fun i=> ?_;by_cases h:i < l.length
 ·simp[Qbf,Qd4 h,List.getD,h]
 ·rw[Qbw qbt,Qbw qbt]
@[simp] theorem aJF:txU []=[]:=rfl
def D_ (l:List Int)(i:Nat):Bool:=decide (0<=l.getD i 0) && decide (l.getD i 0 < 256)
theorem Vl {a b:List Int}(d:∀i,D_ a i=true)(c:∀i,D_ b i=true)(i:Nat):D_ (a++b) i=true:=by
 unfold D_ at*;by_cases h:i < a.length
 ·have:=d i;rw[show(a++b).getD i 0=a.getD i 0 by simp[List.getD,Qa6 h]];exact this
 ·have:=c (i - a.length);rw[show(a++b).getD i 0=b.getD (i - a.length) 0 by simp[List.getD,Qay (by omega:a.length<=i)]];exact this
theorem GL (s:List UInt8)(i:Nat):D_ (Ub s) i=true:=by
 unfold D_;rw[aub];have:=(s.getD i 0).toNat_lt;rw[iT,WL,WL];omega
theorem ET (l:List Int):(txU l).length=l.length:=by simp[aEV]
theorem yI (s:List UInt8):(Ub s).length=s.length:=by simp[Ub]
theorem vX {f:Nat->Bool}(h:∀i,f i=true):∀n,Hl f n=true
 | 0=>rfl
 | n+1=>by simp[Hl,h n,vX h n]
structure avr (S:Sh D)(view:D->Vw D)(oh:TypeId->Option (El D)):Prop where
 el:∀e E,oh e=some E->∀l,view (E.inj l)=⟨E,l⟩
 vw:∀d l,view ((view d).1.inj l)=⟨(view d).1,l⟩
 Nv:∀d d2 l2,(view d).1.Nv d2=some l2->view d2=⟨(view d).1,l2⟩
 O9:∀d,dm S (view d).1.O9
theorem Jj {c:ji D α}(f:dm S c):∀(n:Nat) (cs:List (Lf D)) (l:List α),EU c n cs=some l->l.length=n/\cs.length=n*c.n/\∀(i j:Nat) (b:α),i < n->j < c.n->∃x,cs[i*c.n+j]? =some x/\x.Le S ((c.enc (l.getD i b)).getD j .any)
 | 0,[],l,h=>by
  injection h with h
  subst h;exact⟨rfl,by simp,fun i j _ q=>by omega⟩
 | 0,_::_,l,h=>by simp[EU]at h
 | n+1,cs,l,h=>by
  unfold EU at h;split at h
  ·rename_i a r u s;injection h with h
   subst h;obtain⟨t,v,w⟩:=Jj f n _ r s;have g:=f.ok _ _ u;have k:=g.length;rw[f.len]at k;have o:c.n<=cs.length:=by simp at k;omega
   refine⟨by simp[t],?_,fun i j b q m=> ?_⟩
   ·simp at v;rw[Qcf];omega
   ·cases i with
    | zero=>
     have p:(c.enc a)[j]? =some ((c.enc a).getD j .any):=by
      have:j < (c.enc a).length:=by rw[f.len];exact m
      simp[List.getD,this]
     obtain⟨x,e,d⟩:=g.get j _ p;refine⟨x,?_,by simpa using d⟩;rw[Zp,mV m]at e;simpa using e
    | succ i=>
     obtain⟨x,e,d⟩:=w i j b au m;refine⟨x,?_,by simpa using d⟩;rw[Qbj]at e;rw[Qcf,<-e];congr 1;omega
  ·cases h
theorem getD_some {l:List α}{i:Nat}{d:α}(h:i < l.length):l.getD i d=l[i]:=by simp[List.getD,h]
structure avn (S:Sh D)(view:D->Vw D)(oh:TypeId->Option (El D))(gl:Nat->Option D)(txt:TypeId->List UInt8->Option D)(Au:D->Option (Mp D))(F6:TypeId->Option D):Prop where
 inj:∀d l,Au ((view d).1.inj l)=none
 el:∀e E,oh e=some E->∀l,Au (E.inj l)=none
 txt:∀e s d,txt e s=some d->Au d=none
 KR:∀i d,gl i=some d->Au d=none
 size:∀d m,Au d=some m->(view d).len=0/\(view d).size=0/\azC S m
 new:∀t d,F6 t=some d->∃m,Au d=some m/\m.kvs=[]
theorem arh {view:D->Vw D}{oh:TypeId->Option (El D)}{g:Nat->Option D}{f:TypeId->List UInt8->Option D}{Au:D->Option (Mp D)}{F6:TypeId->Option D}(h:avr (tK view oh g f Au F6) view oh)
  (ht:∀e s d,f e s=some d->(tK view oh g f Au F6).size d=1/\(tK view oh g f Au F6).len d=s.length/\∀i,i < s.length->(tK view oh g f Au F6).cell d i 0= .int .u8 (s.getD i 0).toNat) (J:avn (tK view oh g f Au F6) view oh g f Au F6):iL (tK view oh g f Au F6):=by
 have htx:∀e s d,(tK view oh g f Au F6).text e s=some d->(tK view oh g f Au F6).size d=1/\(tK view oh g f Au F6).len d=s.length/\∀i,i < s.length->(tK view oh g f Au F6).cell d i 0= .int .u8 (s.getD i 0).toNat:=ht;clear ht;have F:∀d,(tK view oh g f Au F6).size d=(view d).size:=fun _=>rfl
 have w:∀d,(tK view oh g f Au F6).len d=(view d).len:=fun _=>rfl
 have I:∀d i j,(tK view oh g f Au F6).cell d i j=(view d).cell i j:=fun _ _ _=>rfl
 have v:∀d i j A,(tK view oh g f Au F6).set d i j A=(view d).set i j A:=fun _ _ _ _=>rfl
 have FU:∀d G,(tK view oh g f Au F6).cat d G=(view d).cat G:=fun _ _=>rfl
 have U:∀d i j G,(tK view oh g f Au F6).sub d i j=some G->(view d).sub i j=some G/\Au d=none:=by
  intro d i j G H;simp only[tK]at H;split at H
  ·exact⟨H,‹_›⟩
  ·cases H
 have p:∀d,(tK view oh g f Au F6).mp d=Au d:=fun _=>rfl
 have hnw:∀t,(tK view oh g f Au F6).aoi t=F6 t:=fun _=>rfl
 have hgl:∀t,(tK view oh g f Au F6).KR t=g t:=fun _=>rfl
 have htt:∀e s,(tK view oh g f Au F6).text e s=f e s:=fun _ _=>rfl
 have ad:∀e n cs d,(tK view oh g f Au F6).make e n cs=some d->∃E l,oh e=some E/\EU E.O9 n cs=some l/\E.inj l=d:=by
  intro e n cs d b;simp only[tK]at b;split at b
  ·cases b
  rename_i E B;split at b
  ·rename_i l W;injection b with b
   exact⟨E,l,B,W,b⟩
  ·cases b
 have ag:∀e n K d,(tK view oh g f Au F6).zero e n K=some d->∃E z,oh e=some E/\E.O9.dec K=some z/\E.inj (List.replicate n z)=d:=by
  intro e n K d b;simp only[tK]at b;split at b
  ·cases b
  rename_i E B;split at b
  ·rename_i z X;injection b with b
   exact⟨E,z,B,X,b⟩
  ·cases b
 generalize tK view oh g f Au F6=S at*;refine⟨fun e n cs d b=> ?_,fun d i j hi y=> ?_,fun e n K d b=> ?_,fun d i j A G b hi=> ?_,fun d1 d2 d b=> ?_,fun d i j G b hij y=> ?_,htx,
  fun e n cs d b=> ?_,fun e n K d b=> ?_,fun d i j A G b _=> ?_,fun d1 d2 d b=> ?_,fun d i j G b=> ?_,fun e s d b=> ?_,fun d m b=> ?_,fun t d H=> ?_,fun i d H=> ?_⟩
 ·obtain⟨E,l,B,W,rfl⟩:=ad e n cs d b;have C:=h.el e E B l;have u:=h.O9 (E.inj l);rw[C]at u;obtain⟨q1,q2,q3⟩:=Jj u n cs l W;simp only[F,w,I,C];exact⟨q1,q2,fun i j hi y=>q3 i j _ hi y⟩
 ·rw[I];unfold Vw.cell;rw[F]at y;have O:=h.O9 d;have N:j < ((view d).1.O9.enc ((view d).2.getD i (view d).1.dflt)).length:=by rw[O.len];exact y
  rw[getD_some N];exact O.data _ _ (List.getElem_mem N)
 ·obtain⟨E,z,B,X,rfl⟩:=ag e n K d b;have C:=h.el e E B (List.replicate n z);have u:=h.O9 (E.inj (List.replicate n z));rw[C]at u;have u:dm S E.O9:=u;have L:=u.ok _ _ X;simp only[F,w,I,C];refine⟨by simp[Vw.len],by rw[L.length,u.len];rfl,fun i j hi y=> ?_⟩;have y:j < E.O9.n:=y;have hrep:(List.replicate n z).getD i E.dflt=z:=by
   rw[getD_some qct];simp
  show ∃x,K[j]? =some x/\x.Le S ((E.O9.enc ((List.replicate n z).getD i E.dflt)).getD j .any)
  rw[hrep];exact L.get j _ (by
   have:j < (E.O9.enc z).length:=by rw[u.len];exact y
   rw[getD_some this];simp[this])
 ·rw[v]at b;unfold Vw.set at b;split at b
  ·rename_i a ha;injection b with b
   subst b;have O:=h.O9 d;have C:=h.vw d ((view d).2.set i a);have L:=O.ok _ _ ha;rw[w]at hi;have hi:i < (view d).2.length:=hi;simp only[F,w,I,C];refine⟨rfl,by simp[Vw.len],fun P r M V=> ?_⟩;simp only[Vw.cell];have V:r < (view d).1.O9.n:=V;have M:P < (view d).2.length:=M;have ac:r < ((view d).1.O9.enc a).length:=by rw[O.len];exact V
   have hl0:((view d).1.O9.enc ((view d).2.getD i (view d).1.dflt)).length=(view d).1.O9.n:=O.len _;have Q:=L.length;rw[O.len]at Q;by_cases Z:P=i
   ·subst Z;have v:((view d).2.set P a).getD P (view d).1.dflt=a:=by rw[getD_some (by simpa using M)];simp
    rw[v];obtain⟨x,o,ab⟩:=L.get r _ (show((view d).1.O9.enc a)[r]? =some (((view d).1.O9.enc a).getD r .any) by rw[getD_some ac];simp[ac]);unfold putAt at o Q;generalize hcs:(view d).1.O9.enc ((view d).2.getD P (view d).1.dflt)=cs at o Q hl0;have al:∀x,(cs.take j++(A++cs.drop (j+A.length)))[r]? =some x->(j<=r/\r < j+A.length->A[r - j]? =some x)/\(¬(j<=r/\r < j+A.length)->cs[r]? =some x):=by
     intro x o;simp only[qO,zC,Qbe]at Q;by_cases aa:j<=cs.length
     ·rw[Qcg aa]at Q;rw[Qdz]at o;simp only[zC,Qcg aa]at o;split at o
      ·rename_i N;rw[Zp,mV N]at o;exact⟨fun q=>by omega,fun _=>o⟩
      ·rename_i hge;rw[Qdz]at o;split at o
       ·rename_i N;exact⟨fun _=>o,fun q=>by omega⟩
       ·rename_i aKG;rw[Qbj]at o;refine⟨fun q=>by omega,fun _=> ?_⟩;rw[show j+A.length+(r - j - A.length)=r by omega]at o;exact o
     ·rw[Nat.min_eq_right au]at Q;have hxs:A.length=0:=by omega
      rw[Qdz]at o;simp only[zC,Nat.min_eq_right (show cs.length<=j by omega)]at o;rw[mV au,Zp,mV au]at o;exact⟨fun q=>by omega,fun _=>o⟩
    obtain⟨k1,k2⟩:=al x o;refine⟨fun q=>⟨x,k1 ⟨q.2.1,q.2.2⟩,ab⟩,fun q=> ?_⟩;have Y:=k2 fun q'=>q ⟨rfl,q'⟩
    have hxd:x.jE=true:=O.data _ x (by rw[hcs];exact Qbl Y);rw[axc ab hxd];have:r < cs.length:=by omega
    rw[getD_some this];simpa[this]using Y.symm
   ·have v:((view d).2.set i a).getD P (view d).1.dflt=(view d).2.getD P (view d).1.dflt:=by
     rw[getD_some (by simpa using M),getD_some M,List.getElem_set_ne au]
    rw[v];exact⟨fun q=>absurd q.1 Z,fun _=>rfl⟩
  ·cases b
 ·rw[FU]at b;unfold Vw.cat at b;split at b
  ·rename_i R hl2;injection b with b
   subst b;have C:=h.vw d1 ((view d1).2++R);have hv2:=h.Nv d1 d2 R hl2;simp only[F,w,I,C,hv2];refine⟨rfl,rfl,by simp[Vw.len],fun i j hi=> ?_,fun i j hi=> ?_⟩<;>simp only[Vw.cell,Vw.len]
   ·have hi:i < (view d1).2.length:=hi;have e:((view d1).2++R).getD i (view d1).1.dflt=(view d1).2.getD i (view d1).1.dflt:=by rw[getD_some qbt,getD_some hi,List.getElem_append_left hi]
    rw[e]
   ·have hi:i < R.length:=hi;have e:((view d1).2++R).getD ((view d1).2.length+i) (view d1).1.dflt=R.getD i (view d1).1.dflt:=by
     rw[getD_some qbt,getD_some hi,List.getElem_append_right au];simp
    rw[e]
  ·cases b
 ·have b:=(U _ _ _ _ b).1;unfold Vw.sub at b;injection b with b
  subst b;rw[w]at y;have y:j<=(view d).2.length:=y;have C:=h.vw d (((view d).2.take j).drop i);simp only[F,w,I,C];refine⟨rfl,by simp[Vw.len];omega,fun k c hk=> ?_⟩;simp only[Vw.cell];have e:(((view d).2.take j).drop i).getD k (view d).1.dflt=(view d).2.getD (i+k) (view d).1.dflt:=by
   rw[getD_some qbt,getD_some au];simp
  rw[e]
 ·obtain⟨E,l,B,W,rfl⟩:=ad e n cs d b;rw[p];exact J.el e E B l
 ·obtain⟨E,z,B,X,rfl⟩:=ag e n K d b;rw[p];exact J.el e E B _
 ·rw[v]at b;unfold Vw.set at b;split at b
  ·injection b with b
   subst b;rw[p];exact J.inj _ _
  ·cases b
 ·rw[FU]at b;unfold Vw.cat at b;split at b
  ·injection b with b
   subst b;rw[p];exact J.inj _ _
  ·cases b
 ·obtain⟨T,h2⟩:=U _ _ _ _ b;unfold Vw.sub at T;injection T with T
  subst T;rw[p,p];exact⟨h2,J.inj _ _⟩
 ·rw[htt]at b;rw[p];exact J.txt _ _ _ b
 ·rw[p]at b;rw[w,F];exact J.size d m b
 ·rw[hnw]at H;obtain⟨m,T,h2⟩:=J.new _ _ H;exact⟨m,by rw[p];exact T,h2⟩
 ·rw[hgl]at H;rw[p];exact J.KR _ _ H
end
attribute [instance] nO I7 aaj axC IU aIv xP aw3 awY ay9 aC_ azn aHH
section
variable {D α β:Type}{S:Sh D}
instance aKC {c:ji D α} {d:ji D β} [a:dm S c] [b:dm S d]:dm S (dh c d):=api a b
instance aKO {n:Nat} {d:α} {c:ji D α} [a:dm S c]:dm S (G_ n d c):=awp a
instance iL1 {c:ji D α} [a:dm S c]:xk S (l1 c):=aAi a
instance iLc {c:ji D α} {r:Ns D β} [a:dm S c] [b:xk S r]:xk S (ay c r):=ar6 a b
instance iLf {c:ji D α} [a:dm S c]:su S (bz c):=oJ a
instance iAg {c:ji D α} [a:dm S c]:su S (aI c):=abX a
instance iA1 {c:Arg D α} [a:su S c]:mW S 1 (a1 c):=N_ a
instance iAc {c:Arg D α} {r:xB D β} {k:Nat} [a:su S c] [b:mW S k r]:mW S (k+1) (ak c r):=jC a b
instance iBc {c:ji D α} [a:dm S c]:uN S (aS c):=al_ a
instance iB1 {c:Blk D α} [a:uN S c]:sF S 1 (b1 c):=aID a
instance iBs {c:Blk D α} {r:Hy D β} {k:Nat} [a:uN S c] [b:sF S k r]:sF S (k+1) (gQ c r):=asX a b
instance iSp {a:(Nat->Sl D)->List It} {c:Ns D α} [b:xk S c]:pY S (bJ a c):=aCT b
instance iSr {a:List It} {c:Ns D α} [b:xk S c]:pY S (shr a c):=atW b
theorem jr {c:xB D α}{k n:Nat}[a:mW S k c](b:Nat.ble k n=true):O5 S (args c) 0 n:=axu a b
theorem nT {c:xB D α}{b:Hy D β}{k m n:Nat}[e:mW S k c][a:sF S m b](d:Nat.ble k n=true):O5 S (jF c b) m n:=uI e a d
end
end Go.Vc
namespace Go.Vc
section
variable {A R:Type}
end
theorem jH {D:Type}{P:Program}{S:Sh D}{f:FuncId}{c:qQ D}{j:CQ D}{k:Nat}{d:List Nat}{e:Nat->c.A->Option Prop}{s:Nat->c.A->j.X}(h:∀n,dJ P S f (mi c j k d (e n) (s n)))
  (i:c.A->Option Prop) (l:c.A->j.X) (u:∀a,o_ (i a)->∃n,o_ (e n a)/\s n a=l a):dJ P S f (mi c j k d i l):=by
 refine⟨(h 0).enters,fun X N g w args y B p r m t A o b q=> ?_⟩;unfold mi at b;split at b
 ·cases b
 ·rename_i a v;injection b with b
  injection b with x b
  subst x;obtain⟨n,z,C⟩:=u a (Dw.1 q);refine(h n).calls X N g w args y B ((e n a).map dq) r m t A o ?_ (Dw.2 z);unfold mi;rw[v];dsimp only;rw[C,<-b]
end Go.Vc
namespace Go.Vc
open Go.RowKit Go.ChangeShapes Go.WideShapes Go.ChangeAt Go.Joins
section
variable {H:Type}{enc:TypeId×Value->H}{P:Program}{W W':World}
theorem Gg (j:laidOutB P=true)(i:Below W.heap.size W W'):∀{e:List TypeId} {a:List Value} {g:List (DataW H)} {c:List MemPlace},(e.all fun t=>P.readableRec t && decide (t < P.types.size))=true->
  DataW.TrodAll enc P W 0 (fun _=>true) true e a g c->DataW.TrodAll enc P W' 0 (fun b=>decide (b < W.heap.size)) true e a g c
 | [],a,g,c,_,h=>by
  obtain⟨rfl,rfl,rfl⟩:=trodAll_nil h;exact trodAll_mk0
 | t::e,a,g,c,f,h=>by
  simp only[Qci,iT,WL]at f;obtain⟨v,r,d,s,p,q,rfl,rfl,rfl,k,l⟩:=trodAll_cons h;have n:∀x∈p,x.block < W.heap.size:=by obtain⟨m,o⟩:=k;exact DataW.trod_lt m _ _ _ o
  exact trodAll_cons_mk (Below.trod j f.1.1 f.1.2 k i n) (Gg j i f.2 l)
theorem aIP {k:IntKind}{n:Int}(h:(Lit.int k n).wf=true):Jv k n:=by
 cases k<;>simp[Lit.wf,IntKind.min,IntKind.max,IntKind.signed,IntKind.bits]at h<;>simp only[Jv]<;>omega
end
def NoN:Nat->Prop:=fun _=>False
section
variable {D α β:Type}{S:Sh D}{P:Program}
theorem aeM {w:World}{d:D}{a:Option Addr}{n cap:Nat}(u:n=S.len d)(m:n<=cap)(f:n<=9223372036854775807)(U:Nat->Nat->Value)
  (c:∀i j,i < S.len d->j < S.size d->∃b,a=some b/\w.cell? (b.add (i*S.size d+j))=some (U i j))
  (o:∀i j,i < S.len d->j < S.size d->Lf.plain (S.cell d i j) (U i j))
  (l:∀i j e,i < S.len d->j < S.size d->S.cell d i j= .dat e->dD S NoN w e (U i j)) (q:S.mp d=none):dD S NoN w d (.slice a n cap):=by
 intro w' p;subst u;refine BZ.mk d q a cap U m f (fun i j k g=> ?_) o (fun i j e k g s=>l i j e k g s w' p);obtain⟨b,t,r⟩:=c i j k g;refine⟨b,t,?_⟩;have v:(b.add (i*S.size d+j)).block < w.heap.size:=by
  rcases Qd6 (b.add (i*S.size d+j)).block w.heap.size with h | h
  ·exact h
  ·simp[World.cell?,Array.getElem?_eq_none h]at r
 rw[<-r];exact World.cell?_of_block (p _ v (fun h=>h))
def akC (P:Program)(S:Sh D)(t:TypeId)(c:ji D α)(f:α->Prop):Prop:=
 ∀{H:Type} {enc:TypeId×Value->H} {w:World} {e:Nat} {b:Nat->Bool} {g:Bool} {d:Nat} {cs:List Value} {x:DataW H×List MemPlace},
  DataW.trod enc P w e b g d t cs=some x->∃a,aZ S NoN w noG (c.enc a) cs/\f a
theorem jl {t:TypeId}{k:IntKind}(e:P.underlying t=some (.int k)):akC P S t (gq k) (Jv k):=by
 intro H enc w c a f b cs x h;obtain⟨n,rfl,_,d⟩:=DataW.trod_int e h;exact⟨n,⟨rfl,trivial⟩,aIP d⟩
theorem Uw {t:TypeId}(e:P.underlying t=some .bool):akC P S t aG fun _=>True:=by
 intro H enc w d a f c cs x h;obtain⟨b,rfl,_⟩:=DataW.trod_bool e h;exact⟨b,⟨rfl,trivial⟩,trivial⟩
theorem amq {t:TypeId}(g:P.underlying t=some .string):akC P S t cStr fun s=>s.length<=9223372036854775807:=by
 intro H enc w e c i d cs x h;obtain⟨s,rfl,_,a⟩:=DataW.trod_string g h;have b:s.data.toList.length<=9223372036854775807:=by
  unfold maxLen at a;have f:s.data.toList.length=s.size:=WJ;rw[f];exact a
 refine⟨s.data.toList,⟨⟨?_,b⟩,trivial⟩,b⟩;cases s;simp
theorem aZ.app {M:Nat->Prop}{w:World}{g:Nat->Option Value}:∀{c d:List (Lf D)} {a b:List Value},aZ S M w g c a->aZ S M w g d b->aZ S M w g (c++d) (a++b)
 | [],_,[],_,_,k=>k
 | _::_,_,_::_,_,h,k=>⟨h.1,aZ.app h.2 k⟩
theorem acM {Q:Nat->α->Prop}:∀n,(∀i,i < n->∃a,Q i a)->∃l:List α,l.length=n/\∀(i:Nat) (h:i < l.length),Q i l[i]
 | 0,_=>⟨[],rfl,fun i h=>by simp at h⟩
 | n+1,h=>by
  obtain⟨l,d,f⟩:=acM n fun i c=>h i au
  obtain⟨a,e⟩:=h n au;refine⟨l++[a],by simp[d],fun i c=> ?_⟩;by_cases b:i < l.length
  ·rw[List.getElem_append_left b];exact f i b
  ·have:i=l.length:=by simp at c;omega
   subst this;simp only[List.getElem_append_right (oC _),Qd7,List.getElem_cons_zero];rw[d];exact e
theorem aZ.getD' {M:Nat->Prop}{w:World}{g:Nat->Option Value}{a:List (Lf D)}{b:List Value}{j:Nat}(h:aZ S M w g a b)(c:j < a.length):∃v,b[j]? =some v/\(a.getD j .any).Rel S M w g v:=by
 have:a[j]? =some (a.getD j .any):=by simp[List.getD,c]
 exact aZ.get j h this
def aGX:TypeDesc->Bool
 | .int _ | .bool | .string | .slice _=>true
 | _=>false
def aqQ:CQ D:=shr [.slot 0 false [none]] (l1 aG)
end
end Go.Vc
