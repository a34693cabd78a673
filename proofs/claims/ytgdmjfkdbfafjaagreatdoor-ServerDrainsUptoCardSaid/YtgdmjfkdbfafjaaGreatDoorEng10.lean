/- Own engine: Vdo, Vdq, Vdp. -/
import Derived.Test.YtgdmjfkdbfafjaaGreatDoorEng9
import Derived.ProofKit
import Derived.OpenShut
import Derived.Lib.SmallJoins
set_option linter.unusedVariables false
set_option linter.unusedSimpArgs false
namespace Go.Vc
open Go.RowKit
universe u
def lk {a:Type u}:List (Nat×a)->Nat->Option a
 | [],_=>none
 | (k,v)::r,n=>if Nat.beq n k then some v else lk r n
theorem JO {a:Type u}:∀{l:List (Nat×a)} {k:Nat} {v:a},lk l k=some v->(k,v)∈l
 | [],_,_,h=>by simp[lk]at h
 | (b,c)::r,k,v,h=>by
  simp only[lk]at h;split at h
  ·simp_all
  ·exact Qb9 _ (JO h)
abbrev Str:=List UInt8
structure jQ (D α:Type) where
 n:Nat
 enc:α->List (Lf D)
 dec:List (Lf D)->Option α
class dG {D α:Type} (S:Sh D) (c:jQ D α):Prop where
 ok:∀xs a,c.dec xs=some a->Zd S xs (c.enc a)
 len:∀a,(c.enc a).length=c.n
 data:∀a x,x∈c.enc a->x.kF=true
section
variable {D α β:Type}{S:Sh D}
theorem Zd.app:∀{a b c d:List (Lf D)},Zd S a b->Zd S c d->Zd S (a++c) (b++d)
 | [],[],_,_,_,k=>k
 | x::f,y::e,_,_,h,k=>⟨h.1,h.2.1,Zd.app h.2.2 k⟩
theorem Zd.length:∀{a b:List (Lf D)},Zd S a b->a.length=b.length
 | [],[],_=>rfl
 | _::_,_::_,h=>by simp[Zd.length h.2.2]
theorem Zd.get:∀{a b:List (Lf D)},Zd S a b->∀(i:Nat) (y:Lf D),b[i]? =some y->∃x,a[i]? =some x/\x.Le S y
 | [],[],_,i,y,h=>by simp at h
 | x::e,y::d,h,0,z,c=>by simp at c;subst c;exact⟨x,rfl,h.1⟩
 | x::e,y::d,h,i+1,z,c=>by simpa using Zd.get h.2.2 i z (by simpa using c)
theorem Lf.Le.refl (x:Lf D):x.Le S x:= .inl rfl
theorem aAJ {x y:Lf D}(h:x.Le S y)(a:x.kF=true):y=x:=by
 rcases h with h | ⟨h,_⟩ | ⟨b,h,_⟩ | ⟨_,_,_,_,h,_⟩ | ⟨_,h,_⟩
 ·exact h.symm
 ·subst h;simp[Lf.kF]at a
 ·subst h;simp[Lf.kF]at a
 ·subst h;simp[Lf.kF]at a
 ·subst h;simp[Lf.kF]at a
def h_ (k:IntKind):jQ D Int:=⟨1,fun n=>[.int k n],fun a=>match a with
 | [.int b n]=>if ZA k b then some n else none
 | _=>none⟩
def aG:jQ D Bool:=⟨1,fun b=>[.bool b],fun a=>match a with
 | [.bool b]=>some b
 | [.val (.bool b)]=>some b
 | _=>none⟩
def cStr:jQ D (List UInt8):=⟨1,fun s=>[.str s],fun a=>match a with
 | [.str s]=>some s
 | _=>none⟩
def rU (b:α->D)(c:D->Option α)(f:α):jQ D α:=⟨1,fun a=>[.dat (b a)],fun g=>match g with
 | [.dat d]=>c d
 | [.val v]=>if DT v then some f else none
 | [.xt e]=>(match e with
  | .clip d=>c d
  | _=>none)
 | _=>none⟩
def azP:jQ D (Option nY):=⟨1,fun v=>[.Ze v],fun d=>match d with
 | [.Ze v]=>some v
 | [.xt (.ifd t c b)]=>(match RF b with
  | some a=>some (some ⟨t,c,a⟩)
  | none=>none)
 | _=>none⟩
def am3:jQ D Unit:=⟨0,fun _=>[],fun a=>match a with
 | []=>some ()
 | _=>none⟩
def di (c:jQ D α)(d:jQ D β):jQ D (α×β):=⟨c.n+d.n,fun p=>c.enc p.1++d.enc p.2,fun e=>match c.dec (e.take c.n),d.dec (e.drop c.n)with
 | some a,some b=>some (a,b)
 | _,_=>none⟩
def oh (c:jQ D α)(f:α->β)(g:β->α):jQ D β:=⟨c.n,fun b=>c.enc (g b),fun d=>match c.dec d with
 | some a=>some (f a)
 | none=>none⟩
def vC (c:jQ D α)(d:α)(l:List α):Nat->Nat->List (Lf D)
 | _,0=>[]
 | i,n+1=>c.enc (l.getD i d)++vC c d l (i+1) n
def XN (c:jQ D α):Nat->List (Lf D)->Option (List α)
 | 0,[]=>some []
 | 0,_=>none
 | n+1,b=>(match c.dec (b.take c.n),XN c n (b.drop c.n)with
  | some a,some l=>some (a::l)
  | _,_=>none)
def Iy (n:Nat)(d:α)(c:jQ D α):jQ D (List α):=⟨n*c.n,fun l=>vC c d l 0 n,XN c n⟩
theorem U6 {c:jQ D α}(a:dG S c)(d:α)(l:List α):∀(n i:Nat),(vC c d l i n).length=n*c.n
 | 0,i=>by simp[vC]
 | n+1,i=>by rw[vC,um,a.len,U6 a d l n (i+1),Nat.succ_mul];omega
theorem QO {c:jQ D α}(a:dG S c)(d:α)(l:List α):∀(n i:Nat) (x:Lf D),x∈vC c d l i n->x.kF=true
 | 0,i,x,h=>by simp[vC]at h
 | n+1,i,x,h=>by
  simp only[vC,yH]at h;rcases h with h | h
  ·exact a.data _ _ h
  ·exact QO a d l n (i+1) x h
theorem KL (c:jQ D α)(d a:α)(l:List α):∀(n i:Nat),vC c d (a::l) (i+1) n=vC c d l i n
 | 0,i=>rfl
 | n+1,i=>by simp only[vC,Qb2,KL c d a l n (i+1)]
theorem Z_ {c:jQ D α}(e:dG S c)(d:α):∀(n:Nat) (b:List (Lf D)) (l:List α),XN c n b=some l->Zd S b (vC c d l 0 n)
 | 0,b,l,h=>by
  cases b with
  | nil=>trivial
  | cons x b=>simp[XN]at h
 | n+1,b,l,h=>by
  unfold XN at h;split at h
  ·rename_i a g f i;injection h with h
   subst h;have:=Zd.app (e.ok _ _ f) (Z_ e d n _ _ i);rw[Qcr]at this;simp only[vC,Qb3];rw[Dw,KL c d a g n 0];exact this
  ·cases h
theorem aDv {n:Nat}{d:α}{c:jQ D α}(a:dG S c):dG S (Iy n d c):=
 ⟨fun e l h=>Z_ a d n e l h,fun l=>U6 a d l n 0,fun l x b=>QO a d l n 0 x b⟩
theorem pG (k:IntKind):dG S (h_ (D:=D) k):=by
 refine⟨fun d a h=> ?_,fun _=>rfl,fun a x c=> ?_⟩
 ·simp only[h_]at h;split at h
  ·split at h
   ·rename_i b;injection h with h
    subst h;simp only[ZA,Qb6]at b;subst b;exact⟨.inl rfl,rfl,trivial⟩
   ·cases h
  ·cases h
 ·simp[h_]at c;subst c;rfl
theorem Oc:dG S (aG (D:=D)):=by
 refine⟨fun c a h=> ?_,fun _=>rfl,fun a x b=> ?_⟩
 ·simp only[aG]at h;split at h
  ·injection h with h;subst h;exact⟨.inl rfl,rfl,trivial⟩
  ·injection h with h;subst h;exact⟨.inr (.inr (.inl ⟨_,rfl,rfl⟩)),rfl,trivial⟩
  ·cases h
 ·simp[aG]at b;subst b;rfl
theorem aca:dG S (cStr (D:=D)):=by
 refine⟨fun c a h=> ?_,fun _=>rfl,fun a x b=> ?_⟩
 ·simp only[cStr]at h;split at h
  ·injection h with h;subst h;exact⟨.inl rfl,rfl,trivial⟩
  ·cases h
 ·simp[cStr]at b;subst b;rfl
theorem aCj:dG S (azP (D:=D)):=by
 refine⟨fun e a h=> ?_,fun _=>rfl,fun a x b=> ?_⟩
 ·simp only[azP]at h;split at h
  ·injection h with h;subst h;exact⟨.inl rfl,rfl,trivial⟩
  ·split at h
   ·rename_i d c;injection h with h;subst h;exact⟨.inr (.inr (.inr (.inl ⟨_,_,_,_,rfl,rfl,c⟩))),rfl,trivial⟩
   ·cases h
  ·cases h
 ·simp[azP]at b;subst b;rfl
theorem jB {b:α->D}{g:D->Option α}{c:α}(i:∀d a,g d=some a->d=b a)(j:S.len (b c)=0)(f:S.mp (b c)=none:=by rfl):dG S (rU b g c):=by
 refine⟨fun l a h=> ?_,fun _=>rfl,fun a x e=> ?_⟩
 ·simp only[rU]at h;split at h
  ·rw[i _ _ h];exact⟨.inl rfl,rfl,trivial⟩
  ·split at h
   ·rename_i k;injection h with h
    subst h;rw[af8 k];exact⟨.inr (.inl ⟨rfl,_,rfl,j,f⟩),rfl,trivial⟩
   ·cases h
  ·split at h
   ·rw[i _ _ h];exact⟨.inr (.inr (.inr (.inr ⟨_,rfl,rfl⟩))),rfl,trivial⟩
   ·cases h
  ·cases h
 ·simp[rU]at e;subst e;rfl
theorem Nv:dG S (am3 (D:=D)):=by
 refine⟨fun c a h=> ?_,fun _=>rfl,fun a x b=> ?_⟩
 ·simp only[am3]at h;split at h
  ·trivial
  ·cases h
 ·simp[am3]at b
theorem ayz {c:jQ D α}{d:jQ D β}(f:dG S c)(g:dG S d):dG S (di c d):=by
 refine⟨fun k a h=> ?_,fun a=>by simp[di,f.len,g.len],fun a x e=> ?_⟩
 ·simp only[di]at h;split at h
  ·rename_i a b i j;injection h with h
   subst h;have:=Zd.app (f.ok _ _ i) (g.ok _ _ j);rwa [Qcr]at this
  ·cases h
 ·simp only[di,yH]at e;rcases e with e | e
  ·exact f.data _ _ e
  ·exact g.data _ _ e
theorem gY {c:jQ D α}{f:α->β}{g:β->α}(b:dG S c)(i:∀a,g (f a)=a):dG S (oh c f g):=by
 refine⟨fun j a h=> ?_,fun a=>b.len _,fun a x d=>b.data _ _ d⟩;simp only[oh]at h;split at h
 ·rename_i k e;injection h with h
  subst h;simp only[oh,i];exact b.ok _ _ e
 ·cases h
structure Qn (D α:Type) where
 enc:α->List (List (Lf D))
 dec:List (List (Lf D))->Option α
class yU (S:Sh D) (c:Qn D α):Prop where
 ok:∀xs a,c.dec xs=some a->akw S xs (c.enc a)
def l0:Qn D Unit:=⟨fun _=>[],fun a=>match a with
 | []=>some ()
 | _=>none⟩
def l1 (c:jQ D α):Qn D α:=⟨fun a=>[c.enc a],fun b=>match b with
 | [x]=>c.dec x
 | _=>none⟩
def aB (c:jQ D α)(r:Qn D β):Qn D (α×β):=⟨fun p=>c.enc p.1::r.enc p.2,fun d=>match d with
 | x::d=>(match c.dec x,r.dec d with
  | some a,some b=>some (a,b)
  | _,_=>none)
 | _=>none⟩
theorem aKJ:yU S (l0 (D:=D)):=⟨fun b a h=>by
 simp only[l0]at h;split at h
 ·trivial
 ·cases h⟩
theorem aJN {c:jQ D α}(b:dG S c):yU S (l1 c):=⟨fun d a h=>by
 simp only[l1]at h;split at h
 ·exact⟨b.ok _ _ h,trivial⟩
 ·cases h⟩
theorem awK {c:jQ D α}{r:Qn D β}(f:dG S c)(g:yU S r):yU S (aB c r):=⟨fun i a h=>by
 simp only[aB]at h;split at h
 ·split at h
  ·rename_i a b d e;injection h with h
   subst h;exact⟨f.ok _ _ d,g.ok _ _ e⟩
  ·cases h
 ·cases h⟩
def bI (a:(Nat->Sl D)->List It)(c:Qn D α):Iz D:=⟨α,a,c.enc,c.dec⟩
def shr (a:List It)(c:Qn D α):Iz D:=⟨α,fun _=>a,c.enc,c.dec⟩
theorem aGd {a:(Nat->Sl D)->List It}{c:Qn D α}(b:yU S c):sF S (bI a c):=⟨b.ok⟩
theorem aH6 {a:List It}{c:Qn D α}(b:yU S c):sF S (shr a c):=⟨b.ok⟩
structure zh (D α:Type) where
 enc:α->List (Sl D)
 dec:List (Sl D)->Option α
class oq (S:Sh D) (k:outParam Nat) (c:zh D α):Prop where
 ok:∀xs a,c.dec xs=some a->ab3 S xs (c.enc a)
 len:∀a,(c.enc a).length=k
structure J8 (D α:Type) where
 enc:α->List (Bk D)
 dec:List (Bk D)->Option α
class uU (S:Sh D) (k:outParam Nat) (c:J8 D α):Prop where
 ok:∀xs a,c.dec xs=some a->I8 S xs (c.enc a)
 len:∀a,(c.enc a).length=k
structure Arg (D α:Type) where
 enc:α->Sv D
 dec:Sv D->Option α
class uT (S:Sh D) (c:Arg D α):Prop where
 ok:∀x a,c.dec x=some a->azg S x (c.enc a)
def lf0:List (Lf D)->Lf D
 | [x]=>x
 | _=> .any
def bC (c:jQ D α):Arg D α:=⟨fun a=> .lf (lf0 (c.enc a)),fun x=>match x with
 | .lf x=>c.dec [x]
 | _=>none⟩
def aJ (c:jQ D α):Arg D α:=⟨fun a=> .agg (c.enc a),fun x=>match x with
 | .agg b=>c.dec b
 | _=>none⟩
def jf (l:Nat):Arg D Unit:=⟨fun _=> .lf (.ptr l 0),fun x=>match x with
 | .lf (.ptr a o)=>if Nat.beq l a && Nat.beq o 0 then some ()else none
 | _=>none⟩
def oD (l:Nat):Arg D Unit:=⟨fun _=> .lf (.own l),fun x=>match x with
 | .lf (.own a)=>if Nat.beq l a then some ()else none
 | _=>none⟩
def aJ3 (l a:Nat):Arg D Nat:=⟨fun i=> .lf (.opt l i 0 a),fun x=>match x with
 | .lf (.opt c i j b)=>if Nat.beq l c && Nat.beq j 0 && Nat.beq a b then some i else none
 | _=>none⟩
def Ru:List Nat->List Nat->Bool
 | [],[]=>true
 | x::b,y::a=>Nat.beq x y && Ru b a
 | _,_=>false
theorem Lt:∀{b a:List Nat},Ru b a=true->b=a
 | [],[],_=>rfl
 | x::b,y::a,h=>by
  simp only[Ru,kW]at h;rw[Qa h.1,Lt h.2]
 | [],_::_,h=>by simp[Ru]at h
 | _::_,[],h=>by simp[Ru]at h
def lH (f:Nat)(a:List Nat):Arg D Unit:=⟨fun _=> .lf (.fn f a),fun x=>match x with
 | .lf (.fn c b)=>if Nat.beq f c && Ru a b then some ()else none
 | _=>none⟩
def aHF (f:Nat)(a:List Nat):Arg D Unit:=⟨fun _=> .agg [.fn f a],fun x=>match x with
 | .agg [.fn c b]=>if Nat.beq f c && Ru a b then some ()else none
 | _=>none⟩
theorem qx {c:jQ D α}(d:dG S c):uT S (bC c):=⟨fun x a h=>by
 simp only[bC]at h⊢;split at h
 ·have:=d.ok _ _ h;generalize c.enc a=b at this;cases b with
  | nil=>exact this.elim
  | cons y b=>
   cases b with
   | cons _ _=>exact this.2.2.elim
   | nil=>exact this.1
 ·cases h⟩
theorem Zd.les:∀{a b:List (Lf D)},Zd S a b->Om S a b
 | [],[],_=>trivial
 | _::_,_::_,h=>⟨h.1,Zd.les h.2.2⟩
theorem aex {c:jQ D α}(b:dG S c):uT S (aJ c):=⟨fun x a h=>by
 simp only[aJ]at h⊢;split at h
 ·exact(b.ok _ _ h).les
 ·cases h⟩
theorem zl (l:Nat):uT S (jf (D:=D) l):=⟨fun x a h=>by
 simp only[jf]at h⊢;split at h
 ·split at h
  ·rename_i b;simp only[kW]at b;rw[<-Qa b.1,Qa b.2];exact .inl rfl
  ·cases h
 ·cases h⟩
theorem aDM (l:Nat):uT S (oD (D:=D) l):=⟨fun x a h=>by
 simp only[oD]at h⊢;split at h
 ·split at h
  ·rename_i b;rw[<-Qa b];exact .inl rfl
  ·cases h
 ·cases h⟩
theorem aC3 (l c:Nat):uT S (aJ3 (D:=D) l c):=⟨fun x a h=>by
 simp only[aJ3]at h⊢;split at h
 ·split at h
  ·rename_i b;simp only[kW]at b;injection h with h
   subst h;rw[<-Qa b.1.1,Qa b.1.2,<-Qa b.2];exact .inl rfl
  ·cases h
 ·cases h⟩
def avj (l a:Nat):Arg D Unit:=⟨fun _=> .lf (.opt l 0 0 a),fun x=>match x with
 | .lf (.opt c i j b)=>if Nat.beq l c && (Nat.beq i 0 && (Nat.beq j 0 && Nat.beq a b))then some ()else none
 | _=>none⟩
theorem aCC (l c:Nat):uT S (avj (D:=D) l c):=⟨fun x a h=>by
 simp only[avj]at h⊢;split at h
 ·split at h
  ·rename_i b;simp only[kW]at b;rw[<-Qa b.1,Qa b.2.1,Qa b.2.2.1,<-Qa b.2.2.2];exact .inl rfl
  ·cases h
 ·cases h⟩
theorem aG8 (f:Nat)(b:List Nat):uT S (lH (D:=D) f b):=⟨fun x a h=>by
 simp only[lH]at h⊢;split at h
 ·split at h
  ·rename_i c;simp only[kW]at c;rw[<-Qa c.1,<-Lt c.2];exact .inl rfl
  ·cases h
 ·cases h⟩
theorem aBq (f:Nat)(b:List Nat):uT S (aHF (D:=D) f b):=⟨fun x a h=>by
 simp only[aHF]at h⊢;split at h
 ·split at h
  ·rename_i c;simp only[kW]at c;rw[<-Qa c.1,<-Lt c.2];exact⟨.inl rfl,trivial⟩
  ·cases h
 ·cases h⟩
def a0:zh D Unit:=⟨fun _=>[],fun a=>match a with
 | []=>some ()
 | _=>none⟩
def a1 (c:Arg D α):zh D α:=⟨fun a=>[.one (c.enc a)],fun b=>match b with
 | [.one x]=>c.dec x
 | _=>none⟩
def ak (c:Arg D α)(r:zh D β):zh D (α×β):=⟨fun p=> .one (c.enc p.1)::r.enc p.2,fun d=>match d with
 | .one x::d=>(match c.dec x,r.dec d with
  | some a,some b=>some (a,b)
  | _,_=>none)
 | _=>none⟩
theorem aJ2:oq S 0 (a0 (D:=D)):=by
 refine⟨fun b a h=> ?_,fun _=>rfl⟩;simp only[a0]at h;split at h
 ·trivial
 ·cases h
theorem RZ {c:Arg D α}(b:uT S c):oq S 1 (a1 c):=by
 refine⟨fun d a h=> ?_,fun _=>rfl⟩;simp only[a1]at h;split at h
 ·exact⟨b.ok _ _ h,trivial⟩
 ·cases h
theorem kJ {c:Arg D α}{r:zh D β}{k:Nat}(g:uT S c)(d:oq S k r):oq S (k+1) (ak c r):=by
 refine⟨fun i a h=> ?_,fun a=>by simp[ak,d.len]⟩;simp only[ak]at h;split at h
 ·split at h
  ·rename_i a b e f;injection h with h
   subst h;exact⟨g.ok _ _ e,d.ok _ _ f⟩
  ·cases h
 ·cases h
structure Blk (D α:Type) where
 enc:α->Bk D
 dec:Bk D->Option α
class uV (S:Sh D) (c:Blk D α):Prop where
 ok:∀x a,c.dec x=some a->ae8 S x (c.enc a)
def aV (c:jQ D α):Blk D α:=⟨fun a=> .cells (c.enc a),fun x=>match x with
 | .cells b=>c.dec b
 | _=>none⟩
def lh (e:TypeId)(b:α->D)(f:D->Option α):Blk D α:=⟨fun a=> .row e (b a),fun x=>match x with
 | .row c d=>if Nat.beq e c then f d else none
 | _=>none⟩
theorem aql {c:jQ D α}(b:dG S c):uV S (aV c):=⟨fun x a h=>by
 simp only[aV]at h⊢;split at h
 ·exact(b.ok _ _ h).les
 ·cases h⟩
theorem DZ {e:TypeId}{b:α->D}{c:D->Option α}(g:∀d a,c d=some a->d=b a):uV S (lh e b c):=⟨fun x a h=>by
 simp only[lh]at h⊢;split at h
 ·split at h
  ·rename_i f;exact⟨(Qa f).symm,g _ _ h⟩
  ·cases h
 ·cases h⟩
def b1 (c:Blk D α):J8 D α:=⟨fun a=>[c.enc a],fun b=>match b with
 | [x]=>c.dec x
 | _=>none⟩
def ja (c:Blk D α)(r:J8 D β):J8 D (α×β):=⟨fun p=>c.enc p.1::r.enc p.2,fun d=>match d with
 | x::d=>(match c.dec x,r.dec d with
  | some a,some b=>some (a,b)
  | _,_=>none)
 | _=>none⟩
theorem aMd {c:Blk D α}(b:uV S c):uU S 1 (b1 c):=by
 refine⟨fun d a h=> ?_,fun _=>rfl⟩;simp only[b1]at h;split at h
 ·exact⟨b.ok _ _ h,trivial⟩
 ·cases h
theorem ayT {c:Blk D α}{r:J8 D β}{k:Nat}(g:uV S c)(d:uU S k r):uU S (k+1) (ja c r):=by
 refine⟨fun i a h=> ?_,fun a=>by simp[ja,d.len]⟩;simp only[ja]at h;split at h
 ·split at h
  ·rename_i a b e f;injection h with h
   subst h;exact⟨g.ok _ _ e,d.ok _ _ f⟩
  ·cases h
 ·cases h
def zX:List (Option TypeId)->List (Lf D)->Nat->List (Bk D)->Option (List (Lf D))
 | [],[],_,[]=>some []
 | none::b,x::f,n,a=>(match zX b f n a with
  | some c=>some (x::c)
  | none=>none)
 | some e::b, .own k::f,n, .row g d::a=>if Nat.beq k n && Nat.beq e g then(match zX b f (n+1) a with
  | some c=>some (.dat d::c)
  | none=>none)else none
 | _,_,_,_=>none
def Zw (n:Nat)(b:List (Option TypeId))(c:jQ D α):J8 D α:=⟨fun a=> .cells (ng b (c.enc a) n).1::(ng b (c.enc a) n).2.1.map (·.2),fun g=>match g with
 | .cells f::d=>(match zX b f n d with
  | some e=>c.dec e
  | none=>none)
 | _=>none⟩
theorem VR:∀(f:List (Option TypeId)) (i g b:List (Lf D)) (n:Nat) (a:List (Bk D)),zX f i n a=some g->Zd S g b->Om S i (ng f b n).1/\I8 S a ((ng f b n).2.1.map (·.2))
 | [],[],g,b,n,a,h,c=>by
  cases a with
  | cons _ _=>simp[zX]at h
  | nil=>
   simp only[zX,P7]at h;subst h;cases b with
   | cons _ _=>exact c.elim
   | nil=>exact⟨trivial,trivial⟩
 | [],x::i,g,b,n,a,h,c=>by simp[zX]at h
 | none::f,[],g,b,n,a,h,c=>by simp[zX]at h
 | none::f,x::i,g,b,n,a,h,c=>by
  simp only[zX]at h;split at h
  ·rename_i j l;injection h with h
   subst h;cases b with
   | nil=>exact c.elim
   | cons z b=>
    obtain⟨m,p⟩:=VR f i j b n a l c.2.2;exact⟨⟨c.1,m⟩,p⟩
  ·cases h
 | some e::f,[],g,b,n,a,h,c=>by simp[zX]at h
 | some e::f,x::i,g,b,n,a,h,c=>by
  cases a with
  | nil=>cases x<;>simp[zX]at h
  | cons r a=>
   cases x with
   | own k=>
    cases r with
    | row t d=>
     simp only[zX]at h;split at h
     ·rename_i o;simp only[kW]at o;have q:=Qa o.1;have s:=Qa o.2;subst q s;split at h
      ·rename_i j l;injection h with h
       subst h;cases b with
       | nil=>exact c.elim
       | cons z b=>
        have:=CS c.1;subst this;obtain⟨m,p⟩:=VR f i j b (k+1) a l c.2.2;exact⟨⟨.inl rfl,m⟩,⟨rfl,rfl⟩,p⟩
      ·cases h
     ·cases h
    | _=>simp[zX]at h
   | _=>simp[zX]at h
theorem Dy {n k:Nat}{b:List (Option TypeId)}{c:jQ D α}(g:dG S c)(e:∀a,(ng b (c.enc a) n).2.1.length=k):uU S (k+1) (Zw n b c):=by
 refine⟨fun i a h=> ?_,fun a=>by simp[Zw,e]⟩;simp only[Zw]at h;split at h
 ·split at h
  ·rename_i f d;exact VR b _ f _ n _ d (g.ok _ _ h)
  ·cases h
 ·cases h
def args (c:zh D α):xk D:=⟨α,fun a=>(c.enc a,[]),fun b d=>match d with
 | []=>c.dec b
 | _=>none⟩
def kN (c:zh D α)(b:J8 D β):xk D:=⟨α×β,fun p=>(c.enc p.1,b.enc p.2),fun d e=>match c.dec d,b.dec e with
 | some a,some b=>some (a,b)
 | _,_=>none⟩
theorem aDp {c:zh D α}{k n:Nat}(b:oq S k c)(d:Nat.ble k n=true):R_ S (args c) 0 n:=by
 refine⟨fun e f a h=> ?_,fun _=>rfl,fun(a:α)=>(b.len a).symm▸Qa3 d⟩;simp only[args]at h;split at h
 ·exact⟨b.ok _ _ h,trivial⟩
 ·cases h
theorem wE {c:zh D α}{b:J8 D β}{k m n:Nat}(e:oq S k c)(d:uU S m b)(f:Nat.ble k n=true):R_ S (kN c b) m n:=by
 refine⟨fun j l a h=> ?_,fun a=>d.len _,fun(a:α×β)=>(e.len a.1).symm▸Qa3 f⟩;simp only[kN]at h;split at h
 ·rename_i a b g i;injection h with h
  subst h;exact⟨e.ok _ _ g,d.ok _ _ i⟩
 ·cases h
structure El (D:Type):Type 1 where
 α:Type
 Su:jQ D α
 dflt:α
 inj:List α->D
 Qq:D->Option (List α)
def GV (c:jQ D α):Nat->List (Lf D)->Option (List α)
 | 0,[]=>some []
 | 0,_::_=>none
 | n+1,cs=>(match c.dec (cs.take c.n),GV c n (cs.drop c.n)with
  | some a,some l=>some (a::l)
  | _,_=>none)
abbrev Vw (D:Type):=(E:El D)×List E.α
def Vw.size (p:Vw D):Nat:=p.1.Su.n
def Vw.len (p:Vw D):Nat:=p.2.length
def Vw.cell (p:Vw D)(i j:Nat):Lf D:=(p.1.Su.enc (p.2.getD i p.1.dflt)).getD j .any
def Vw.set (p:Vw D)(i j:Nat)(b:List (Lf D)):Option D:=match p.1.Su.dec (putAt (p.1.Su.enc (p.2.getD i p.1.dflt)) j b)with
 | some a=>some (p.1.inj (p.2.set i a))
 | none=>none
def Vw.cat (p:Vw D)(d:D):Option D:=match p.1.Qq d with
 | some l=>some (p.1.inj (p.2++l))
 | none=>none
def Vw.sub (p:Vw D)(i j:Nat):Option D:=some (p.1.inj ((p.2.take j).drop i))
def vH (view:D->Vw D)(qi:TypeId->Option (El D))(SX:Nat->Option D:=fun _=>none)(txt:TypeId->List UInt8->Option D:=fun _ _=>none)(CP:D->Option (Mp D):=fun _=>none)(IK:TypeId->Option D:=fun _=>none):Sh D where
 mp:=CP
 azD:=IK
 SX:=SX
 text:=txt
 size d:=(view d).size
 len d:=(view d).len
 cell d i j:=(view d).cell i j
 make e n cs:=match qi e with
  | none=>none
  | some E=>(match GV E.Su n cs with
   | some l=>some (E.inj l)
   | none=>none)
 zero e n zs:=match qi e with
  | none=>none
  | some E=>(match E.Su.dec zs with
   | some z=>some (E.inj (List.replicate n z))
   | none=>none)
 set d i j xs:=(view d).set i j xs
 cat d1 d2:=(view d1).cat d2
 sub d i j:=match CP d with
  | none=>(view d).sub i j
  | some _=>none
def Ya (s:List UInt8):List Int:=s.map fun b=>(b.toNat:Int)
theorem asP (s:List UInt8)(i:Nat):(Ya s).getD i 0=((s.getD i 0).toNat:Int):=by
 unfold Ya;by_cases h:i < s.length
 ·simp[List.getD,Qbq,h]
 ·simp[List.getD,Qbq,List.getElem?_eq_none (by omega:s.length<=i)]
abbrev avV (n:Nat)(x:Int):List Int:=List.replicate n x
def txU (l:List Int):List UInt8:=(List.range l.length).map fun i=>UInt8.ofNat (l.getD i 0).toNat
theorem aGE (l:List Int):txU l=l.map fun n=>UInt8.ofNat n.toNat:=by
 unfold txU;refine List.ext_getElem? fun i=> ?_
 grind
@[simp] theorem aM9:txU []=[]:=rfl
def F8 (l:List Int)(i:Nat):Bool:=decide (0<=l.getD i 0) && decide (l.getD i 0 < 256)
theorem Yj {a b:List Int}(c:∀i,F8 a i=true)(d:∀i,F8 b i=true)(i:Nat):F8 (a++b) i=true:=by
 unfold F8 at*;by_cases h:i < a.length
 ·have:=c i
  grind
 ·have:=d (i - a.length)
  grind
theorem JE (s:List UInt8)(i:Nat):F8 (Ya s) i=true:=by
 unfold F8;rw[asP];have:=(s.getD i 0).toNat_lt
 grind
theorem G9 (l:List Int):(txU l).length=l.length:=by simp[aGE]
theorem zo (s:List UInt8):(Ya s).length=s.length:=by simp[Ya]
theorem xY {f:Nat->Bool}(h:∀i,f i=true):∀n,JQ f n=true
 | 0=>rfl
 | n+1=>by simp[JQ,h n,xY h n]
structure azi (S:Sh D)(view:D->Vw D)(qi:TypeId->Option (El D)):Prop where
 el:∀e E,qi e=some E->∀l,view (E.inj l)=⟨E,l⟩
 vw:∀d l,view ((view d).1.inj l)=⟨(view d).1,l⟩
 Qq:∀d d2 l2,(view d).1.Qq d2=some l2->view d2=⟨(view d).1,l2⟩
 Su:∀d,dG S (view d).1.Su
theorem Oe {c:jQ D α}(d:dG S c):∀(n:Nat) (cs:List (Lf D)) (l:List α),GV c n cs=some l->l.length=n/\cs.length=n*c.n/\∀(i j:Nat) (b:α),i < n->j < c.n->∃x,cs[i*c.n+j]? =some x/\x.Le S ((c.enc (l.getD i b)).getD j .any)
 | 0,[],l,h=>by
  injection h with h
  grind
 | 0,_::_,l,h=>by simp[GV]at h
 | n+1,cs,l,h=>by
  unfold GV at h;split at h
  ·rename_i a q u p;injection h with h
   subst h;obtain⟨o,v,s⟩:=Oe d n _ q p;have e:=d.ok _ _ u;have f:=e.length;rw[d.len]at f;have m:c.n<=cs.length:=by grind
   refine⟨by simp[o],?_,fun i j b w k=> ?_⟩
   ·grind
   ·cases i with
    | zero=>
     have r:(c.enc a)[j]? =some ((c.enc a).getD j .any):=by
      have:j < (c.enc a).length:=by rw[d.len];exact k
      grind
     obtain⟨x,t,g⟩:=e.get j _ r
     grind
    | succ i=>
     obtain⟨x,t,g⟩:=s i j b au k
     grind
  ·cases h
theorem getD_some {l:List α}{i:Nat}{d:α}(h:i < l.length):l.getD i d=l[i]:=by grind
structure aze (S:Sh D)(view:D->Vw D)(qi:TypeId->Option (El D))(gl:Nat->Option D)(txt:TypeId->List UInt8->Option D)(CP:D->Option (Mp D))(IK:TypeId->Option D):Prop where
 inj:∀d l,CP ((view d).1.inj l)=none
 el:∀e E,qi e=some E->∀l,CP (E.inj l)=none
 txt:∀e s d,txt e s=some d->CP d=none
 SX:∀i d,gl i=some d->CP d=none
 size:∀d m,CP d=some m->(view d).len=0/\(view d).size=0/\aDR S m
 new:∀t d,IK t=some d->∃m,CP d=some m/\m.kvs=[]
theorem ax3 {view:D->Vw D}{qi:TypeId->Option (El D)}{g:Nat->Option D}{f:TypeId->List UInt8->Option D}{CP:D->Option (Mp D)}{IK:TypeId->Option D}(h:azi (vH view qi g f CP IK) view qi)
  (ht:∀e s d,f e s=some d->(vH view qi g f CP IK).size d=1/\(vH view qi g f CP IK).len d=s.length/\∀i,i < s.length->(vH view qi g f CP IK).cell d i 0= .int .u8 (s.getD i 0).toNat) (F:aze (vH view qi g f CP IK) view qi g f CP IK):jE (vH view qi g f CP IK):=by
 have htx:∀e s d,(vH view qi g f CP IK).text e s=some d->(vH view qi g f CP IK).size d=1/\(vH view qi g f CP IK).len d=s.length/\∀i,i < s.length->(vH view qi g f CP IK).cell d i 0= .int .u8 (s.getD i 0).toNat:=ht;clear ht;have y:∀d,(vH view qi g f CP IK).size d=(view d).size:=fun _=>rfl
 have r:∀d,(vH view qi g f CP IK).len d=(view d).len:=fun _=>rfl
 have C:∀d i j,(vH view qi g f CP IK).cell d i j=(view d).cell i j:=fun _ _ _=>rfl
 have H:∀d i j G,(vH view qi g f CP IK).set d i j G=(view d).set i j G:=fun _ _ _ _=>rfl
 have IB:∀d B,(vH view qi g f CP IK).cat d B=(view d).cat B:=fun _ _=>rfl
 have O:∀d i j B,(vH view qi g f CP IK).sub d i j=some B->(view d).sub i j=some B/\CP d=none:=by
  intro d i j B L;simp only[vH]at L
  grind
 have p:∀d,(vH view qi g f CP IK).mp d=CP d:=fun _=>rfl
 have hnw:∀t,(vH view qi g f CP IK).azD t=IK t:=fun _=>rfl
 have hgl:∀t,(vH view qi g f CP IK).SX t=g t:=fun _=>rfl
 have htt:∀e s,(vH view qi g f CP IK).text e s=f e s:=fun _ _=>rfl
 have U:∀e n cs d,(vH view qi g f CP IK).make e n cs=some d->∃E l,qi e=some E/\GV E.Su n cs=some l/\E.inj l=d:=by
  intro e n cs d b;simp only[vH]at b
  grind
 have V:∀e n J d,(vH view qi g f CP IK).zero e n J=some d->∃E z,qi e=some E/\E.Su.dec J=some z/\E.inj (List.replicate n z)=d:=by
  intro e n J d b;simp only[vH]at b
  grind
 generalize vH view qi g f CP IK=S at*;refine⟨fun e n cs d b=> ?_,fun d i j A v=> ?_,fun e n J d b=> ?_,fun d i j G B b A=> ?_,fun d1 d2 d b=> ?_,fun d i j B b hij v=> ?_,htx,
  fun e n cs d b=> ?_,fun e n J d b=> ?_,fun d i j G B b _=> ?_,fun d1 d2 d b=> ?_,fun d i j B b=> ?_,fun e s d b=> ?_,fun d m b=> ?_,fun t d L=> ?_,fun i d L=> ?_⟩
 ·obtain⟨E,l,M,hl,rfl⟩:=U e n cs d b;have w:=h.el e E M l;have o:=h.Su (E.inj l);rw[w]at o;obtain⟨q1,q2,q3⟩:=Oe o n cs l hl;simp only[y,r,C,w];exact⟨q1,q2,fun i j A v=>q3 i j _ A v⟩
 ·rw[C];unfold Vw.cell;rw[y]at v;have K:=h.Su d;have W:j < ((view d).1.Su.enc ((view d).2.getD i (view d).1.dflt)).length:=by rw[K.len];exact v
  rw[getD_some W];exact K.data _ _ (Qdw W)
 ·obtain⟨E,z,M,hz,rfl⟩:=V e n J d b;have w:=h.el e E M (List.replicate n z);have o:=h.Su (E.inj (List.replicate n z));rw[w]at o;have o:dG S E.Su:=o;have I:=o.ok _ _ hz;simp only[y,r,C,w];refine⟨by simp[Vw.len],by rw[I.length,o.len];rfl,fun i j A v=> ?_⟩;have v:j < E.Su.n:=v;have Y:(List.replicate n z).getD i E.dflt=z:=by
   grind
  show ∃x,J[j]? =some x/\x.Le S ((E.Su.enc ((List.replicate n z).getD i E.dflt)).getD j .any)
  rw[Y];exact I.get j _ (by
   have:j < (E.Su.enc z).length:=by rw[o.len];exact v
   grind)
 ·rw[H]at b;unfold Vw.set at b;split at b
  ·rename_i a ha;injection b with b
   subst b;have K:=h.Su d;have w:=h.vw d ((view d).2.set i a);have I:=K.ok _ _ ha;rw[r]at A;have A:i < (view d).2.length:=A;simp only[y,r,C,w];refine⟨rfl,by simp[Vw.len],fun N u T Q=> ?_⟩;simp only[Vw.cell];have Q:u < (view d).1.Su.n:=Q;have T:N < (view d).2.length:=T;have hla:u < ((view d).1.Su.enc a).length:=by rw[K.len];exact Q
   have hl0:((view d).1.Su.enc ((view d).2.getD i (view d).1.dflt)).length=(view d).1.Su.n:=K.len _;have P:=I.length;rw[K.len]at P;by_cases hii:N=i
   ·subst hii;have H:((view d).2.set N a).getD N (view d).1.dflt=a:=by grind
    rw[H];obtain⟨x,Z,X⟩:=I.get u _ (show((view d).1.Su.enc a)[u]? =some (((view d).1.Su.enc a).getD u .any) by grind);unfold putAt at Z P;generalize hcs:(view d).1.Su.enc ((view d).2.getD N (view d).1.dflt)=cs at Z P hl0;have aa:∀x,(cs.take j++(G++cs.drop (j+G.length)))[u]? =some x->(j<=u/\u < j+G.length->G[u - j]? =some x)/\(¬(j<=u/\u < j+G.length)->cs[u]? =some x):=by
     grind
    obtain⟨k1,k2⟩:=aa x Z;refine⟨fun q=>⟨x,k1 ⟨q.2.1,q.2.2⟩,X⟩,fun q=> ?_⟩;have hcx:=k2 fun q'=>q ⟨rfl,q'⟩
    have hxd:x.kF=true:=K.data _ x (by rw[hcs];grind);rw[aAJ X hxd]
    grind
   grind
  ·cases b
 ·rw[IB]at b;unfold Vw.cat at b;split at b
  ·rename_i l2 hl2;injection b with b
   subst b;have w:=h.vw d1 ((view d1).2++l2);have hv2:=h.Qq d1 d2 l2 hl2;simp only[y,r,C,w,hv2];refine⟨rfl,rfl,by simp[Vw.len],fun i j A=> ?_,fun i j A=> ?_⟩<;>simp only[Vw.cell,Vw.len]
   ·have A:i < (view d1).2.length:=A
    grind
   grind
  ·cases b
 ·have b:=(O _ _ _ _ b).1;unfold Vw.sub at b;injection b with b
  subst b;rw[r]at v;have v:j<=(view d).2.length:=v;have w:=h.vw d (((view d).2.take j).drop i);simp only[y,r,C,w];refine⟨rfl,by simp[Vw.len];omega,fun k c hk=> ?_⟩;simp only[Vw.cell]
  grind
 ·obtain⟨E,l,M,hl,rfl⟩:=U e n cs d b;rw[p];exact F.el e E M l
 ·obtain⟨E,z,M,hz,rfl⟩:=V e n J d b;rw[p];exact F.el e E M _
 ·rw[H]at b;unfold Vw.set at b;split at b
  ·injection b with b
   subst b;rw[p];exact F.inj _ _
  ·cases b
 ·rw[IB]at b;unfold Vw.cat at b;split at b
  ·injection b with b
   subst b;rw[p];exact F.inj _ _
  ·cases b
 ·obtain⟨R,h2⟩:=O _ _ _ _ b;unfold Vw.sub at R;injection R with R
  subst R;rw[p,p];exact⟨h2,F.inj _ _⟩
 ·rw[htt]at b;rw[p];exact F.txt _ _ _ b
 ·rw[p]at b;rw[r,y];exact F.size d m b
 ·rw[hnw]at L;obtain⟨m,R,h2⟩:=F.new _ _ L
  grind
 ·rw[hgl]at L;rw[p];exact F.SX _ _ L
end
attribute [instance] pG Oc aca aCj Nv aKJ zl aDM aC3 aCC aG8 aBq aJ2
section
variable {D α β:Type}{S:Sh D}
instance aN6 {c:jQ D α} {d:jQ D β} [a:dG S c] [b:dG S d]:dG S (di c d):=ayz a b
instance aOk {n:Nat} {d:α} {c:jQ D α} [a:dG S c]:dG S (Iy n d c):=aDv a
instance iL1 {c:jQ D α} [a:dG S c]:yU S (l1 c):=aJN a
instance iLc {c:jQ D α} {r:Qn D β} [a:dG S c] [b:yU S r]:yU S (aB c r):=awK a b
instance iLf {c:jQ D α} [a:dG S c]:uT S (bC c):=qx a
instance iAg {c:jQ D α} [a:dG S c]:uT S (aJ c):=aex a
instance iA1 {c:Arg D α} [a:uT S c]:oq S 1 (a1 c):=RZ a
instance iAc {c:Arg D α} {r:zh D β} {k:Nat} [a:uT S c] [b:oq S k r]:oq S (k+1) (ak c r):=kJ a b
instance iBc {c:jQ D α} [a:dG S c]:uV S (aV c):=aql a
instance iB1 {c:Blk D α} [a:uV S c]:uU S 1 (b1 c):=aMd a
instance iBs {c:Blk D α} {r:J8 D β} {k:Nat} [a:uV S c] [b:uU S k r]:uU S (k+1) (ja c r):=ayT a b
instance iSp {a:(Nat->Sl D)->List It} {c:Qn D α} [b:yU S c]:sF S (bI a c):=aGd b
instance iSr {a:List It} {c:Qn D α} [b:yU S c]:sF S (shr a c):=aH6 b
theorem lJ {c:zh D α}{k n:Nat}[a:oq S k c](b:Nat.ble k n=true):R_ S (args c) 0 n:=aDp a b
theorem pz {c:zh D α}{b:J8 D β}{k m n:Nat}[e:oq S k c][d:uU S m b](a:Nat.ble k n=true):R_ S (kN c b) m n:=wE e d a
end
end Go.Vc
namespace Go.Vc
section
variable {A R:Type}
end
theorem kQ {D:Type}{P:Program}{S:Sh D}{f:FuncId}{c:xk D}{j:Iz D}{k:Nat}{d:List Nat}{e:Nat->c.A->Option Prop}{s:Nat->c.A->j.X}(h:∀n,gZ P S f (qj c j k d (e n) (s n)))
  (i:c.A->Option Prop) (l:c.A->j.X) (u:∀a,qW (i a)->∃n,qW (e n a)/\s n a=l a):gZ P S f (qj c j k d i l):=by
 refine⟨(h 0).enters,fun X N g w args t A p r o y v m b q=> ?_⟩;unfold qj at b;split at b
 ·cases b
 ·rename_i a C;injection b with b
  injection b with z b
  subst z;obtain⟨n,x,B⟩:=u a (F7.1 q);refine(h n).calls X N g w args t A ((e n a).map dq) r o y v m ?_ (F7.2 x);unfold qj
  grind
end Go.Vc
namespace Go.Vc
open Go.RowKit Go.ChangeShapes Go.WideShapes Go.ChangeAt Go.Joins
section
variable {H:Type}{enc:TypeId×Value->H}{P:Program}{W W':World}
theorem IU (i:laidOutB P=true)(j:Below W.heap.size W W'):∀{c:List TypeId} {g:List Value} {a:List (DataW H)} {e:List MemPlace},(c.all fun t=>P.readableRec t && decide (t < P.types.size))=true->
  DataW.TrodAll enc P W 0 (fun _=>true) true c g a e->DataW.TrodAll enc P W' 0 (fun b=>decide (b < W.heap.size)) true c g a e
 | [],g,a,e,_,h=>by
  obtain⟨rfl,rfl,rfl⟩:=trodAll_nil h;rfl
 | t::c,g,a,e,f,h=>by
  simp only[Qc7,kW,X6]at f;obtain⟨v,s,d,r,p,q,rfl,rfl,rfl,k,l⟩:=trodAll_cons h;have n:∀x∈p,x.block < W.heap.size:=by obtain⟨m,o⟩:=k;exact DataW.trod_lt m _ _ _ o
  exact trodAll_cons_mk (Below.trod i f.1.1 f.1.2 k j n) (IU i j f.2 l)
theorem aKi {k:IntKind}{n:Int}(h:(Lit.int k n).wf=true):CO k n:=by
 cases k<;>simp[Lit.wf,IntKind.min,IntKind.max,IntKind.signed,IntKind.bits]at h<;>simp only[CO]<;>omega
end
def NoN:Nat->Prop:=fun _=>False
section
variable {D α β:Type}{S:Sh D}{P:Program}
theorem ahT {w:World}{d:D}{a:Option Addr}{n cap:Nat}(u:n=S.len d)(f:n<=cap)(g:n<=9223372036854775807)(U:Nat->Nat->Value)
  (c:∀i j,i < S.len d->j < S.size d->∃b,a=some b/\w.cell? (b.add (i*S.size d+j))=some (U i j))
  (o:∀i j,i < S.len d->j < S.size d->Lf.plain (S.cell d i j) (U i j))
  (k:∀i j e,i < S.len d->j < S.size d->S.cell d i j= .dat e->dN S NoN w e (U i j)) (q:S.mp d=none):dN S NoN w d (.slice a n cap):=by
 intro w' p;subst u;refine Cf.mk d q a cap U f g (fun i j m l=> ?_) o (fun i j e m l s=>k i j e m l s w' p);obtain⟨b,t,r⟩:=c i j m l;refine⟨b,t,?_⟩;have v:(b.add (i*S.size d+j)).block < w.heap.size:=by
  rcases Nat.lt_or_ge (b.add (i*S.size d+j)).block w.heap.size with h | h
  ·exact h
  ·simp[World.cell?,Array.getElem?_eq_none h]at r
 rw[<-r];exact World.cell?_of_block (p _ v (fun h=>h))
def amT (P:Program)(S:Sh D)(t:TypeId)(c:jQ D α)(f:α->Prop):Prop:=
 ∀{H:Type} {enc:TypeId×Value->H} {w:World} {d:Nat} {b:Nat->Bool} {e:Bool} {g:Nat} {cs:List Value} {x:DataW H×List MemPlace},
  DataW.trod enc P w d b e g t cs=some x->∃a,bu S NoN w noG (c.enc a) cs/\f a
theorem gm {t:TypeId}{k:IntKind}(f:P.underlying t=some (.int k)):amT P S t (h_ k) (CO k):=by
 intro H enc w b a c e cs x h;obtain⟨n,rfl,_,d⟩:=DataW.trod_int f h;exact⟨n,⟨rfl,trivial⟩,aKi d⟩
theorem We {t:TypeId}(f:P.underlying t=some .bool):amT P S t aG fun _=>True:=by
 intro H enc w c a d e cs x h;obtain⟨b,rfl,_⟩:=DataW.trod_bool f h;exact⟨b,⟨rfl,trivial⟩,trivial⟩
theorem aq3 {t:TypeId}(f:P.underlying t=some .string):amT P S t cStr fun s=>s.length<=9223372036854775807:=by
 intro H enc w c b d e cs x h;obtain⟨s,rfl,_,g⟩:=DataW.trod_string f h;have a:s.data.toList.length<=9223372036854775807:=by
  unfold maxLen at g;simp_all
 refine⟨s.data.toList,⟨⟨?_,a⟩,trivial⟩,a⟩;cases s;simp
theorem bu.app {M:Nat->Prop}{w:World}{g:Nat->Option Value}:∀{b a:List (Lf D)} {d c:List Value},bu S M w g b d->bu S M w g a c->bu S M w g (b++a) (d++c)
 | [],_,[],_,_,k=>k
 | _::_,_,_::_,_,h,k=>⟨h.1,bu.app h.2 k⟩
theorem ahU {Q:Nat->α->Prop}:∀n,(∀i,i < n->∃a,Q i a)->∃l:List α,l.length=n/\∀(i:Nat) (h:i < l.length),Q i l[i]
 | 0,_=>⟨[],rfl,fun i h=>by simp at h⟩
 | n+1,h=>by
  obtain⟨l,b,e⟩:=ahU n fun i c=>h i au
  obtain⟨a,d⟩:=h n au;refine⟨l++[a],by simp[b],fun i c=> ?_⟩
  grind
theorem bu.getD' {M:Nat->Prop}{w:World}{g:Nat->Option Value}{a:List (Lf D)}{b:List Value}{j:Nat}(h:bu S M w g a b)(c:j < a.length):∃v,b[j]? =some v/\(a.getD j .any).Rel S M w g v:=by
 have:a[j]? =some (a.getD j .any):=by grind
 exact bu.get j h this
def aLW:TypeDesc->Bool
 | .int _ | .bool | .string | .slice _=>true
 | _=>false
def axc:Iz D:=shr [.slot 0 false [none]] (l1 aG)
end
end Go.Vc
