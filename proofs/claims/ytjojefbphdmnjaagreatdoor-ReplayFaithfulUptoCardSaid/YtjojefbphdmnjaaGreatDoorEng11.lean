/- Own engine: Vdo, Vdq, Vdp. -/
import Derived.Test.YtjojefbphdmnjaaGreatDoorEng10
import Derived.ProofKit
import Derived.OpenShut
import Derived.Lib.SmallJoins
set_option linter.unusedVariables false
set_option linter.unusedSimpArgs false
namespace Go.Vc
open Go.RowKit
universe u
def lk {a:Type u}:List (Nat×a)->Nat->Option a
 | [],_=>none
 | (k,v)::r,n=>if Nat.beq n k then some v else lk r n
theorem RN {a:Type u}:∀{l:List (Nat×a)} {k:Nat} {v:a},lk l k=some v->(k,v)∈l
 | [],_,_,h=>by simp[lk]at h
 | (b,c)::r,k,v,h=>by
  simp only[lk]at h;split at h
  ·simp_all
  ·exact Qb _ (RN h)
abbrev Str:=List UInt8
structure gK (D α:Type) where
 n:Nat
 enc:α->List (Lf D)
 dec:List (Lf D)->Option α
class bz {D α:Type} (S:Sh D) (c:gK D α):Prop where
 ok:∀xs a,c.dec xs=some a->Un S xs (c.enc a)
 len:∀a,(c.enc a).length=c.n
 data:∀a x,x∈c.enc a->x.iT=true
section
variable {D α β:Type}{S:Sh D}
theorem Un.app:∀{a b c d:List (Lf D)},Un S a b->Un S c d->Un S (a++c) (b++d)
 | [],[],_,_,_,k=>k
 | x::e,y::f,_,_,h,k=>⟨h.1,h.2.1,Un.app h.2.2 k⟩
theorem Un.length:∀{a b:List (Lf D)},Un S a b->a.length=b.length
 | [],[],_=>rfl
 | _::_,_::_,h=>by simp[Un.length h.2.2]
theorem Un.get:∀{a b:List (Lf D)},Un S a b->∀(i:Nat) (y:Lf D),b[i]? =some y->∃x,a[i]? =some x/\x.Le S y
 | [],[],_,i,y,h=>by simp at h
 | x::d,y::e,h,0,z,c=>by simp at c;subst c;exact⟨x,rfl,h.1⟩
 | x::d,y::e,h,i+1,z,c=>by simpa using Un.get h.2.2 i z (by simpa using c)
theorem Lf.Le.refl (x:Lf D):x.Le S x:= .inl rfl
theorem avm {x y:Lf D}(h:x.Le S y)(a:x.iT=true):y=x:=by
 rcases h with h | ⟨h,_⟩ | ⟨b,h,_⟩ | ⟨_,_,_,_,h,_⟩ | ⟨_,h,_⟩
 ·exact h.symm
 ·subst h;simp[Lf.iT]at a
 ·subst h;simp[Lf.iT]at a
 ·subst h;simp[Lf.iT]at a
 ·subst h;simp[Lf.iT]at a
def cInt (k:IntKind):gK D Int:=⟨1,fun n=>[.int k n],fun b=>match b with
 | [.int a n]=>if Yl k a then some n else none
 | _=>none⟩
def aj:gK D Bool:=⟨1,fun b=>[.bool b],fun a=>match a with
 | [.bool b]=>some b
 | [.val (.bool b)]=>some b
 | _=>none⟩
def cStr:gK D (List UInt8):=⟨1,fun s=>[.str s],fun a=>match a with
 | [.str s]=>some s
 | _=>none⟩
def nD (f:α->D)(b:D->Option α)(c:α):gK D α:=⟨1,fun a=>[.dat (f a)],fun g=>match g with
 | [.dat d]=>b d
 | [.val v]=>if yM v then some c else none
 | [.xt e]=>(match e with
  | .clip d=>b d
  | _=>none)
 | _=>none⟩
def aEg:gK D (Option xO):=⟨1,fun v=>[.Uo v],fun c=>match c with
 | [.Uo v]=>some v
 | [.xt (.ifd t d a)]=>(match KH a with
  | some b=>some (some ⟨t,d,b⟩)
  | none=>none)
 | _=>none⟩
def aiI:gK D Unit:=⟨0,fun _=>[],fun a=>match a with
 | []=>some ()
 | _=>none⟩
def bD (c:gK D α)(d:gK D β):gK D (α×β):=⟨c.n+d.n,fun p=>c.enc p.1++d.enc p.2,fun e=>match c.dec (e.take c.n),d.dec (e.drop c.n)with
 | some a,some b=>some (a,b)
 | _,_=>none⟩
def kK (c:gK D α)(f:α->β)(g:β->α):gK D β:=⟨c.n,fun b=>c.enc (g b),fun d=>match c.dec d with
 | some a=>some (f a)
 | none=>none⟩
def qW (c:gK D α)(d:α)(l:List α):Nat->Nat->List (Lf D)
 | _,0=>[]
 | i,n+1=>c.enc (l.getD i d)++qW c d l (i+1) n
def RF (c:gK D α):Nat->List (Lf D)->Option (List α)
 | 0,[]=>some []
 | 0,_=>none
 | n+1,b=>(match c.dec (b.take c.n),RF c n (b.drop c.n)with
  | some a,some l=>some (a::l)
  | _,_=>none)
def ET (n:Nat)(d:α)(c:gK D α):gK D (List α):=⟨n*c.n,fun l=>qW c d l 0 n,RF c n⟩
theorem PX {c:gK D α}(a:bz S c)(d:α)(l:List α):∀(n i:Nat),(qW c d l i n).length=n*c.n
 | 0,i=>by simp[qW]
 | n+1,i=>by rw[qW,kG,a.len,PX a d l n (i+1),Nat.succ_mul];omega
theorem LU {c:gK D α}(a:bz S c)(d:α)(l:List α):∀(n i:Nat) (x:Lf D),x∈qW c d l i n->x.iT=true
 | 0,i,x,h=>by simp[qW]at h
 | n+1,i,x,h=>by
  simp only[qW,xN]at h;rcases h with h | h
  ·exact a.data _ _ h
  ·exact LU a d l n (i+1) x h
theorem Hu (c:gK D α)(d a:α)(l:List α):∀(n i:Nat),qW c d (a::l) (i+1) n=qW c d l i n
 | 0,i=>rfl
 | n+1,i=>by simp only[qW,Qcz,Hu c d a l n (i+1)]
theorem WT {c:gK D α}(e:bz S c)(d:α):∀(n:Nat) (b:List (Lf D)) (l:List α),RF c n b=some l->Un S b (qW c d l 0 n)
 | 0,b,l,h=>by
  cases b with
  | nil=>trivial
  | cons x b=>simp[RF]at h
 | n+1,b,l,h=>by
  unfold RF at h;split at h
  ·rename_i a i g f;injection h with h
   subst h;have:=Un.app (e.ok _ _ g) (WT e d n _ _ f);rw[Qcn]at this;simp only[qW,Qc0]
   grind [Hu]
  ·cases h
theorem aze {n:Nat}{d:α}{c:gK D α}(a:bz S c):bz S (ET n d c):=
 ⟨fun b l h=>WT a d n b l h,fun l=>PX a d l n 0,fun l x e=>LU a d l n 0 x e⟩
theorem lG (k:IntKind):bz S (cInt (D:=D) k):=by
 refine⟨fun d a h=> ?_,fun _=>rfl,fun a x c=> ?_⟩
 ·simp only[cInt]at h;split at h
  ·split at h
   ·rename_i b;injection h with h
    subst h;simp only[Yl,Qb6]at b;subst b;exact⟨.inl rfl,rfl,trivial⟩
   ·cases h
  ·cases h
 ·simp[cInt]at c;subst c;rfl
theorem GI:bz S (aj (D:=D)):=by
 refine⟨fun c a h=> ?_,fun _=>rfl,fun a x b=> ?_⟩
 ·simp only[aj]at h;split at h
  ·injection h with h;subst h;exact⟨.inl rfl,rfl,trivial⟩
  ·injection h with h;subst h;exact⟨.inr (.inr (.inl ⟨_,rfl,rfl⟩)),rfl,trivial⟩
  ·cases h
 ·simp[aj]at b;subst b;rfl
theorem Yi:bz S (cStr (D:=D)):=by
 refine⟨fun c a h=> ?_,fun _=>rfl,fun a x b=> ?_⟩
 ·simp only[cStr]at h;split at h
  ·injection h with h;subst h;exact⟨.inl rfl,rfl,trivial⟩
  ·cases h
 ·simp[cStr]at b;subst b;rfl
theorem axy:bz S (aEg (D:=D)):=by
 refine⟨fun e a h=> ?_,fun _=>rfl,fun a x b=> ?_⟩
 ·simp only[aEg]at h;split at h
  ·injection h with h;subst h;exact⟨.inl rfl,rfl,trivial⟩
  ·split at h
   ·rename_i d c;injection h with h;subst h;exact⟨.inr (.inr (.inr (.inl ⟨_,_,_,_,rfl,rfl,c⟩))),rfl,trivial⟩
   ·cases h
  ·cases h
 ·simp[aEg]at b;subst b;rfl
theorem eY {b:α->D}{e:D->Option α}{c:α}(g:∀d a,e d=some a->d=b a)(j:S.len (b c)=0)(i:S.mp (b c)=none:=by rfl):bz S (nD b e c):=by
 refine⟨fun l a h=> ?_,fun _=>rfl,fun a x f=> ?_⟩
 ·simp only[nD]at h;split at h
  ·rw[g _ _ h];exact⟨.inl rfl,rfl,trivial⟩
  ·split at h
   ·rename_i k;injection h with h
    subst h;rw[abI k];exact⟨.inr (.inl ⟨rfl,_,rfl,j,i⟩),rfl,trivial⟩
   ·cases h
  ·split at h
   ·rw[g _ _ h];exact⟨.inr (.inr (.inr (.inr ⟨_,rfl,rfl⟩))),rfl,trivial⟩
   ·cases h
  ·cases h
 ·simp[nD]at f;subst f;rfl
theorem Ib:bz S (aiI (D:=D)):=by
 refine⟨fun c a h=> ?_,fun _=>rfl,fun a x b=> ?_⟩
 ·simp only[aiI]at h;split at h
  ·trivial
  ·cases h
 ·simp[aiI]at b
theorem arv {c:gK D α}{d:gK D β}(e:bz S c)(f:bz S d):bz S (bD c d):=by
 refine⟨fun k a h=> ?_,fun a=>by simp[bD,e.len,f.len],fun a x j=> ?_⟩
 ·simp only[bD]at h;split at h
  ·rename_i a b i g;injection h with h
   subst h;have:=Un.app (e.ok _ _ i) (f.ok _ _ g);rwa [Qcn]at this
  ·cases h
 ·simp only[bD,xN]at j
  grind [bz.data]
theorem dL {c:gK D α}{f:α->β}{g:β->α}(b:bz S c)(i:∀a,g (f a)=a):bz S (kK c f g):=by
 refine⟨fun k a h=> ?_,fun a=>b.len _,fun a x e=>b.data _ _ e⟩;simp only[kK]at h;split at h
 ·rename_i j d;injection h with h
  subst h;simp only[kK,i];exact b.ok _ _ d
 ·cases h
structure J9 (D α:Type) where
 enc:α->List (List (Lf D))
 dec:List (List (Lf D))->Option α
class uV (S:Sh D) (c:J9 D α):Prop where
 ok:∀xs a,c.dec xs=some a->adY S xs (c.enc a)
def l0:J9 D Unit:=⟨fun _=>[],fun a=>match a with
 | []=>some ()
 | _=>none⟩
def l1 (c:gK D α):J9 D α:=⟨fun a=>[c.enc a],fun b=>match b with
 | [x]=>c.dec x
 | _=>none⟩
def lCons (c:gK D α)(r:J9 D β):J9 D (α×β):=⟨fun p=>c.enc p.1::r.enc p.2,fun d=>match d with
 | x::d=>(match c.dec x,r.dec d with
  | some a,some b=>some (a,b)
  | _,_=>none)
 | _=>none⟩
theorem aFS:uV S (l0 (D:=D)):=⟨fun b a h=>by
 simp only[l0]at h;split at h
 ·trivial
 ·cases h⟩
theorem aFk {c:gK D α}(b:bz S c):uV S (l1 c):=⟨fun d a h=>by
 simp only[l1]at h;split at h
 ·exact⟨b.ok _ _ h,trivial⟩
 ·cases h⟩
theorem aoc {c:gK D α}{r:J9 D β}(e:bz S c)(g:uV S r):uV S (lCons c r):=⟨fun i a h=>by
 simp only[lCons]at h;split at h
 ·split at h
  ·rename_i a b f d;injection h with h
   subst h;exact⟨e.ok _ _ f,g.ok _ _ d⟩
  ·cases h
 ·cases h⟩
def aT (a:(Nat->Sl D)->List It)(c:J9 D α):Shp D:=⟨α,a,c.enc,c.dec⟩
def shr (a:List It)(c:J9 D α):Shp D:=⟨α,fun _=>a,c.enc,c.dec⟩
theorem aEd {b:(Nat->Sl D)->List It}{c:J9 D α}(a:uV S c):ShpOk S (aT b c):=⟨a.ok⟩
theorem aCz {b:List It}{c:J9 D α}(a:uV S c):ShpOk S (shr b c):=⟨a.ok⟩
structure vH (D α:Type) where
 enc:α->List (Sl D)
 dec:List (Sl D)->Option α
class lu (S:Sh D) (k:outParam Nat) (c:vH D α):Prop where
 ok:∀xs a,c.dec xs=some a->Xe S xs (c.enc a)
 len:∀a,(c.enc a).length=k
structure E_ (D α:Type) where
 enc:α->List (Bk D)
 dec:List (Bk D)->Option α
class qG (S:Sh D) (k:outParam Nat) (c:E_ D α):Prop where
 ok:∀xs a,c.dec xs=some a->DY S xs (c.enc a)
 len:∀a,(c.enc a).length=k
structure Arg (D α:Type) where
 enc:α->Sv D
 dec:Sv D->Option α
class qF (S:Sh D) (c:Arg D α):Prop where
 ok:∀x a,c.dec x=some a->auU S x (c.enc a)
def lf0:List (Lf D)->Lf D
 | [x]=>x
 | _=> .any
def aLf (c:gK D α):Arg D α:=⟨fun a=> .lf (lf0 (c.enc a)),fun x=>match x with
 | .lf x=>c.dec [x]
 | _=>none⟩
def aAgg (c:gK D α):Arg D α:=⟨fun a=> .agg (c.enc a),fun x=>match x with
 | .agg b=>c.dec b
 | _=>none⟩
def fG (l:Nat):Arg D Unit:=⟨fun _=> .lf (.ptr l 0),fun x=>match x with
 | .lf (.ptr a o)=>if Nat.beq l a && Nat.beq o 0 then some ()else none
 | _=>none⟩
def lV (l:Nat):Arg D Unit:=⟨fun _=> .lf (.own l),fun x=>match x with
 | .lf (.own a)=>if Nat.beq l a then some ()else none
 | _=>none⟩
def aHF (l b:Nat):Arg D Nat:=⟨fun i=> .lf (.opt l i 0 b),fun x=>match x with
 | .lf (.opt c i j a)=>if Nat.beq l c && Nat.beq j 0 && Nat.beq b a then some i else none
 | _=>none⟩
def Lh:List Nat->List Nat->Bool
 | [],[]=>true
 | x::b,y::a=>Nat.beq x y && Lh b a
 | _,_=>false
theorem Hg:∀{b a:List Nat},Lh b a=true->b=a
 | [],[],_=>rfl
 | x::b,y::a,h=>by
  simp only[Lh,iW]at h;rw[Qa h.1,Hg h.2]
 | [],_::_,h=>by simp[Lh]at h
 | _::_,[],h=>by simp[Lh]at h
def ja (f:Nat)(a:List Nat):Arg D Unit:=⟨fun _=> .lf (.fn f a),fun x=>match x with
 | .lf (.fn c b)=>if Nat.beq f c && Lh a b then some ()else none
 | _=>none⟩
def aCA (f:Nat)(a:List Nat):Arg D Unit:=⟨fun _=> .agg [.fn f a],fun x=>match x with
 | .agg [.fn c b]=>if Nat.beq f c && Lh a b then some ()else none
 | _=>none⟩
theorem mX {c:gK D α}(d:bz S c):qF S (aLf c):=⟨fun x a h=>by
 simp only[aLf]at h⊢;split at h
 ·have:=d.ok _ _ h;generalize c.enc a=b at this;cases b with
  | nil=>exact this.elim
  | cons y b=>
   cases b with
   | cons _ _=>exact this.2.2.elim
   | nil=>exact this.1
 ·cases h⟩
theorem Un.les:∀{a b:List (Lf D)},Un S a b->IC S a b
 | [],[],_=>trivial
 | _::_,_::_,h=>⟨h.1,Un.les h.2.2⟩
theorem ZG {c:gK D α}(b:bz S c):qF S (aAgg c):=⟨fun x a h=>by
 simp only[aAgg]at h⊢;split at h
 ·exact(b.ok _ _ h).les
 ·cases h⟩
theorem v_ (l:Nat):qF S (fG (D:=D) l):=⟨fun x a h=>by
 simp only[fG]at h⊢;split at h
 ·split at h
  ·rename_i b;simp only[iW]at b;rw[<-Qa b.1,Qa b.2];exact .inl rfl
  ·cases h
 ·cases h⟩
theorem axj (l:Nat):qF S (lV (D:=D) l):=⟨fun x a h=>by
 simp only[lV]at h⊢;split at h
 ·split at h
  ·rename_i b;rw[<-Qa b];exact .inl rfl
  ·cases h
 ·cases h⟩
theorem ax9 (l c:Nat):qF S (aHF (D:=D) l c):=⟨fun x a h=>by
 simp only[aHF]at h⊢;split at h
 ·split at h
  ·rename_i b;simp only[iW]at b;injection h with h
   subst h;rw[<-Qa b.1.1,Qa b.1.2,<-Qa b.2];exact .inl rfl
  ·cases h
 ·cases h⟩
def aHS (l b:Nat):Arg D Unit:=⟨fun _=> .lf (.opt l 0 0 b),fun x=>match x with
 | .lf (.opt c i j a)=>if Nat.beq l c && (Nat.beq i 0 && (Nat.beq j 0 && Nat.beq b a))then some ()else none
 | _=>none⟩
theorem avO (l c:Nat):qF S (aHS (D:=D) l c):=⟨fun x a h=>by
 simp only[aHS]at h⊢;split at h
 ·split at h
  ·rename_i b;simp only[iW]at b;rw[<-Qa b.1,Qa b.2.1,Qa b.2.2.1,<-Qa b.2.2.2];exact .inl rfl
  ·cases h
 ·cases h⟩
theorem aDW (f:Nat)(c:List Nat):qF S (ja (D:=D) f c):=⟨fun x a h=>by
 simp only[ja]at h⊢;split at h
 ·split at h
  ·rename_i b;simp only[iW]at b;rw[<-Qa b.1,<-Hg b.2];exact .inl rfl
  ·cases h
 ·cases h⟩
theorem axU (f:Nat)(c:List Nat):qF S (aCA (D:=D) f c):=⟨fun x a h=>by
 simp only[aCA]at h⊢;split at h
 ·split at h
  ·rename_i b;simp only[iW]at b;rw[<-Qa b.1,<-Hg b.2];exact⟨.inl rfl,trivial⟩
  ·cases h
 ·cases h⟩
def a0:vH D Unit:=⟨fun _=>[],fun a=>match a with
 | []=>some ()
 | _=>none⟩
def a1 (c:Arg D α):vH D α:=⟨fun a=>[.one (c.enc a)],fun b=>match b with
 | [.one x]=>c.dec x
 | _=>none⟩
def aCons (c:Arg D α)(r:vH D β):vH D (α×β):=⟨fun p=> .one (c.enc p.1)::r.enc p.2,fun d=>match d with
 | .one x::d=>(match c.dec x,r.dec d with
  | some a,some b=>some (a,b)
  | _,_=>none)
 | _=>none⟩
theorem aHJ:lu S 0 (a0 (D:=D)):=by
 refine⟨fun b a h=> ?_,fun _=>rfl⟩;simp only[a0]at h;split at h
 ·trivial
 ·cases h
theorem KD {c:Arg D α}(b:qF S c):lu S 1 (a1 c):=by
 refine⟨fun d a h=> ?_,fun _=>rfl⟩;simp only[a1]at h;split at h
 ·exact⟨b.ok _ _ h,trivial⟩
 ·cases h
theorem iH {c:Arg D α}{r:vH D β}{k:Nat}(f:qF S c)(d:lu S k r):lu S (k+1) (aCons c r):=by
 refine⟨fun i a h=> ?_,fun a=>by simp[aCons,d.len]⟩;simp only[aCons]at h;split at h
 ·split at h
  ·rename_i a b g e;injection h with h
   subst h;exact⟨f.ok _ _ g,d.ok _ _ e⟩
  ·cases h
 ·cases h
structure Blk (D α:Type) where
 enc:α->Bk D
 dec:Bk D->Option α
class sH (S:Sh D) (c:Blk D α):Prop where
 ok:∀x a,c.dec x=some a->UQ S x (c.enc a)
def aF (c:gK D α):Blk D α:=⟨fun a=> .cells (c.enc a),fun x=>match x with
 | .cells b=>c.dec b
 | _=>none⟩
def jJ (e:TypeId)(b:α->D)(c:D->Option α):Blk D α:=⟨fun a=> .row e (b a),fun x=>match x with
 | .row f d=>if Nat.beq e f then c d else none
 | _=>none⟩
theorem am6 {c:gK D α}(b:bz S c):sH S (aF c):=⟨fun x a h=>by
 simp only[aF]at h⊢;split at h
 ·exact(b.ok _ _ h).les
 ·cases h⟩
theorem Gs {e:TypeId}{b:α->D}{c:D->Option α}(g:∀d a,c d=some a->d=b a):sH S (jJ e b c):=⟨fun x a h=>by
 simp only[jJ]at h⊢;split at h
 ·split at h
  ·rename_i f;exact⟨(Qa f).symm,g _ _ h⟩
  ·cases h
 ·cases h⟩
def b1 (c:Blk D α):E_ D α:=⟨fun a=>[c.enc a],fun b=>match b with
 | [x]=>c.dec x
 | _=>none⟩
def eF (c:Blk D α)(r:E_ D β):E_ D (α×β):=⟨fun p=>c.enc p.1::r.enc p.2,fun d=>match d with
 | x::d=>(match c.dec x,r.dec d with
  | some a,some b=>some (a,b)
  | _,_=>none)
 | _=>none⟩
theorem aF0 {c:Blk D α}(b:sH S c):qG S 1 (b1 c):=by
 refine⟨fun d a h=> ?_,fun _=>rfl⟩;simp only[b1]at h;split at h
 ·exact⟨b.ok _ _ h,trivial⟩
 ·cases h
theorem asu {c:Blk D α}{r:E_ D β}{k:Nat}(f:sH S c)(d:qG S k r):qG S (k+1) (eF c r):=by
 refine⟨fun i a h=> ?_,fun a=>by simp[eF,d.len]⟩;simp only[eF]at h;split at h
 ·split at h
  ·rename_i a b g e;injection h with h
   subst h;exact⟨f.ok _ _ g,d.ok _ _ e⟩
  ·cases h
 ·cases h
def wz:List (Option TypeId)->List (Lf D)->Nat->List (Bk D)->Option (List (Lf D))
 | [],[],_,[]=>some []
 | none::f,x::b,n,a=>(match wz f b n a with
  | some c=>some (x::c)
  | none=>none)
 | some e::f, .own k::b,n, .row g d::a=>if Nat.beq k n && Nat.beq e g then(match wz f b (n+1) a with
  | some c=>some (.dat d::c)
  | none=>none)else none
 | _,_,_,_=>none
def UO (n:Nat)(d:List (Option TypeId))(c:gK D α):E_ D α:=⟨fun a=> .cells (jW d (c.enc a) n).1::(jW d (c.enc a) n).2.1.map (·.2),fun e=>match e with
 | .cells f::b=>(match wz d f n b with
  | some g=>c.dec g
  | none=>none)
 | _=>none⟩
theorem Pe:∀(f:List (Option TypeId)) (i g b:List (Lf D)) (n:Nat) (a:List (Bk D)),wz f i n a=some g->Un S g b->IC S i (jW f b n).1/\DY S a ((jW f b n).2.1.map (·.2))
 | [],[],g,b,n,a,h,c=>by
  cases a with
  | cons _ _=>simp[wz]at h
  | nil=>
   simp only[wz,Og]at h;subst h;cases b with
   | cons _ _=>exact c.elim
   | nil=>exact⟨trivial,trivial⟩
 | [],x::i,g,b,n,a,h,c=>by simp[wz]at h
 | none::f,[],g,b,n,a,h,c=>by simp[wz]at h
 | none::f,x::i,g,b,n,a,h,c=>by
  simp only[wz]at h;split at h
  ·rename_i j o;injection h with h
   subst h;cases b with
   | nil=>exact c.elim
   | cons z b=>
    obtain⟨p,m⟩:=Pe f i j b n a o c.2.2;exact⟨⟨c.1,p⟩,m⟩
  ·cases h
 | some e::f,[],g,b,n,a,h,c=>by simp[wz]at h
 | some e::f,x::i,g,b,n,a,h,c=>by
  cases a with
  | nil=>cases x<;>simp[wz]at h
  | cons r a=>
   cases x with
   | own k=>
    cases r with
    | row t d=>
     simp only[wz]at h;split at h
     ·rename_i l;simp only[iW]at l;have s:=Qa l.1;have q:=Qa l.2;subst s q;split at h
      ·rename_i j o;injection h with h
       subst h;cases b with
       | nil=>exact c.elim
       | cons z b=>
        have:=yR c.1;subst this;obtain⟨p,m⟩:=Pe f i j b (k+1) a o c.2.2;exact⟨⟨.inl rfl,p⟩,⟨rfl,rfl⟩,m⟩
      ·cases h
     ·cases h
    | _=>simp[wz]at h
   | _=>simp[wz]at h
theorem zg {n k:Nat}{b:List (Option TypeId)}{c:gK D α}(d:bz S c)(e:∀a,(jW b (c.enc a) n).2.1.length=k):qG S (k+1) (UO n b c):=by
 refine⟨fun i a h=> ?_,fun a=>by simp[UO,e]⟩;simp only[UO]at h;split at h
 ·split at h
  ·rename_i g f;exact Pe b _ g _ n _ f (d.ok _ _ h)
  ·cases h
 ·cases h
def args (c:vH D α):sU D:=⟨α,fun a=>(c.enc a,[]),fun d b=>match b with
 | []=>c.dec d
 | _=>none⟩
def iM (c:vH D α)(b:E_ D β):sU D:=⟨α×β,fun p=>(c.enc p.1,b.enc p.2),fun e d=>match c.dec e,b.dec d with
 | some a,some b=>some (a,b)
 | _,_=>none⟩
theorem ayh {c:vH D α}{k n:Nat}(b:lu S k c)(d:Nat.ble k n=true):MF S (args c) 0 n:=by
 refine⟨fun f e a h=> ?_,fun _=>rfl,fun(a:α)=>(b.len a).symm▸Qa0 d⟩;simp only[args]at h;split at h
 ·exact⟨b.ok _ _ h,trivial⟩
 ·cases h
theorem rX {c:vH D α}{b:E_ D β}{k m n:Nat}(e:lu S k c)(d:qG S m b)(i:Nat.ble k n=true):MF S (iM c b) m n:=by
 refine⟨fun l j a h=> ?_,fun a=>d.len _,fun(a:α×β)=>(e.len a.1).symm▸Qa0 i⟩;simp only[iM]at h;split at h
 ·rename_i a b g f;injection h with h
  subst h;exact⟨e.ok _ _ g,d.ok _ _ f⟩
 ·cases h
structure El (D:Type):Type 1 where
 α:Type
 MV:gK D α
 dflt:α
 inj:List α->D
 J_:D->Option (List α)
def B_ (c:gK D α):Nat->List (Lf D)->Option (List α)
 | 0,[]=>some []
 | 0,_::_=>none
 | n+1,cs=>(match c.dec (cs.take c.n),B_ c n (cs.drop c.n)with
  | some a,some l=>some (a::l)
  | _,_=>none)
abbrev Vw (D:Type):=(E:El D)×List E.α
def Vw.size (p:Vw D):Nat:=p.1.MV.n
def Vw.len (p:Vw D):Nat:=p.2.length
def Vw.cell (p:Vw D)(i j:Nat):Lf D:=(p.1.MV.enc (p.2.getD i p.1.dflt)).getD j .any
def Vw.set (p:Vw D)(i j:Nat)(b:List (Lf D)):Option D:=match p.1.MV.dec (putAt (p.1.MV.enc (p.2.getD i p.1.dflt)) j b)with
 | some a=>some (p.1.inj (p.2.set i a))
 | none=>none
def Vw.cat (p:Vw D)(d:D):Option D:=match p.1.J_ d with
 | some l=>some (p.1.inj (p.2++l))
 | none=>none
def Vw.sub (p:Vw D)(i j:Nat):Option D:=some (p.1.inj ((p.2.take j).drop i))
def rD (view:D->Vw D)(mQ:TypeId->Option (El D))(MW:Nat->Option D:=fun _=>none)(txt:TypeId->List UInt8->Option D:=fun _ _=>none)(yK:D->Option (Mp D):=fun _=>none)(DC:TypeId->Option D:=fun _=>none):Sh D where
 mp:=yK
 avd:=DC
 MW:=MW
 text:=txt
 size d:=(view d).size
 len d:=(view d).len
 cell d i j:=(view d).cell i j
 make e n cs:=match mQ e with
  | none=>none
  | some E=>(match B_ E.MV n cs with
   | some l=>some (E.inj l)
   | none=>none)
 zero e n zs:=match mQ e with
  | none=>none
  | some E=>(match E.MV.dec zs with
   | some z=>some (E.inj (List.replicate n z))
   | none=>none)
 set d i j xs:=(view d).set i j xs
 cat d1 d2:=(view d1).cat d2
 sub d i j:=match yK d with
  | none=>(view d).sub i j
  | some _=>none
def BG (s:List UInt8):List Int:=s.map fun b=>(b.toNat:Int)
theorem arS (s:List UInt8)(i:Nat):(BG s).getD i 0=((s.getD i 0).toNat:Int):=by
 unfold BG;by_cases h:i < s.length
 ·simp[List.getD,Qb5,h]
 ·simp[List.getD,Qb5,List.getElem?_eq_none (by omega:s.length<=i)]
abbrev ae8 (n:Nat)(x:Int):List Int:=List.replicate n x
def txU (l:List Int):List UInt8:=(List.range l.length).map fun i=>UInt8.ofNat (l.getD i 0).toNat
theorem txU_eq (l:List Int):txU l=l.map fun n=>UInt8.ofNat n.toNat:=by
 unfold txU;refine List.ext_getElem? fun i=> ?_
 grind
@[simp] theorem aIT:txU []=[]:=rfl
theorem aht (s:List UInt8):txU (BG s)=s:=by
 rw[txU_eq];unfold BG;rw[Qcb];conv=>rhs;rw[<-Qdq s]
 exact Qbq fun b _=>by simp
def wV (l:List Int)(i:Nat):Bool:=decide (0<=l.getD i 0) && decide (l.getD i 0 < 256)
theorem Qs {a b:List Int}(d:∀i,wV a i=true)(c:∀i,wV b i=true)(i:Nat):wV (a++b) i=true:=by
 unfold wV at*;by_cases h:i < a.length
 ·have:=d i
  grind
 ·have:=c (i - a.length)
  grind
theorem uT (s:List UInt8)(i:Nat):wV (BG s) i=true:=by
 unfold wV;rw[arS];have:=(s.getD i 0).toNat_lt
 grind
theorem txU_len (l:List Int):(txU l).length=l.length:=by simp[txU_eq]
theorem ng (s:List UInt8):(BG s).length=s.length:=by simp[BG]
theorem mW {f:Nat->Bool}(h:∀i,f i=true):∀n,zy f n=true
 | 0=>rfl
 | n+1=>by simp[zy,h n,mW h n]
structure auW (S:Sh D)(view:D->Vw D)(mQ:TypeId->Option (El D)):Prop where
 el:∀e E,mQ e=some E->∀l,view (E.inj l)=⟨E,l⟩
 vw:∀d l,view ((view d).1.inj l)=⟨(view d).1,l⟩
 J_:∀d d2 l2,(view d).1.J_ d2=some l2->view d2=⟨(view d).1,l2⟩
 MV:∀d,bz S (view d).1.MV
theorem Gf {c:gK D α}(e:bz S c):∀(n:Nat) (cs:List (Lf D)) (l:List α),B_ c n cs=some l->l.length=n/\cs.length=n*c.n/\∀(i j:Nat) (b:α),i < n->j < c.n->∃x,cs[i*c.n+j]? =some x/\x.Le S ((c.enc (l.getD i b)).getD j .any)
 | 0,[],l,h=>by
  injection h with h
  grind
 | 0,_::_,l,h=>by simp[B_]at h
 | n+1,cs,l,h=>by
  unfold B_ at h;split at h
  ·rename_i a p t q;injection h with h
   subst h;obtain⟨m,w,k⟩:=Gf e n _ p q;have d:=e.ok _ _ t;have f:=d.length;rw[e.len]at f;have r:c.n<=cs.length:=by grind
   refine⟨by simp[m],?_,fun i j b v s=> ?_⟩
   ·grind
   ·cases i with
    | zero=>
     have o:(c.enc a)[j]? =some ((c.enc a).getD j .any):=by
      grind [bz.len]
     obtain⟨x,u,g⟩:=d.get j _ o
     grind
    | succ i=>
     obtain⟨x,u,g⟩:=k i j b ah s
     grind
  ·cases h
theorem getD_some {l:List α}{i:Nat}{d:α}(h:i < l.length):l.getD i d=l[i]:=by grind
structure auS (S:Sh D)(view:D->Vw D)(mQ:TypeId->Option (El D))(gl:Nat->Option D)(txt:TypeId->List UInt8->Option D)(yK:D->Option (Mp D))(DC:TypeId->Option D):Prop where
 inj:∀d l,yK ((view d).1.inj l)=none
 el:∀e E,mQ e=some E->∀l,yK (E.inj l)=none
 txt:∀e s d,txt e s=some d->yK d=none
 MW:∀i d,gl i=some d->yK d=none
 size:∀d m,yK d=some m->(view d).len=0/\(view d).size=0/\azl S m
 new:∀t d,DC t=some d->∃m,yK d=some m/\m.kvs=[]
theorem asc {view:D->Vw D}{mQ:TypeId->Option (El D)}{g:Nat->Option D}{f:TypeId->List UInt8->Option D}{yK:D->Option (Mp D)}{DC:TypeId->Option D}(h:auW (rD view mQ g f yK DC) view mQ)
  (Y:∀e s d,f e s=some d->(rD view mQ g f yK DC).size d=1/\(rD view mQ g f yK DC).len d=s.length/\∀i,i < s.length->(rD view mQ g f yK DC).cell d i 0= .int .u8 (s.getD i 0).toNat) (G:auS (rD view mQ g f yK DC) view mQ g f yK DC):ShOk (rD view mQ g f yK DC):=by
 have htx:∀e s d,(rD view mQ g f yK DC).text e s=some d->(rD view mQ g f yK DC).size d=1/\(rD view mQ g f yK DC).len d=s.length/\∀i,i < s.length->(rD view mQ g f yK DC).cell d i 0= .int .u8 (s.getD i 0).toNat:=Y;clear Y;have y:∀d,(rD view mQ g f yK DC).size d=(view d).size:=fun _=>rfl
 have p:∀d,(rD view mQ g f yK DC).len d=(view d).len:=fun _=>rfl
 have B:∀d i j,(rD view mQ g f yK DC).cell d i j=(view d).cell i j:=fun _ _ _=>rfl
 have C:∀d i j F,(rD view mQ g f yK DC).set d i j F=(view d).set i j F:=fun _ _ _ _=>rfl
 have Dy:∀d A,(rD view mQ g f yK DC).cat d A=(view d).cat A:=fun _ _=>rfl
 have N:∀d i j A,(rD view mQ g f yK DC).sub d i j=some A->(view d).sub i j=some A/\yK d=none:=by
  intro d i j A J;simp only[rD]at J
  grind
 have o:∀d,(rD view mQ g f yK DC).mp d=yK d:=fun _=>rfl
 have hnw:∀t,(rD view mQ g f yK DC).avd t=DC t:=fun _=>rfl
 have hgl:∀t,(rD view mQ g f yK DC).MW t=g t:=fun _=>rfl
 have htt:∀e s,(rD view mQ g f yK DC).text e s=f e s:=fun _ _=>rfl
 have T:∀e n cs d,(rD view mQ g f yK DC).make e n cs=some d->∃E l,mQ e=some E/\B_ E.MV n cs=some l/\E.inj l=d:=by
  intro e n cs d b;simp only[rD]at b
  grind
 have U:∀e n H d,(rD view mQ g f yK DC).zero e n H=some d->∃E z,mQ e=some E/\E.MV.dec H=some z/\E.inj (List.replicate n z)=d:=by
  intro e n H d b;simp only[rD]at b
  grind
 generalize rD view mQ g f yK DC=S at*;refine⟨fun e n cs d b=> ?_,fun d i j u w=> ?_,fun e n H d b=> ?_,fun d i j F A b u=> ?_,fun d1 d2 d b=> ?_,fun d i j A b hij w=> ?_,htx,
  fun e n cs d b=> ?_,fun e n H d b=> ?_,fun d i j F A b _=> ?_,fun d1 d2 d b=> ?_,fun d i j A b=> ?_,fun e s d b=> ?_,fun d m b=> ?_,fun t d J=> ?_,fun i d J=> ?_⟩
 ·obtain⟨E,l,K,X,rfl⟩:=T e n cs d b;have v:=h.el e E K l;have q:=h.MV (E.inj l);rw[v]at q;obtain⟨q1,q2,q3⟩:=Gf q n cs l X;simp only[y,p,B,v];exact⟨q1,q2,fun i j u w=>q3 i j _ u w⟩
 ·rw[B];unfold Vw.cell;rw[y]at w;have M:=h.MV d;have hlt:j < ((view d).1.MV.enc ((view d).2.getD i (view d).1.dflt)).length:=by rw[M.len];exact w
  grind [bz.data,getD_some]
 ·obtain⟨E,z,K,hz,rfl⟩:=U e n H d b;have v:=h.el e E K (List.replicate n z);have q:=h.MV (E.inj (List.replicate n z));rw[v]at q;have q:bz S E.MV:=q;have I:=q.ok _ _ hz;simp only[y,p,B,v];refine⟨by simp[Vw.len],by rw[I.length,q.len];rfl,fun i j u w=> ?_⟩;have w:j < E.MV.n:=w;have V:(List.replicate n z).getD i E.dflt=z:=by
   grind
  show ∃x,H[j]? =some x/\x.Le S ((E.MV.enc ((List.replicate n z).getD i E.dflt)).getD j .any)
  rw[V];exact I.get j _ (by
   grind [bz.len,getD_some])
 ·rw[C]at b;unfold Vw.set at b;split at b
  ·rename_i a ha;injection b with b
   subst b;have M:=h.MV d;have v:=h.vw d ((view d).2.set i a);have I:=M.ok _ _ ha;rw[p]at u;have u:i < (view d).2.length:=u;simp only[y,p,B,v];refine⟨rfl,by simp[Vw.len],fun O r R Q=> ?_⟩;simp only[Vw.cell];have Q:r < (view d).1.MV.n:=Q;have R:O < (view d).2.length:=R;have hla:r < ((view d).1.MV.enc a).length:=by rw[M.len];exact Q
   have hl0:((view d).1.MV.enc ((view d).2.getD i (view d).1.dflt)).length=(view d).1.MV.n:=M.len _;have L:=I.length;rw[M.len]at L;by_cases hii:O=i
   ·subst hii;have C:((view d).2.set O a).getD O (view d).1.dflt=a:=by grind
    rw[C];obtain⟨x,W,hxl⟩:=I.get r _ (show((view d).1.MV.enc a)[r]? =some (((view d).1.MV.enc a).getD r .any) by grind);unfold putAt at W L;generalize hcs:(view d).1.MV.enc ((view d).2.getD O (view d).1.dflt)=cs at W L hl0;have hput:∀x,(cs.take j++(F++cs.drop (j+F.length)))[r]? =some x->(j<=r/\r < j+F.length->F[r - j]? =some x)/\(¬(j<=r/\r < j+F.length)->cs[r]? =some x):=by
     intro x W;simp only[kG,zU,Qa9]at L;by_cases hjn:j<=cs.length
     ·grind
     grind
    grind [bz.data,getD_some,avm]
   grind
  ·cases b
 ·rw[Dy]at b;unfold Vw.cat at b;split at b
  ·rename_i l2 aa;injection b with b
   subst b;have v:=h.vw d1 ((view d1).2++l2);have Z:=h.J_ d1 d2 l2 aa;simp only[y,p,B,v,Z];refine⟨rfl,rfl,by simp[Vw.len],fun i j u=> ?_,fun i j u=> ?_⟩<;>simp only[Vw.cell,Vw.len]
   ·have u:i < (view d1).2.length:=u
    grind
   grind
  ·cases b
 ·have b:=(N _ _ _ _ b).1;unfold Vw.sub at b;injection b with b
  subst b;rw[p]at w;have w:j<=(view d).2.length:=w;have v:=h.vw d (((view d).2.take j).drop i);simp only[y,p,B,v];refine⟨rfl,by simp[Vw.len];omega,fun k c hk=> ?_⟩;simp only[Vw.cell]
  grind
 ·obtain⟨E,l,K,X,rfl⟩:=T e n cs d b;rw[o];exact G.el e E K l
 ·obtain⟨E,z,K,hz,rfl⟩:=U e n H d b;rw[o];exact G.el e E K _
 ·rw[C]at b;unfold Vw.set at b;split at b
  ·injection b with b
   subst b;rw[o];exact G.inj _ _
  ·cases b
 ·rw[Dy]at b;unfold Vw.cat at b;split at b
  ·injection b with b
   subst b;rw[o];exact G.inj _ _
  ·cases b
 ·obtain⟨P,h2⟩:=N _ _ _ _ b;unfold Vw.sub at P;injection P with P
  subst P;rw[o,o];exact⟨h2,G.inj _ _⟩
 ·rw[htt]at b;rw[o];exact G.txt _ _ _ b
 ·rw[o]at b;rw[p,y];exact G.size d m b
 ·rw[hnw]at J;obtain⟨m,P,h2⟩:=G.new _ _ J
  grind
 ·rw[hgl]at J;rw[o];exact G.MW _ _ J
end
attribute [instance] lG GI Yi axy Ib aFS v_ axj ax9 avO aDW axU aHJ
section
variable {D α β:Type}{S:Sh D}
instance aJP {c:gK D α} {d:gK D β} [a:bz S c] [b:bz S d]:bz S (bD c d):=arv a b
instance aJ5 {n:Nat} {d:α} {c:gK D α} [a:bz S c]:bz S (ET n d c):=aze a
instance iL1 {c:gK D α} [a:bz S c]:uV S (l1 c):=aFk a
instance iLc {c:gK D α} {r:J9 D β} [a:bz S c] [b:uV S r]:uV S (lCons c r):=aoc a b
instance iLf {c:gK D α} [a:bz S c]:qF S (aLf c):=mX a
instance iAg {c:gK D α} [a:bz S c]:qF S (aAgg c):=ZG a
instance iA1 {c:Arg D α} [a:qF S c]:lu S 1 (a1 c):=KD a
instance iAc {c:Arg D α} {r:vH D β} {k:Nat} [a:qF S c] [b:lu S k r]:lu S (k+1) (aCons c r):=iH a b
instance iBc {c:gK D α} [a:bz S c]:sH S (aF c):=am6 a
instance iB1 {c:Blk D α} [a:sH S c]:qG S 1 (b1 c):=aF0 a
instance iBs {c:Blk D α} {r:E_ D β} {k:Nat} [a:sH S c] [b:qG S k r]:qG S (k+1) (eF c r):=asu a b
instance iSp {b:(Nat->Sl D)->List It} {c:J9 D α} [a:uV S c]:ShpOk S (aT b c):=aEd a
instance iSr {b:List It} {c:J9 D α} [a:uV S c]:ShpOk S (shr b c):=aCz a
theorem iE {c:vH D α}{k n:Nat}[a:lu S k c](b:Nat.ble k n=true):MF S (args c) 0 n:=ayh a b
theorem l_ {c:vH D α}{b:E_ D β}{k m n:Nat}[d:lu S k c][a:qG S m b](e:Nat.ble k n=true):MF S (iM c b) m n:=rX d a e
end
end Go.Vc
namespace Go.Vc
section
variable {A R:Type}
end
theorem ctFam_ok {D:Type}{P:Program}{S:Sh D}{f:FuncId}{c:sU D}{j:Shp D}{k:Nat}{d:List Nat}{i:Nat->c.A->Option Prop}{s:Nat->c.A->j.X}(h:∀n,CtOk P S f (ctN c j k d (i n) (s n)))
  (e:c.A->Option Prop) (l:c.A->j.X) (z:∀a,nG (e a)->∃n,nG (i n a)/\s n a=l a):CtOk P S f (ctN c j k d e l):=by
 refine⟨(h 0).enters,fun X N g w args A y p r o u x q b m=> ?_⟩;unfold ctN at b;split at b
 ·cases b
 ·rename_i a B;injection b with b
  injection b with v b
  subst v;obtain⟨n,t,C⟩:=z a (AL.1 m);refine(h n).calls X N g w args A y ((i n a).map dq) r o u x q ?_ (AL.2 t);unfold ctN
  grind
end Go.Vc
namespace Go.Vc
open Go.RowKit Go.ChangeShapes Go.WideShapes Go.ChangeAt Go.Joins
section
variable {H:Type}{enc:TypeId×Value->H}{P:Program}{W W':World}
theorem DN (k:laidOutB P=true)(i:Below W.heap.size W W'):∀{f:List TypeId} {e:List Value} {c:List (DataW H)} {a:List MemPlace},(f.all fun t=>P.readableRec t && decide (t < P.types.size))=true->
  DataW.TrodAll enc P W 0 (fun _=>true) true f e c a->DataW.TrodAll enc P W' 0 (fun b=>decide (b < W.heap.size)) true f e c a
 | [],e,c,a,_,h=>by
  obtain⟨rfl,rfl,rfl⟩:=trodAll_nil h;rfl
 | t::f,e,c,a,g,h=>by
  simp only[Qdh,iW,Um]at g;obtain⟨v,r,d,s,p,q,rfl,rfl,rfl,j,l⟩:=trodAll_cons h;have n:∀x∈p,x.block < W.heap.size:=by obtain⟨m,o⟩:=j;exact DataW.trod_lt m _ _ _ o
  exact trodAll_cons_mk (Below.trod k g.1.1 g.1.2 j i n) (DN k i g.2 l)
theorem aHX {k:IntKind}{n:Int}(h:(Lit.int k n).wf=true):InR k n:=by
 cases k<;>simp[Lit.wf,IntKind.min,IntKind.max,IntKind.signed,IntKind.bits]at h<;>simp only[InR]<;>omega
end
def NoN:Nat->Prop:=fun _=>False
section
variable {D α β:Type}{S:Sh D}{P:Program}
theorem aaE {w:World}{d:D}{a:Option Addr}{n cap:Nat}(v:n=S.len d)(g:n<=cap)(l:n<=9223372036854775807)(U:Nat->Nat->Value)
  (e:∀i j,i < S.len d->j < S.size d->∃b,a=some b/\w.cell? (b.add (i*S.size d+j))=some (U i j))
  (q:∀i j,i < S.len d->j < S.size d->Lf.plain (S.cell d i j) (U i j))
  (k:∀i j c,i < S.len d->j < S.size d->S.cell d i j= .dat c->bQ S NoN w c (U i j)) (r:S.mp d=none):bQ S NoN w d (.slice a n cap):=by
 intro w' p;subst v;refine zL.mk d r a cap U g l (fun i j f m=> ?_) q (fun i j c f m t=>k i j c f m t w' p);obtain⟨b,u,o⟩:=e i j f m;refine⟨b,u,?_⟩;have s:(b.add (i*S.size d+j)).block < w.heap.size:=by
  rcases Qb8 (b.add (i*S.size d+j)).block w.heap.size with h | h
  ·exact h
  ·simp[World.cell?,Array.getElem?_eq_none h]at o
 rw[<-o];exact World.cell?_of_block (p _ s (fun h=>h))
def ajn (P:Program)(S:Sh D)(t:TypeId)(c:gK D α)(e:α->Prop):Prop:=
 ∀{H:Type} {enc:TypeId×Value->H} {w:World} {d:Nat} {b:Nat->Bool} {f:Bool} {g:Nat} {cs:List Value} {x:DataW H×List MemPlace},
  DataW.trod enc P w d b f g t cs=some x->∃a,aN S NoN w noG (c.enc a) cs/\e a
theorem iy {t:TypeId}{k:IntKind}(e:P.underlying t=some (.int k)):ajn P S t (cInt k) (InR k):=by
 intro H enc w c a d f cs x h;obtain⟨n,rfl,_,b⟩:=DataW.trod_int e h;exact⟨n,⟨rfl,trivial⟩,aHX b⟩
theorem O5 {t:TypeId}(e:P.underlying t=some .bool):ajn P S t aj fun _=>True:=by
 intro H enc w c a d f cs x h;obtain⟨b,rfl,_⟩:=DataW.trod_bool e h;exact⟨b,⟨rfl,trivial⟩,trivial⟩
theorem amG {t:TypeId}(f:P.underlying t=some .string):ajn P S t cStr fun s=>s.length<=9223372036854775807:=by
 intro H enc w d b e g cs x h;obtain⟨s,rfl,_,c⟩:=DataW.trod_string f h;have a:s.data.toList.length<=9223372036854775807:=by
  unfold maxLen at c;simp_all
 refine⟨s.data.toList,⟨⟨?_,a⟩,trivial⟩,a⟩;cases s;simp
theorem aN.app {M:Nat->Prop}{w:World}{g:Nat->Option Value}:∀{a b:List (Lf D)} {d c:List Value},aN S M w g a d->aN S M w g b c->aN S M w g (a++b) (d++c)
 | [],_,[],_,_,k=>k
 | _::_,_,_::_,_,h,k=>⟨h.1,aN.app h.2 k⟩
theorem adc {Q:Nat->α->Prop}:∀n,(∀i,i < n->∃a,Q i a)->∃l:List α,l.length=n/\∀(i:Nat) (h:i < l.length),Q i l[i]
 | 0,_=>⟨[],rfl,fun i h=>by simp at h⟩
 | n+1,h=>by
  obtain⟨l,b,e⟩:=adc n fun i c=>h i ah
  obtain⟨a,d⟩:=h n ah;refine⟨l++[a],by simp[b],fun i c=> ?_⟩
  grind
theorem aN.getD' {M:Nat->Prop}{w:World}{g:Nat->Option Value}{a:List (Lf D)}{b:List Value}{j:Nat}(h:aN S M w g a b)(c:j < a.length):∃v,b[j]? =some v/\(a.getD j .any).Rel S M w g v:=by
 grind [get]
def aGY:TypeDesc->Bool
 | .int _ | .bool | .string | .slice _=>true
 | _=>false
def aoQ:Shp D:=shr [.slot 0 false [none]] (l1 aj)
end
end Go.Vc
