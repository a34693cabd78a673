/- Own engine: Vdo, Vdq, Vdp. -/
import Derived.Test.YtiibcbmenoaigaaGreatDoorEng9
import Derived.ProofKit
import Derived.OpenShut
import Derived.Lib.SmallJoins
namespace Go.Vc
open Go.RowKit
set_option linter.unusedVariables false
set_option linter.unusedSimpArgs false
universe u
def lk {α:Type u}:List (Nat×α)->Nat->Option α
 | [],_=>none
 | (k,v)::r,n=>if Nat.beq n k then some v else lk r n
theorem lk_mem {α:Type u}:∀{l:List (Nat×α)} {k:Nat} {v:α},lk l k=some v->(k,v)∈l
 | [],_,_,h=>by simp[lk]at h
 | (k',v')::r,k,v,h=>by
  simp only[lk]at h
  split at h
  ·rename_i hk
   injection h with h
   subst h
   rw[Nat.eq_of_beq_eq_true hk]
   simp
  ·exact List.mem_cons_of_mem _ (lk_mem h)
abbrev Str:=List UInt8
structure Cod (D α:Type) where
 n:Nat
 enc:α->List (Lf D)
 dec:List (Lf D)->Option α
class CodOk {D α:Type} (S:Sh D) (c:Cod D α):Prop where
 ok:∀xs a,c.dec xs=some a->LeL S xs (c.enc a)
 len:∀a,(c.enc a).length=c.n
 data:∀a x,x∈c.enc a->x.isData=true
section
variable {D α β:Type}{S:Sh D}
theorem LeL.app:∀{a b c d:List (Lf D)},LeL S a b->LeL S c d->LeL S (a++c) (b++d)
 | [],[],_,_,_,k=>k
 | x::xs,y::ys,_,_,h,k=>⟨h.1,h.2.1,LeL.app h.2.2 k⟩
theorem LeL.length:∀{a b:List (Lf D)},LeL S a b->a.length=b.length
 | [],[],_=>rfl
 | _::_,_::_,h=>by simp[LeL.length h.2.2]
theorem LeL.get:∀{a b:List (Lf D)},LeL S a b->∀(i:Nat) (y:Lf D),b[i]? =some y->∃x,a[i]? =some x/\x.Le S y
 | [],[],_,i,y,h=>by simp at h
 | x::xs,y::ys,h,0,z,hz=>by simp at hz;subst hz;exact⟨x,rfl,h.1⟩
 | x::xs,y::ys,h,i+1,z,hz=>by simpa using LeL.get h.2.2 i z (by simpa using hz)
theorem Lf.Le.refl (x:Lf D):x.Le S x:= .inl rfl
theorem le_data {x y:Lf D}(h:x.Le S y)(hd:x.isData=true):y=x:=by
 rcases h with h | ⟨h,_⟩ | ⟨b,h,_⟩ | ⟨_,_,_,_,h,_⟩
 ·exact h.symm
 ·subst h;simp[Lf.isData]at hd
 ·subst h;simp[Lf.isData]at hd
 ·subst h;simp[Lf.isData]at hd
def cInt (k:IntKind):Cod D Int:=⟨1,fun n=>[.int k n],fun xs=>match xs with
 | [.int k' n]=>if kEq k k' then some n else none
 | _=>none⟩
def cBool:Cod D Bool:=⟨1,fun b=>[.bool b],fun xs=>match xs with
 | [.bool b]=>some b
 | [.val (.bool b)]=>some b
 | _=>none⟩
def cStr:Cod D (List UInt8):=⟨1,fun s=>[.str s],fun xs=>match xs with
 | [.str s]=>some s
 | _=>none⟩
def cDat (inj:α->D)(prj:D->Option α)(nil:α):Cod D α:=⟨1,fun a=>[.dat (inj a)],fun xs=>match xs with
 | [.dat d]=>prj d
 | [.val v]=>if isNilSlice v then some nil else none
 | _=>none⟩
def cIfc:Cod D (Option Ifc):=⟨1,fun v=>[.ifc v],fun xs=>match xs with
 | [.ifc v]=>some v
 | [.xt (.ifd t ag ps)]=>(match dlPvs ps with
  | some qs=>some (some ⟨t,ag,qs⟩)
  | none=>none)
 | _=>none⟩
def cUnit:Cod D Unit:=⟨0,fun _=>[],fun xs=>match xs with
 | []=>some ()
 | _=>none⟩
def cPair (c:Cod D α)(d:Cod D β):Cod D (α×β):=⟨c.n+d.n,fun p=>c.enc p.1++d.enc p.2,fun xs=>match c.dec (xs.take c.n),d.dec (xs.drop c.n)with
 | some a,some b=>some (a,b)
 | _,_=>none⟩
def cIso (c:Cod D α)(f:α->β)(g:β->α):Cod D β:=⟨c.n,fun b=>c.enc (g b),fun xs=>match c.dec xs with
 | some a=>some (f a)
 | none=>none⟩
def encArr (c:Cod D α)(d:α)(l:List α):Nat->Nat->List (Lf D)
 | _,0=>[]
 | i,n+1=>c.enc (l.getD i d)++encArr c d l (i+1) n
def decArr (c:Cod D α):Nat->List (Lf D)->Option (List α)
 | 0,[]=>some []
 | 0,_=>none
 | n+1,xs=>(match c.dec (xs.take c.n),decArr c n (xs.drop c.n)with
  | some a,some l=>some (a::l)
  | _,_=>none)
def cArr (n:Nat)(d:α)(c:Cod D α):Cod D (List α):=⟨n*c.n,fun l=>encArr c d l 0 n,decArr c n⟩
theorem encArr_len {c:Cod D α}(hc:CodOk S c)(d:α)(l:List α):∀(n i:Nat),(encArr c d l i n).length=n*c.n
 | 0,i=>by simp[encArr]
 | n+1,i=>by rw[encArr,List.length_append,hc.len,encArr_len hc d l n (i+1),Nat.succ_mul];omega
theorem encArr_data {c:Cod D α}(hc:CodOk S c)(d:α)(l:List α):∀(n i:Nat) (x:Lf D),x∈encArr c d l i n->x.isData=true
 | 0,i,x,h=>by simp[encArr]at h
 | n+1,i,x,h=>by
  simp only[encArr,List.mem_append]at h
  rcases h with h | h
  ·exact hc.data _ _ h
  ·exact encArr_data hc d l n (i+1) x h
theorem encArr_shift (c:Cod D α)(d a:α)(l:List α):∀(n i:Nat),encArr c d (a::l) (i+1) n=encArr c d l i n
 | 0,i=>rfl
 | n+1,i=>by simp only[encArr,List.getD_cons_succ,encArr_shift c d a l n (i+1)]
theorem decArr_ok {c:Cod D α}(hc:CodOk S c)(d:α):∀(n:Nat) (xs:List (Lf D)) (l:List α),decArr c n xs=some l->LeL S xs (encArr c d l 0 n)
 | 0,xs,l,h=>by
  cases xs with
  | nil=>trivial
  | cons x xs=>simp[decArr]at h
 | n+1,xs,l,h=>by
  unfold decArr at h
  split at h
  ·rename_i a l' h1 h2
   injection h with h
   subst h
   have:=LeL.app (hc.ok _ _ h1) (decArr_ok hc d n _ _ h2)
   rw[List.take_append_drop]at this
   simp only[encArr,List.getD_cons_zero]
   rw[Nat.zero_add,encArr_shift c d a l' n 0]
   exact this
  ·cases h
theorem cArr_ok {n:Nat}{d:α}{c:Cod D α}(hc:CodOk S c):CodOk S (cArr n d c):=
 ⟨fun xs l h=>decArr_ok hc d n xs l h,fun l=>encArr_len hc d l n 0,fun l x hx=>encArr_data hc d l n 0 x hx⟩
theorem cInt_ok (k:IntKind):CodOk S (cInt (D:=D) k):=by
 refine⟨fun xs a h=> ?_,fun _=>rfl,fun a x hx=> ?_⟩
 ·simp only[cInt]at h
  split at h
  ·split at h
   ·rename_i hk
    injection h with h
    subst h
    simp only[kEq,beq_iff_eq]at hk
    subst hk
    exact⟨.inl rfl,rfl,trivial⟩
   ·cases h
  ·cases h
 ·simp[cInt]at hx;subst hx;rfl
theorem cBool_ok:CodOk S (cBool (D:=D)):=by
 refine⟨fun xs a h=> ?_,fun _=>rfl,fun a x hx=> ?_⟩
 ·simp only[cBool]at h
  split at h
  ·injection h with h;subst h;exact⟨.inl rfl,rfl,trivial⟩
  ·injection h with h;subst h;exact⟨.inr (.inr (.inl ⟨_,rfl,rfl⟩)),rfl,trivial⟩
  ·cases h
 ·simp[cBool]at hx;subst hx;rfl
theorem cStr_ok:CodOk S (cStr (D:=D)):=by
 refine⟨fun xs a h=> ?_,fun _=>rfl,fun a x hx=> ?_⟩
 ·simp only[cStr]at h
  split at h
  ·injection h with h;subst h;exact⟨.inl rfl,rfl,trivial⟩
  ·cases h
 ·simp[cStr]at hx;subst hx;rfl
theorem cIfc_ok:CodOk S (cIfc (D:=D)):=by
 refine⟨fun xs a h=> ?_,fun _=>rfl,fun a x hx=> ?_⟩
 ·simp only[cIfc]at h
  split at h
  ·injection h with h;subst h;exact⟨.inl rfl,rfl,trivial⟩
  ·split at h
   ·rename_i qs hq
    injection h with h;subst h;exact⟨.inr (.inr (.inr ⟨_,_,_,_,rfl,rfl,hq⟩)),rfl,trivial⟩
   ·cases h
  ·cases h
 ·simp[cIfc]at hx;subst hx;rfl
theorem cDat_ok {inj:α->D}{prj:D->Option α}{nil:α}(hp:∀d a,prj d=some a->d=inj a)(hn:S.len (inj nil)=0)(hno:S.mp (inj nil)=none:=by rfl):CodOk S (cDat inj prj nil):=by
 refine⟨fun xs a h=> ?_,fun _=>rfl,fun a x hx=> ?_⟩
 ·simp only[cDat]at h
  split at h
  ·rw[hp _ _ h];exact⟨.inl rfl,rfl,trivial⟩
  ·split at h
   ·rename_i hv
    injection h with h
    subst h
    rw[isNil_eq hv]
    exact⟨.inr (.inl ⟨rfl,_,rfl,hn,hno⟩),rfl,trivial⟩
   ·cases h
  ·cases h
 ·simp[cDat]at hx;subst hx;rfl
theorem cUnit_ok:CodOk S (cUnit (D:=D)):=by
 refine⟨fun xs a h=> ?_,fun _=>rfl,fun a x hx=> ?_⟩
 ·simp only[cUnit]at h
  split at h
  ·trivial
  ·cases h
 ·simp[cUnit]at hx
theorem cPair_ok {c:Cod D α}{d:Cod D β}(hc:CodOk S c)(hd:CodOk S d):CodOk S (cPair c d):=by
 refine⟨fun xs a h=> ?_,fun a=>by simp[cPair,hc.len,hd.len],fun a x hx=> ?_⟩
 ·simp only[cPair]at h
  split at h
  ·rename_i a b h1 h2
   injection h with h
   subst h
   have:=LeL.app (hc.ok _ _ h1) (hd.ok _ _ h2)
   rwa [List.take_append_drop]at this
  ·cases h
 ·simp only[cPair,List.mem_append]at hx
  rcases hx with hx | hx
  ·exact hc.data _ _ hx
  ·exact hd.data _ _ hx
theorem cIso_ok {c:Cod D α}{f:α->β}{g:β->α}(hc:CodOk S c)(hg:∀a,g (f a)=a):CodOk S (cIso c f g):=by
 refine⟨fun xs a h=> ?_,fun a=>hc.len _,fun a x hx=>hc.data _ _ hx⟩
 simp only[cIso]at h
 split at h
 ·rename_i a' h1
  injection h with h
  subst h
  simp only[cIso,hg]
  exact hc.ok _ _ h1
 ·cases h
structure LCod (D α:Type) where
 enc:α->List (List (Lf D))
 dec:List (List (Lf D))->Option α
class LCodOk (S:Sh D) (c:LCod D α):Prop where
 ok:∀xs a,c.dec xs=some a->LeLL S xs (c.enc a)
def l0:LCod D Unit:=⟨fun _=>[],fun xs=>match xs with
 | []=>some ()
 | _=>none⟩
def l1 (c:Cod D α):LCod D α:=⟨fun a=>[c.enc a],fun xs=>match xs with
 | [x]=>c.dec x
 | _=>none⟩
def lCons (c:Cod D α)(r:LCod D β):LCod D (α×β):=⟨fun p=>c.enc p.1::r.enc p.2,fun xs=>match xs with
 | x::xs=>(match c.dec x,r.dec xs with
  | some a,some b=>some (a,b)
  | _,_=>none)
 | _=>none⟩
theorem l0_ok:LCodOk S (l0 (D:=D)):=⟨fun xs a h=>by
 simp only[l0]at h
 split at h
 ·trivial
 ·cases h⟩
theorem l1_ok {c:Cod D α}(hc:CodOk S c):LCodOk S (l1 c):=⟨fun xs a h=>by
 simp only[l1]at h
 split at h
 ·exact⟨hc.ok _ _ h,trivial⟩
 ·cases h⟩
theorem lCons_ok {c:Cod D α}{r:LCod D β}(hc:CodOk S c)(hr:LCodOk S r):LCodOk S (lCons c r):=⟨fun xs a h=>by
 simp only[lCons]at h
 split at h
 ·split at h
  ·rename_i a b h1 h2
   injection h with h
   subst h
   exact⟨hc.ok _ _ h1,hr.ok _ _ h2⟩
  ·cases h
 ·cases h⟩
def shp (is:(Nat->Sl D)->List It)(c:LCod D α):Shp D:=⟨α,is,c.enc,c.dec⟩
def shr (is:List It)(c:LCod D α):Shp D:=⟨α,fun _=>is,c.enc,c.dec⟩
theorem shp_ok {is:(Nat->Sl D)->List It}{c:LCod D α}(hc:LCodOk S c):ShpOk S (shp is c):=⟨hc.ok⟩
theorem shr_ok {is:List It}{c:LCod D α}(hc:LCodOk S c):ShpOk S (shr is c):=⟨hc.ok⟩
structure ACod (D α:Type) where
 enc:α->List (Sl D)
 dec:List (Sl D)->Option α
class ACodOk (S:Sh D) (k:outParam Nat) (c:ACod D α):Prop where
 ok:∀xs a,c.dec xs=some a->SlsLe S xs (c.enc a)
 len:∀a,(c.enc a).length=k
structure BCod (D α:Type) where
 enc:α->List (Bk D)
 dec:List (Bk D)->Option α
class BCodOk (S:Sh D) (k:outParam Nat) (c:BCod D α):Prop where
 ok:∀xs a,c.dec xs=some a->BksLe S xs (c.enc a)
 len:∀a,(c.enc a).length=k
structure Arg (D α:Type) where
 enc:α->Sv D
 dec:Sv D->Option α
class ArgOk1 (S:Sh D) (c:Arg D α):Prop where
 ok:∀x a,c.dec x=some a->SvLe S x (c.enc a)
def lf0:List (Lf D)->Lf D
 | [x]=>x
 | _=> .any
def aLf (c:Cod D α):Arg D α:=⟨fun a=> .lf (lf0 (c.enc a)),fun x=>match x with
 | .lf x=>c.dec [x]
 | _=>none⟩
def aAgg (c:Cod D α):Arg D α:=⟨fun a=> .agg (c.enc a),fun x=>match x with
 | .agg xs=>c.dec xs
 | _=>none⟩
def aPtr (l:Nat):Arg D Unit:=⟨fun _=> .lf (.ptr l 0),fun x=>match x with
 | .lf (.ptr l' o)=>if Nat.beq l l' && Nat.beq o 0 then some ()else none
 | _=>none⟩
def aOwn (l:Nat):Arg D Unit:=⟨fun _=> .lf (.own l),fun x=>match x with
 | .lf (.own l')=>if Nat.beq l l' then some ()else none
 | _=>none⟩
def aOpt (l sz:Nat):Arg D Nat:=⟨fun i=> .lf (.opt l i 0 sz),fun x=>match x with
 | .lf (.opt l' i j sz')=>if Nat.beq l l' && Nat.beq j 0 && Nat.beq sz sz' then some i else none
 | _=>none⟩
def eqIds:List Nat->List Nat->Bool
 | [],[]=>true
 | x::xs,y::ys=>Nat.beq x y && eqIds xs ys
 | _,_=>false
theorem eqIds_eq:∀{xs ys:List Nat},eqIds xs ys=true->xs=ys
 | [],[],_=>rfl
 | x::xs,y::ys,h=>by
  simp only[eqIds,Bool.and_eq_true]at h
  rw[Nat.eq_of_beq_eq_true h.1,eqIds_eq h.2]
 | [],_::_,h=>by simp[eqIds]at h
 | _::_,[],h=>by simp[eqIds]at h
def aFn (f:Nat)(caps:List Nat):Arg D Unit:=⟨fun _=> .lf (.fn f caps),fun x=>match x with
 | .lf (.fn f' caps')=>if Nat.beq f f' && eqIds caps caps' then some ()else none
 | _=>none⟩
theorem aLf_ok {c:Cod D α}(hc:CodOk S c):ArgOk1 S (aLf c):=⟨fun x a h=>by
 simp only[aLf]at h⊢
 split at h
 ·have:=hc.ok _ _ h
  generalize c.enc a=ys at this
  cases ys with
  | nil=>exact this.elim
  | cons y ys=>
   cases ys with
   | cons _ _=>exact this.2.2.elim
   | nil=>exact this.1
 ·cases h⟩
theorem LeL.les:∀{a b:List (Lf D)},LeL S a b->LesL S a b
 | [],[],_=>trivial
 | _::_,_::_,h=>⟨h.1,LeL.les h.2.2⟩
theorem aAgg_ok {c:Cod D α}(hc:CodOk S c):ArgOk1 S (aAgg c):=⟨fun x a h=>by
 simp only[aAgg]at h⊢
 split at h
 ·exact(hc.ok _ _ h).les
 ·cases h⟩
theorem aPtr_ok (l:Nat):ArgOk1 S (aPtr (D:=D) l):=⟨fun x a h=>by
 simp only[aPtr]at h⊢
 split at h
 ·split at h
  ·rename_i hc
   simp only[Bool.and_eq_true]at hc
   rw[<-Nat.eq_of_beq_eq_true hc.1,Nat.eq_of_beq_eq_true hc.2]
   exact .inl rfl
  ·cases h
 ·cases h⟩
theorem aOwn_ok (l:Nat):ArgOk1 S (aOwn (D:=D) l):=⟨fun x a h=>by
 simp only[aOwn]at h⊢
 split at h
 ·split at h
  ·rename_i hc
   rw[<-Nat.eq_of_beq_eq_true hc]
   exact .inl rfl
  ·cases h
 ·cases h⟩
theorem aOpt_ok (l sz:Nat):ArgOk1 S (aOpt (D:=D) l sz):=⟨fun x a h=>by
 simp only[aOpt]at h⊢
 split at h
 ·split at h
  ·rename_i hc
   simp only[Bool.and_eq_true]at hc
   injection h with h
   subst h
   rw[<-Nat.eq_of_beq_eq_true hc.1.1,Nat.eq_of_beq_eq_true hc.1.2,<-Nat.eq_of_beq_eq_true hc.2]
   exact .inl rfl
  ·cases h
 ·cases h⟩
def aArr (l sz:Nat):Arg D Unit:=⟨fun _=> .lf (.opt l 0 0 sz),fun x=>match x with
 | .lf (.opt l' i j sz')=>if Nat.beq l l' && (Nat.beq i 0 && (Nat.beq j 0 && Nat.beq sz sz'))then some ()else none
 | _=>none⟩
theorem aArr_ok (l sz:Nat):ArgOk1 S (aArr (D:=D) l sz):=⟨fun x a h=>by
 simp only[aArr]at h⊢
 split at h
 ·split at h
  ·rename_i hc
   simp only[Bool.and_eq_true]at hc
   rw[<-Nat.eq_of_beq_eq_true hc.1,Nat.eq_of_beq_eq_true hc.2.1,Nat.eq_of_beq_eq_true hc.2.2.1,<-Nat.eq_of_beq_eq_true hc.2.2.2]
   exact .inl rfl
  ·cases h
 ·cases h⟩
theorem aFn_ok (f:Nat)(caps:List Nat):ArgOk1 S (aFn (D:=D) f caps):=⟨fun x a h=>by
 simp only[aFn]at h⊢
 split at h
 ·split at h
  ·rename_i hc
   simp only[Bool.and_eq_true]at hc
   rw[<-Nat.eq_of_beq_eq_true hc.1,<-eqIds_eq hc.2]
   exact .inl rfl
  ·cases h
 ·cases h⟩
def a0:ACod D Unit:=⟨fun _=>[],fun xs=>match xs with
 | []=>some ()
 | _=>none⟩
def a1 (c:Arg D α):ACod D α:=⟨fun a=>[.one (c.enc a)],fun xs=>match xs with
 | [.one x]=>c.dec x
 | _=>none⟩
def aCons (c:Arg D α)(r:ACod D β):ACod D (α×β):=⟨fun p=> .one (c.enc p.1)::r.enc p.2,fun xs=>match xs with
 | .one x::xs=>(match c.dec x,r.dec xs with
  | some a,some b=>some (a,b)
  | _,_=>none)
 | _=>none⟩
theorem a0_ok:ACodOk S 0 (a0 (D:=D)):=by
 refine⟨fun xs a h=> ?_,fun _=>rfl⟩
 simp only[a0]at h
 split at h
 ·trivial
 ·cases h
theorem a1_ok {c:Arg D α}(hc:ArgOk1 S c):ACodOk S 1 (a1 c):=by
 refine⟨fun xs a h=> ?_,fun _=>rfl⟩
 simp only[a1]at h
 split at h
 ·exact⟨hc.ok _ _ h,trivial⟩
 ·cases h
theorem aCons_ok {c:Arg D α}{r:ACod D β}{k:Nat}(hc:ArgOk1 S c)(hr:ACodOk S k r):ACodOk S (k+1) (aCons c r):=by
 refine⟨fun xs a h=> ?_,fun a=>by simp[aCons,hr.len]⟩
 simp only[aCons]at h
 split at h
 ·split at h
  ·rename_i a b h1 h2
   injection h with h
   subst h
   exact⟨hc.ok _ _ h1,hr.ok _ _ h2⟩
  ·cases h
 ·cases h
structure Blk (D α:Type) where
 enc:α->Bk D
 dec:Bk D->Option α
class BlkOk (S:Sh D) (c:Blk D α):Prop where
 ok:∀x a,c.dec x=some a->BkLe S x (c.enc a)
def bCells (c:Cod D α):Blk D α:=⟨fun a=> .cells (c.enc a),fun x=>match x with
 | .cells xs=>c.dec xs
 | _=>none⟩
def bRow (e:TypeId)(inj:α->D)(prj:D->Option α):Blk D α:=⟨fun a=> .row e (inj a),fun x=>match x with
 | .row e' d=>if Nat.beq e e' then prj d else none
 | _=>none⟩
theorem bCells_ok {c:Cod D α}(hc:CodOk S c):BlkOk S (bCells c):=⟨fun x a h=>by
 simp only[bCells]at h⊢
 split at h
 ·exact(hc.ok _ _ h).les
 ·cases h⟩
theorem bRow_ok {e:TypeId}{inj:α->D}{prj:D->Option α}(hp:∀d a,prj d=some a->d=inj a):BlkOk S (bRow e inj prj):=⟨fun x a h=>by
 simp only[bRow]at h⊢
 split at h
 ·split at h
  ·rename_i he
   exact⟨(Nat.eq_of_beq_eq_true he).symm,hp _ _ h⟩
  ·cases h
 ·cases h⟩
def b1 (c:Blk D α):BCod D α:=⟨fun a=>[c.enc a],fun xs=>match xs with
 | [x]=>c.dec x
 | _=>none⟩
def bCons (c:Blk D α)(r:BCod D β):BCod D (α×β):=⟨fun p=>c.enc p.1::r.enc p.2,fun xs=>match xs with
 | x::xs=>(match c.dec x,r.dec xs with
  | some a,some b=>some (a,b)
  | _,_=>none)
 | _=>none⟩
theorem b1_ok {c:Blk D α}(hc:BlkOk S c):BCodOk S 1 (b1 c):=by
 refine⟨fun xs a h=> ?_,fun _=>rfl⟩
 simp only[b1]at h
 split at h
 ·exact⟨hc.ok _ _ h,trivial⟩
 ·cases h
theorem bCons_ok {c:Blk D α}{r:BCod D β}{k:Nat}(hc:BlkOk S c)(hr:BCodOk S k r):BCodOk S (k+1) (bCons c r):=by
 refine⟨fun xs a h=> ?_,fun a=>by simp[bCons,hr.len]⟩
 simp only[bCons]at h
 split at h
 ·split at h
  ·rename_i a b h1 h2
   injection h with h
   subst h
   exact⟨hc.ok _ _ h1,hr.ok _ _ h2⟩
  ·cases h
 ·cases h
def unLfs:List (Option TypeId)->List (Lf D)->Nat->List (Bk D)->Option (List (Lf D))
 | [],[],_,[]=>some []
 | none::fs,x::xs,n,rows=>(match unLfs fs xs n rows with
  | some ys=>some (x::ys)
  | none=>none)
 | some e::fs, .own k::xs,n, .row e' d::rows=>if Nat.beq k n && Nat.beq e e' then(match unLfs fs xs (n+1) rows with
  | some ys=>some (.dat d::ys)
  | none=>none)else none
 | _,_,_,_=>none
def bOwn (n:Nat)(fs:List (Option TypeId))(c:Cod D α):BCod D α:=⟨fun a=> .cells (conLfs fs (c.enc a) n).1::(conLfs fs (c.enc a) n).2.1.map (·.2),fun bs=>match bs with
 | .cells xs::rows=>(match unLfs fs xs n rows with
  | some ys=>c.dec ys
  | none=>none)
 | _=>none⟩
theorem unLfs_ok:∀(fs:List (Option TypeId)) (xs ys zs:List (Lf D)) (n:Nat) (rows:List (Bk D)),unLfs fs xs n rows=some ys->LeL S ys zs->LesL S xs (conLfs fs zs n).1/\BksLe S rows ((conLfs fs zs n).2.1.map (·.2))
 | [],[],ys,zs,n,rows,h,hl=>by
  cases rows with
  | cons _ _=>simp[unLfs]at h
  | nil=>
   simp only[unLfs,Option.some.injEq]at h
   subst h
   cases zs with
   | cons _ _=>exact hl.elim
   | nil=>exact⟨trivial,trivial⟩
 | [],x::xs,ys,zs,n,rows,h,hl=>by simp[unLfs]at h
 | none::fs,[],ys,zs,n,rows,h,hl=>by simp[unLfs]at h
 | none::fs,x::xs,ys,zs,n,rows,h,hl=>by
  simp only[unLfs]at h
  split at h
  ·rename_i ys' h'
   injection h with h
   subst h
   cases zs with
   | nil=>exact hl.elim
   | cons z zs=>
    obtain⟨h1,h2⟩:=unLfs_ok fs xs ys' zs n rows h' hl.2.2
    exact⟨⟨hl.1,h1⟩,h2⟩
  ·cases h
 | some e::fs,[],ys,zs,n,rows,h,hl=>by simp[unLfs]at h
 | some e::fs,x::xs,ys,zs,n,rows,h,hl=>by
  cases rows with
  | nil=>cases x<;>simp[unLfs]at h
  | cons r rows=>
   cases x with
   | own k=>
    cases r with
    | row e' d=>
     simp only[unLfs]at h
     split at h
     ·rename_i hc
      simp only[Bool.and_eq_true]at hc
      have hk:=Nat.eq_of_beq_eq_true hc.1
      have he:=Nat.eq_of_beq_eq_true hc.2
      subst hk he
      split at h
      ·rename_i ys' h'
       injection h with h
       subst h
       cases zs with
       | nil=>exact hl.elim
       | cons z zs=>
        have:=le_dat hl.1
        subst this
        obtain⟨h1,h2⟩:=unLfs_ok fs xs ys' zs (k+1) rows h' hl.2.2
        exact⟨⟨.inl rfl,h1⟩,⟨rfl,rfl⟩,h2⟩
      ·cases h
     ·cases h
    | _=>simp[unLfs]at h
   | _=>simp[unLfs]at h
theorem bOwn_ok {n k:Nat}{fs:List (Option TypeId)}{c:Cod D α}(hc:CodOk S c)(hk:∀a,(conLfs fs (c.enc a) n).2.1.length=k):BCodOk S (k+1) (bOwn n fs c):=by
 refine⟨fun xs a h=> ?_,fun a=>by simp[bOwn,hk]⟩
 simp only[bOwn]at h
 split at h
 ·split at h
  ·rename_i ys hy
   exact unLfs_ok fs _ ys _ n _ hy (hc.ok _ _ h)
  ·cases h
 ·cases h
def args (c:ACod D α):ArgShp D:=⟨α,fun a=>(c.enc a,[]),fun xs bs=>match bs with
 | []=>c.dec xs
 | _=>none⟩
def argsB (c:ACod D α)(b:BCod D β):ArgShp D:=⟨α×β,fun p=>(c.enc p.1,b.enc p.2),fun xs bs=>match c.dec xs,b.dec bs with
 | some a,some b=>some (a,b)
 | _,_=>none⟩
theorem args_ok {c:ACod D α}{k n:Nat}(hc:ACodOk S k c)(hk:Nat.ble k n=true):ArgOk S (args c) 0 n:=by
 refine⟨fun xs bs a h=> ?_,fun _=>rfl,fun(a:α)=>(hc.len a).symm▸Nat.le_of_ble_eq_true hk⟩
 simp only[args]at h
 split at h
 ·exact⟨hc.ok _ _ h,trivial⟩
 ·cases h
theorem argsB_ok {c:ACod D α}{b:BCod D β}{k m n:Nat}(hc:ACodOk S k c)(hb:BCodOk S m b)(hk:Nat.ble k n=true):ArgOk S (argsB c b) m n:=by
 refine⟨fun xs bs a h=> ?_,fun a=>hb.len _,fun(a:α×β)=>(hc.len a.1).symm▸Nat.le_of_ble_eq_true hk⟩
 simp only[argsB]at h
 split at h
 ·rename_i a b h1 h2
  injection h with h
  subst h
  exact⟨hc.ok _ _ h1,hb.ok _ _ h2⟩
 ·cases h
structure El (D:Type):Type 1 where
 α:Type
 cod:Cod D α
 dflt:α
 inj:List α->D
 prj:D->Option (List α)
def decRows (c:Cod D α):Nat->List (Lf D)->Option (List α)
 | 0,[]=>some []
 | 0,_::_=>none
 | n+1,cs=>(match c.dec (cs.take c.n),decRows c n (cs.drop c.n)with
  | some a,some l=>some (a::l)
  | _,_=>none)
abbrev Vw (D:Type):=(E:El D)×List E.α
def Vw.size (p:Vw D):Nat:=p.1.cod.n
def Vw.len (p:Vw D):Nat:=p.2.length
def Vw.cell (p:Vw D)(i j:Nat):Lf D:=(p.1.cod.enc (p.2.getD i p.1.dflt)).getD j .any
def Vw.set (p:Vw D)(i j:Nat)(xs:List (Lf D)):Option D:=match p.1.cod.dec (putAt (p.1.cod.enc (p.2.getD i p.1.dflt)) j xs)with
 | some a=>some (p.1.inj (p.2.set i a))
 | none=>none
def Vw.cat (p:Vw D)(d:D):Option D:=match p.1.prj d with
 | some l=>some (p.1.inj (p.2++l))
 | none=>none
def Vw.sub (p:Vw D)(i j:Nat):Option D:=some (p.1.inj ((p.2.take j).drop i))
def shOf (view:D->Vw D)(elOf:TypeId->Option (El D))(glob:Nat->Option D:=fun _=>none)(txt:TypeId->List UInt8->Option D:=fun _ _=>none)(mpO:D->Option (Mp D):=fun _=>none)(mnw:TypeId->Option D:=fun _=>none):Sh D where
 mp:=mpO
 mnew:=mnw
 glob:=glob
 text:=txt
 size d:=(view d).size
 len d:=(view d).len
 cell d i j:=(view d).cell i j
 make e n cs:=match elOf e with
  | none=>none
  | some E=>(match decRows E.cod n cs with
   | some l=>some (E.inj l)
   | none=>none)
 zero e n zs:=match elOf e with
  | none=>none
  | some E=>(match E.cod.dec zs with
   | some z=>some (E.inj (List.replicate n z))
   | none=>none)
 set d i j xs:=(view d).set i j xs
 cat d1 d2:=(view d1).cat d2
 sub d i j:=match mpO d with
  | none=>(view d).sub i j
  | some _=>none
def txU (l:List Int):List UInt8:=(List.range l.length).map fun i=>UInt8.ofNat (l.getD i 0).toNat
@[simp] theorem txU_nil:txU []=[]:=rfl
structure ViewOk (S:Sh D)(view:D->Vw D)(elOf:TypeId->Option (El D)):Prop where
 el:∀e E,elOf e=some E->∀l,view (E.inj l)=⟨E,l⟩
 vw:∀d l,view ((view d).1.inj l)=⟨(view d).1,l⟩
 prj:∀d d2 l2,(view d).1.prj d2=some l2->view d2=⟨(view d).1,l2⟩
 cod:∀d,CodOk S (view d).1.cod
theorem decRows_spec {c:Cod D α}(hc:CodOk S c):∀(n:Nat) (cs:List (Lf D)) (l:List α),decRows c n cs=some l->l.length=n/\cs.length=n*c.n/\∀(i j:Nat) (dflt:α),i < n->j < c.n->∃x,cs[i*c.n+j]? =some x/\x.Le S ((c.enc (l.getD i dflt)).getD j .any)
 | 0,[],l,h=>by
  injection h with h
  subst h
  exact⟨rfl,by simp,fun i j _ hi=>by omega⟩
 | 0,_::_,l,h=>by simp[decRows]at h
 | n+1,cs,l,h=>by
  unfold decRows at h
  split at h
  ·rename_i a l' h1 h2
   injection h with h
   subst h
   obtain⟨q1,q2,q3⟩:=decRows_spec hc n _ l' h2
   have hle:=hc.ok _ _ h1
   have hl1:=hle.length
   rw[hc.len]at hl1
   have hlen:c.n<=cs.length:=by simp at hl1;omega
   refine⟨by simp[q1],?_,fun i j dflt hi hj=> ?_⟩
   ·simp at q2;rw[Nat.succ_mul];omega
   ·cases i with
    | zero=>
     have hy:(c.enc a)[j]? =some ((c.enc a).getD j .any):=by
      have:j < (c.enc a).length:=by rw[hc.len];exact hj
      simp[List.getD,this]
     obtain⟨x,hx,hxl⟩:=hle.get j _ hy
     refine⟨x,?_,by simpa using hxl⟩
     rw[List.getElem?_take,if_pos hj]at hx
     simpa using hx
    | succ i=>
     obtain⟨x,hx,hxl⟩:=q3 i j dflt (by omega) hj
     refine⟨x,?_,by simpa using hxl⟩
     rw[List.getElem?_drop]at hx
     rw[Nat.succ_mul,<-hx]
     congr 1
     omega
  ·cases h
theorem getD_some {l:List α}{i:Nat}{d:α}(h:i < l.length):l.getD i d=l[i]:=by simp[List.getD,h]
structure MapsOk (S:Sh D)(view:D->Vw D)(elOf:TypeId->Option (El D))(gl:Nat->Option D)(txt:TypeId->List UInt8->Option D)(mpO:D->Option (Mp D))(mnw:TypeId->Option D):Prop where
 inj:∀d l,mpO ((view d).1.inj l)=none
 el:∀e E,elOf e=some E->∀l,mpO (E.inj l)=none
 txt:∀e s d,txt e s=some d->mpO d=none
 glob:∀i d,gl i=some d->mpO d=none
 size:∀d m,mpO d=some m->(view d).len=0/\(view d).size=0/\MpOk S m
 new:∀t d,mnw t=some d->∃m,mpO d=some m/\m.kvs=[]
theorem shOfM_ok {view:D->Vw D}{elOf:TypeId->Option (El D)}{gl:Nat->Option D}{txt:TypeId->List UInt8->Option D}{mpO:D->Option (Mp D)}{mnw:TypeId->Option D}(h:ViewOk (shOf view elOf gl txt mpO mnw) view elOf)
  (ht:∀e s d,txt e s=some d->(shOf view elOf gl txt mpO mnw).size d=1/\(shOf view elOf gl txt mpO mnw).len d=s.length/\∀i,i < s.length->(shOf view elOf gl txt mpO mnw).cell d i 0= .int .u8 (s.getD i 0).toNat) (hM:MapsOk (shOf view elOf gl txt mpO mnw) view elOf gl txt mpO mnw):ShOk (shOf view elOf gl txt mpO mnw):=by
 have htx:∀e s d,(shOf view elOf gl txt mpO mnw).text e s=some d->(shOf view elOf gl txt mpO mnw).size d=1/\(shOf view elOf gl txt mpO mnw).len d=s.length/\∀i,i < s.length->(shOf view elOf gl txt mpO mnw).cell d i 0= .int .u8 (s.getD i 0).toNat:=ht
 clear ht
 have hsz:∀d,(shOf view elOf gl txt mpO mnw).size d=(view d).size:=fun _=>rfl
 have hln:∀d,(shOf view elOf gl txt mpO mnw).len d=(view d).len:=fun _=>rfl
 have hcl:∀d i j,(shOf view elOf gl txt mpO mnw).cell d i j=(view d).cell i j:=fun _ _ _=>rfl
 have hset:∀d i j xs,(shOf view elOf gl txt mpO mnw).set d i j xs=(view d).set i j xs:=fun _ _ _ _=>rfl
 have hcat:∀d d',(shOf view elOf gl txt mpO mnw).cat d d'=(view d).cat d':=fun _ _=>rfl
 have hsub:∀d i j d',(shOf view elOf gl txt mpO mnw).sub d i j=some d'->(view d).sub i j=some d'/\mpO d=none:=by
  intro d i j d' hd
  simp only[shOf]at hd
  split at hd
  ·exact⟨hd,‹_›⟩
  ·cases hd
 have hmp:∀d,(shOf view elOf gl txt mpO mnw).mp d=mpO d:=fun _=>rfl
 have hnw:∀t,(shOf view elOf gl txt mpO mnw).mnew t=mnw t:=fun _=>rfl
 have hgl:∀t,(shOf view elOf gl txt mpO mnw).glob t=gl t:=fun _=>rfl
 have htt:∀e s,(shOf view elOf gl txt mpO mnw).text e s=txt e s:=fun _ _=>rfl
 have hmk:∀e n cs d,(shOf view elOf gl txt mpO mnw).make e n cs=some d->∃E l,elOf e=some E/\decRows E.cod n cs=some l/\E.inj l=d:=by
  intro e n cs d hm
  simp only[shOf]at hm
  split at hm
  ·cases hm
  rename_i E hE
  split at hm
  ·rename_i l hl
   injection hm with hm
   exact⟨E,l,hE,hl,hm⟩
  ·cases hm
 have hzr:∀e n zs d,(shOf view elOf gl txt mpO mnw).zero e n zs=some d->∃E z,elOf e=some E/\E.cod.dec zs=some z/\E.inj (List.replicate n z)=d:=by
  intro e n zs d hm
  simp only[shOf]at hm
  split at hm
  ·cases hm
  rename_i E hE
  split at hm
  ·rename_i z hz
   injection hm with hm
   exact⟨E,z,hE,hz,hm⟩
  ·cases hm
 generalize shOf view elOf gl txt mpO mnw=S at*
 refine⟨fun e n cs d hm=> ?_,fun d i j hi hj=> ?_,fun e n zs d hm=> ?_,fun d i j xs d' hm hi=> ?_,fun d1 d2 d hm=> ?_,fun d i j d' hm hij hj=> ?_,htx,
  fun e n cs d hm=> ?_,fun e n zs d hm=> ?_,fun d i j xs d' hm _=> ?_,fun d1 d2 d hm=> ?_,fun d i j d' hm=> ?_,fun e s d hm=> ?_,fun d m hm=> ?_,fun t d hd=> ?_,fun i d hd=> ?_⟩
 ·obtain⟨E,l,hE,hl,rfl⟩:=hmk e n cs d hm
  have hv:=h.el e E hE l
  have hcod:=h.cod (E.inj l)
  rw[hv]at hcod
  obtain⟨q1,q2,q3⟩:=decRows_spec hcod n cs l hl
  simp only[hsz,hln,hcl,hv]
  exact⟨q1,q2,fun i j hi hj=>q3 i j _ hi hj⟩
 ·rw[hcl]
  unfold Vw.cell
  rw[hsz]at hj
  have hc:=h.cod d
  have hlt:j < ((view d).1.cod.enc ((view d).2.getD i (view d).1.dflt)).length:=by rw[hc.len];exact hj
  rw[getD_some hlt]
  exact hc.data _ _ (List.getElem_mem hlt)
 ·obtain⟨E,z,hE,hz,rfl⟩:=hzr e n zs d hm
  have hv:=h.el e E hE (List.replicate n z)
  have hcod:=h.cod (E.inj (List.replicate n z))
  rw[hv]at hcod
  have hcod:CodOk S E.cod:=hcod
  have hle:=hcod.ok _ _ hz
  simp only[hsz,hln,hcl,hv]
  refine⟨by simp[Vw.len],by rw[hle.length,hcod.len];rfl,fun i j hi hj=> ?_⟩
  have hj:j < E.cod.n:=hj
  have hrep:(List.replicate n z).getD i E.dflt=z:=by
   rw[getD_some (by simpa using hi)];simp
  show ∃x,zs[j]? =some x/\x.Le S ((E.cod.enc ((List.replicate n z).getD i E.dflt)).getD j .any)
  rw[hrep]
  exact hle.get j _ (by
   have:j < (E.cod.enc z).length:=by rw[hcod.len];exact hj
   rw[getD_some this];simp[this])
 ·rw[hset]at hm
  unfold Vw.set at hm
  split at hm
  ·rename_i a ha
   injection hm with hm
   subst hm
   have hc:=h.cod d
   have hv:=h.vw d ((view d).2.set i a)
   have hle:=hc.ok _ _ ha
   rw[hln]at hi
   have hi:i < (view d).2.length:=hi
   simp only[hsz,hln,hcl,hv]
   refine⟨rfl,by simp[Vw.len],fun i' j' hi' hj'=> ?_⟩
   simp only[Vw.cell]
   have hj':j' < (view d).1.cod.n:=hj'
   have hi':i' < (view d).2.length:=hi'
   have hla:j' < ((view d).1.cod.enc a).length:=by rw[hc.len];exact hj'
   have hl0:((view d).1.cod.enc ((view d).2.getD i (view d).1.dflt)).length=(view d).1.cod.n:=hc.len _
   have hplen:=hle.length
   rw[hc.len]at hplen
   by_cases hii:i'=i
   ·subst hii
    have hset:((view d).2.set i' a).getD i' (view d).1.dflt=a:=by rw[getD_some (by simpa using hi')];simp
    rw[hset]
    obtain⟨x,hx,hxl⟩:=hle.get j' _ (show((view d).1.cod.enc a)[j']? =some (((view d).1.cod.enc a).getD j' .any) by rw[getD_some hla];simp[hla])
    unfold putAt at hx hplen
    generalize hcs:(view d).1.cod.enc ((view d).2.getD i' (view d).1.dflt)=cs at hx hplen hl0
    have hput:∀x,(cs.take j++(xs++cs.drop (j+xs.length)))[j']? =some x->(j<=j'/\j' < j+xs.length->xs[j' - j]? =some x)/\(¬(j<=j'/\j' < j+xs.length)->cs[j']? =some x):=by
     intro x hx
     simp only[List.length_append,List.length_take,List.length_drop]at hplen
     by_cases hjn:j<=cs.length
     ·rw[Nat.min_eq_left hjn]at hplen
      rw[List.getElem?_append]at hx
      simp only[List.length_take,Nat.min_eq_left hjn]at hx
      split at hx
      ·rename_i hlt
       rw[List.getElem?_take,if_pos hlt]at hx
       exact⟨fun q=>by omega,fun _=>hx⟩
      ·rename_i hge
       rw[List.getElem?_append]at hx
       split at hx
       ·rename_i hlt
        exact⟨fun _=>hx,fun q=>by omega⟩
       ·rename_i hge2
        rw[List.getElem?_drop]at hx
        refine⟨fun q=>by omega,fun _=> ?_⟩
        rw[show j+xs.length+(j' - j - xs.length)=j' by omega]at hx
        exact hx
     ·rw[Nat.min_eq_right (by omega)]at hplen
      have hxs:xs.length=0:=by omega
      rw[List.getElem?_append]at hx
      simp only[List.length_take,Nat.min_eq_right (show cs.length<=j by omega)]at hx
      rw[if_pos (by omega),List.getElem?_take,if_pos (by omega)]at hx
      exact⟨fun q=>by omega,fun _=>hx⟩
    obtain⟨k1,k2⟩:=hput x hx
    refine⟨fun q=>⟨x,k1 ⟨q.2.1,q.2.2⟩,hxl⟩,fun q=> ?_⟩
    have hcx:=k2 fun q'=>q ⟨rfl,q'⟩
    have hxd:x.isData=true:=hc.data _ x (by rw[hcs];exact List.mem_of_getElem? hcx)
    rw[le_data hxl hxd]
    have:j' < cs.length:=by omega
    rw[getD_some this]
    simpa[this]using hcx.symm
   ·have hset:((view d).2.set i a).getD i' (view d).1.dflt=(view d).2.getD i' (view d).1.dflt:=by
     rw[getD_some (by simpa using hi'),getD_some hi',List.getElem_set_ne (by omega)]
    rw[hset]
    exact⟨fun q=>absurd q.1 hii,fun _=>rfl⟩
  ·cases hm
 ·rw[hcat]at hm
  unfold Vw.cat at hm
  split at hm
  ·rename_i l2 hl2
   injection hm with hm
   subst hm
   have hv:=h.vw d1 ((view d1).2++l2)
   have hv2:=h.prj d1 d2 l2 hl2
   simp only[hsz,hln,hcl,hv,hv2]
   refine⟨rfl,rfl,by simp[Vw.len],fun i j hi=> ?_,fun i j hi=> ?_⟩<;>simp only[Vw.cell,Vw.len]
   ·have hi:i < (view d1).2.length:=hi
    have e:((view d1).2++l2).getD i (view d1).1.dflt=(view d1).2.getD i (view d1).1.dflt:=by rw[getD_some (by simp;omega),getD_some hi,List.getElem_append_left hi]
    rw[e]
   ·have hi:i < l2.length:=hi
    have e:((view d1).2++l2).getD ((view d1).2.length+i) (view d1).1.dflt=l2.getD i (view d1).1.dflt:=by
     rw[getD_some (by simp;omega),getD_some hi,List.getElem_append_right (by omega)]
     simp
    rw[e]
  ·cases hm
 ·have hm:=(hsub _ _ _ _ hm).1
  unfold Vw.sub at hm
  injection hm with hm
  subst hm
  rw[hln]at hj
  have hj:j<=(view d).2.length:=hj
  have hv:=h.vw d (((view d).2.take j).drop i)
  simp only[hsz,hln,hcl,hv]
  refine⟨rfl,by simp[Vw.len];omega,fun k c hk=> ?_⟩
  simp only[Vw.cell]
  have e:(((view d).2.take j).drop i).getD k (view d).1.dflt=(view d).2.getD (i+k) (view d).1.dflt:=by
   rw[getD_some (by simp;omega),getD_some (by omega)]
   simp
  rw[e]
 ·obtain⟨E,l,hE,hl,rfl⟩:=hmk e n cs d hm
  rw[hmp];exact hM.el e E hE l
 ·obtain⟨E,z,hE,hz,rfl⟩:=hzr e n zs d hm
  rw[hmp];exact hM.el e E hE _
 ·rw[hset]at hm
  unfold Vw.set at hm
  split at hm
  ·injection hm with hm
   subst hm
   rw[hmp];exact hM.inj _ _
  ·cases hm
 ·rw[hcat]at hm
  unfold Vw.cat at hm
  split at hm
  ·injection hm with hm
   subst hm
   rw[hmp];exact hM.inj _ _
  ·cases hm
 ·obtain⟨h1,h2⟩:=hsub _ _ _ _ hm
  unfold Vw.sub at h1
  injection h1 with h1
  subst h1
  rw[hmp,hmp];exact⟨h2,hM.inj _ _⟩
 ·rw[htt]at hm;rw[hmp];exact hM.txt _ _ _ hm
 ·rw[hmp]at hm;rw[hln,hsz];exact hM.size d m hm
 ·rw[hnw]at hd
  obtain⟨m,h1,h2⟩:=hM.new _ _ hd
  exact⟨m,by rw[hmp];exact h1,h2⟩
 ·rw[hgl]at hd;rw[hmp];exact hM.glob _ _ hd
end
attribute [instance] cInt_ok cBool_ok cStr_ok cIfc_ok cUnit_ok l0_ok aPtr_ok aOwn_ok aOpt_ok aArr_ok aFn_ok a0_ok
section
variable {D α β:Type}{S:Sh D}
instance iPair {c:Cod D α} {d:Cod D β} [hc:CodOk S c] [hd:CodOk S d]:CodOk S (cPair c d):=cPair_ok hc hd
instance iArr {n:Nat} {d:α} {c:Cod D α} [hc:CodOk S c]:CodOk S (cArr n d c):=cArr_ok hc
instance iL1 {c:Cod D α} [hc:CodOk S c]:LCodOk S (l1 c):=l1_ok hc
instance iLc {c:Cod D α} {r:LCod D β} [hc:CodOk S c] [hr:LCodOk S r]:LCodOk S (lCons c r):=lCons_ok hc hr
instance iLf {c:Cod D α} [hc:CodOk S c]:ArgOk1 S (aLf c):=aLf_ok hc
instance iAg {c:Cod D α} [hc:CodOk S c]:ArgOk1 S (aAgg c):=aAgg_ok hc
instance iA1 {c:Arg D α} [hc:ArgOk1 S c]:ACodOk S 1 (a1 c):=a1_ok hc
instance iAc {c:Arg D α} {r:ACod D β} {k:Nat} [hc:ArgOk1 S c] [hr:ACodOk S k r]:ACodOk S (k+1) (aCons c r):=aCons_ok hc hr
instance iBc {c:Cod D α} [hc:CodOk S c]:BlkOk S (bCells c):=bCells_ok hc
instance iB1 {c:Blk D α} [hc:BlkOk S c]:BCodOk S 1 (b1 c):=b1_ok hc
instance iBs {c:Blk D α} {r:BCod D β} {k:Nat} [hc:BlkOk S c] [hr:BCodOk S k r]:BCodOk S (k+1) (bCons c r):=bCons_ok hc hr
instance iSp {is:(Nat->Sl D)->List It} {c:LCod D α} [hc:LCodOk S c]:ShpOk S (shp is c):=shp_ok hc
instance iSr {is:List It} {c:LCod D α} [hc:LCodOk S c]:ShpOk S (shr is c):=shr_ok hc
theorem argsI {c:ACod D α}{k n:Nat}[hc:ACodOk S k c](hk:Nat.ble k n=true):ArgOk S (args c) 0 n:=args_ok hc hk
theorem argsBI {c:ACod D α}{b:BCod D β}{k m n:Nat}[hc:ACodOk S k c][hb:BCodOk S m b](hk:Nat.ble k n=true):ArgOk S (argsB c b) m n:=argsB_ok hc hb hk
end
end Go.Vc
namespace Go.Vc
set_option linter.unusedVariables false
set_option linter.unusedSimpArgs false
section
variable {A R:Type}
end
theorem ctFam_ok {D:Type}{P:Program}{S:Sh D}{f:FuncId}{AS:ArgShp D}{RS:Shp D}{k:Nat}{keep:List Nat}{pre:Nat->AS.A->Option Prop}{fv:Nat->AS.A->RS.X}(h:∀n,CtOk P S f (ctN AS RS k keep (pre n) (fv n)))
  (pre':AS.A->Option Prop) (fv':AS.A->RS.X) (hn:∀a,preP (pre' a)->∃n,preP (pre n a)/\fv n a=fv' a):CtOk P S f (ctN AS RS k keep pre' fv'):=by
 refine⟨(h 0).enters,fun X N g w args sargs bks p r post kp hp hrel hc hpre=> ?_⟩
 unfold ctN at hc
 split at hc
 ·cases hc
 ·rename_i a ha
  injection hc with hc
  injection hc with c1 hc
  subst c1
  obtain⟨n,q1,q2⟩:=hn a (preD_map.1 hpre)
  refine(h n).calls X N g w args sargs bks ((pre n a).map dq) r post kp hp hrel ?_ (preD_map.2 q1)
  unfold ctN
  rw[ha]
  dsimp only
  rw[q2,<-hc]
end Go.Vc
namespace Go.Vc
open Go.RowKit Go.ChangeShapes Go.WideShapes Go.ChangeAt Go.Joins
set_option linter.unusedVariables false
set_option linter.unusedSimpArgs false
section
variable {H:Type}{enc:TypeId×Value->H}{P:Program}{W W':World}
theorem trodAll_below (hl:laidOutB P=true)(hb:Below W.heap.size W W'):∀{ts:List TypeId} {vs:List Value} {ds:List (DataW H)} {ps:List MemPlace},(ts.all fun t=>P.readableRec t && decide (t < P.types.size))=true->
  DataW.TrodAll enc P W 0 (fun _=>true) true ts vs ds ps->DataW.TrodAll enc P W' 0 (fun b=>decide (b < W.heap.size)) true ts vs ds ps
 | [],vs,ds,ps,_,h=>by
  obtain⟨rfl,rfl,rfl⟩:=trodAll_nil h
  exact trodAll_mk0
 | t::ts,vs,ds,ps,ht,h=>by
  simp only[List.all_cons,Bool.and_eq_true,decide_eq_true_eq]at ht
  obtain⟨v,vs',d,ds',p,q,rfl,rfl,rfl,h1,h2⟩:=trodAll_cons h
  have lt:∀x∈p,x.block < W.heap.size:=by obtain⟨m,hm⟩:=h1;exact DataW.trod_lt m _ _ _ hm
  exact trodAll_cons_mk (Below.trod hl ht.1.1 ht.1.2 h1 hb lt) (trodAll_below hl hb ht.2 h2)
theorem wf_in {k:IntKind}{n:Int}(h:(Lit.int k n).wf=true):InR k n:=by
 cases k<;>simp[Lit.wf,IntKind.min,IntKind.max,IntKind.signed,IntKind.bits]at h<;>simp only[InR]<;>omega
end
def NoN:Nat->Prop:=fun _=>False
section
variable {D α β:Type}{S:Sh D}{P:Program}
theorem datOk_cells {w:World}{d:D}{a:Option Addr}{n cap:Nat}(hn:n=S.len d)(hcap:n<=cap)(hlen:n<=9223372036854775807)(U:Nat->Nat->Value)
  (hcell:∀i j,i < S.len d->j < S.size d->∃ad,a=some ad/\w.cell? (ad.add (i*S.size d+j))=some (U i j))
  (hpl:∀i j,i < S.len d->j < S.size d->Lf.plain (S.cell d i j) (U i j))
  (hdat:∀i j d',i < S.len d->j < S.size d->S.cell d i j= .dat d'->DatOk S NoN w d' (U i j)) (hno:S.mp d=none):DatOk S NoN w d (.slice a n cap):=by
 intro w' hs
 subst hn
 refine DRel.mk d hno a cap U hcap hlen (fun i j hi hj=> ?_) hpl (fun i j d' hi hj he=>hdat i j d' hi hj he w' hs)
 obtain⟨ad,ha,hc⟩:=hcell i j hi hj
 refine⟨ad,ha,?_⟩
 have hb:(ad.add (i*S.size d+j)).block < w.heap.size:=by
  rcases Nat.lt_or_ge (ad.add (i*S.size d+j)).block w.heap.size with h | h
  ·exact h
  ·simp[World.cell?,Array.getElem?_eq_none h]at hc
 rw[<-hc]
 exact World.cell?_of_block (hs _ hb (fun h=>h))
def Opens (P:Program)(S:Sh D)(t:TypeId)(c:Cod D α)(good:α->Prop):Prop:=
 ∀{H:Type} {enc:TypeId×Value->H} {w:World} {base:Nat} {spare:Nat->Bool} {held:Bool} {fuel:Nat} {cs:List Value} {x:DataW H×List MemPlace},
  DataW.trod enc P w base spare held fuel t cs=some x->∃a,LfsRel S NoN w noG (c.enc a) cs/\good a
theorem opens_int {t:TypeId}{k:IntKind}(ht:P.underlying t=some (.int k)):Opens P S t (cInt k) (InR k):=by
 intro H enc w base spare held fuel cs x h
 obtain⟨n,rfl,_,hw⟩:=DataW.trod_int ht h
 exact⟨n,⟨rfl,trivial⟩,wf_in hw⟩
theorem opens_bool {t:TypeId}(ht:P.underlying t=some .bool):Opens P S t cBool fun _=>True:=by
 intro H enc w base spare held fuel cs x h
 obtain⟨b,rfl,_⟩:=DataW.trod_bool ht h
 exact⟨b,⟨rfl,trivial⟩,trivial⟩
theorem opens_str {t:TypeId}(ht:P.underlying t=some .string):Opens P S t cStr fun s=>s.length<=9223372036854775807:=by
 intro H enc w base spare held fuel cs x h
 obtain⟨s,rfl,_,hs⟩:=DataW.trod_string ht h
 have hl:s.data.toList.length<=9223372036854775807:=by
  unfold maxLen at hs
  have h2:s.data.toList.length=s.size:=Array.length_toList
  rw[h2]
  exact hs
 refine⟨s.data.toList,⟨⟨?_,hl⟩,trivial⟩,hl⟩
 cases s
 simp
theorem LfsRel.app {M:Nat->Prop}{w:World}{g:Nat->Option Value}:∀{xs ys:List (Lf D)} {us vs:List Value},LfsRel S M w g xs us->LfsRel S M w g ys vs->LfsRel S M w g (xs++ys) (us++vs)
 | [],_,[],_,_,k=>k
 | _::_,_,_::_,_,h,k=>⟨h.1,LfsRel.app h.2 k⟩
theorem list_of' {Q:Nat->α->Prop}:∀n,(∀i,i < n->∃a,Q i a)->∃l:List α,l.length=n/\∀(i:Nat) (h:i < l.length),Q i l[i]
 | 0,_=>⟨[],rfl,fun i h=>by simp at h⟩
 | n+1,h=>by
  obtain⟨l,hl,hq⟩:=list_of' n fun i hi=>h i (by omega)
  obtain⟨a,ha⟩:=h n (by omega)
  refine⟨l++[a],by simp[hl],fun i hi=> ?_⟩
  by_cases hlt:i < l.length
  ·rw[List.getElem_append_left hlt];exact hq i hlt
  ·have:i=l.length:=by simp at hi;omega
   subst this
   simp only[List.getElem_append_right (Nat.le_refl _),Nat.sub_self,List.getElem_cons_zero]
   rw[hl];exact ha
theorem LfsRel.getD' {M:Nat->Prop}{w:World}{g:Nat->Option Value}{xs:List (Lf D)}{vs:List Value}{j:Nat}(h:LfsRel S M w g xs vs)(hj:j < xs.length):∃v,vs[j]? =some v/\(xs.getD j .any).Rel S M w g v:=by
 have:xs[j]? =some (xs.getD j .any):=by simp[List.getD,hj]
 exact LfsRel.get j h this
def scal:TypeDesc->Bool
 | .int _ | .bool | .string | .slice _=>true
 | _=>false
def rsLaw:Shp D:=shr [.slot 0 false [none]] (l1 cBool)
end
end Go.Vc
