/- Own engine: Vdl. -/
import Derived.Test.YtenjjcfebflefaaGreatDoorEng6
set_option linter.unusedVariables false
set_option linter.unusedSimpArgs false
namespace Go.Vc
open Go.RowKit
inductive It where
 | slot (t:Nat) (agg:Bool) (own:List (Option TypeId))
 | cells (l:Nat) (own:List (Option TypeId))
 | row (l:Nat) (e:TypeId)
 | iter (l:Nat)
 | tcs (l:Nat) (t:TypeId) (own:List (Option TypeId))
 | afL (l:Nat)
def D_:Value->Bool
 | .slice none 0 0=>true
 | _=>false
def It.ids:It->List Nat
 | .slot _ _ _=>[]
 | .cells l _=>[l]
 | .row l _=>[l]
 | .iter l=>[l]
 | .tcs l _ _=>[l]
 | .afL l=>[l]
section
variable {D:Type}
def ahJ (a:Nat->Option (Bk D))(f:Option TypeId)(x:Lf D):Option (Lf D×List (Nat×Bool)):=
 match f with
 | none=>(match x with
  | .own c=>(match a c with
   | some (.row _ d)=>some (.dat d,[(c,true)])
   | some (.xZ d)=>some (.dat d,[])
   | some (.map d)=>some (.dat d,[(c,true)])
   | _=>none)
  | .part c _ _ _ f=>(match a c with
   | some (.row _ d)=>(match f d with
    | some b=>some (.dat b,[(c,true)])
    | none=>none)
   | some (.xZ d)=>(match f d with
    | some b=>some (.dat b,[])
    | none=>none)
   | _=>none)
  | x=>some (x,[]))
 | some e=>(match x with
  | .own c=>(match a c with
   | some (.row g d)=>if Nat.beq e g then some (.dat d,[(c,false)])else none
   | _=>none)
  | .val v=>if D_ v then some (.val v,[])else none
  | _=>none)
def uI (a:Nat->Option (Bk D)):List (Option TypeId)->List (Lf D)->Option (List (Lf D)×List (Nat×Bool))
 | [],[]=>some ([],[])
 | f::b,x::d=>
  (match ahJ a f x,uI a b d with
  | some (c,m),some (cs,e)=>some (c::cs,m++e)
  | _,_=>none)
 | _,_=>none
def Cj (f:Nat->Sl D)(a:Nat->Option (Bk D)):It->Option (List (Lf D)×List (Nat×Bool))
 | .slot t c own=>(match f t with
  | .one (.lf x)=>if c then none else uI a own [x]
  | .one (.agg b)=>if c then uI a own b else none
  | _=>none)
 | .cells l own=>(match a l with
  | some (.cells b)=>uI a own b
  | _=>none)
 | .row l e=>(match a l with
  | some (.row h d)=>if Nat.beq e h then some ([.dat d],[])else none
  | _=>none)
 | .iter l=>(match a l with
  | some (.iter s p)=>some ([.str s, .int .i64 p],[])
  | _=>none)
 | .tcs l t own=>(match a l with
  | some (.tc g b)=>if Nat.beq g t then uI a own b else none
  | _=>none)
 | .afL l=>(match a l with
  | some (.map d)=>some ([.dat d],[])
  | _=>none)
def Hm (a:Nat->Sl D)(b:Nat->Option (Bk D)):List It->Option (List (List (Lf D))×List (Nat×Bool))
 | []=>some ([],[])
 | i::e=>
  (match Cj a b i,Hm a b e with
  | some (c,m),some (cs,d)=>some (c::cs,m++d)
  | _,_=>none)
def Su (f:Option TypeId)(x:Lf D)(n:Nat):Lf D×List (Nat×Bk D)×Nat:=
 match f with
 | none=>(x,[],n)
 | some e=>(match x with
  | .dat d=>(.own n,[(n, .row e d)],n+1)
  | _=>(.any,[],n))
def mZ:List (Option TypeId)->List (Lf D)->Nat->List (Lf D)×List (Nat×Bk D)×Nat
 | f::a,x::b,n=>
  let p:=Su f x n
  let q:=mZ a b p.2.2
  (p.1::q.1,p.2.1++q.2.1,q.2.2)
 | _,_,n=>([],[],n)
def aDa:List (Lf D)->Sl D
 | [x]=> .one (.lf x)
 | _=> .one (.lf .any)
def acV:List (Lf D)->Option D
 | [.dat d]=>some d
 | _=>none
def eU:List It->List (List (Lf D))->Nat->List (Nat×Sl D)×List (Nat×Bk D)×Nat
 | .slot t b own::a,c::cs,n=>
  let p:=mZ own c n
  let q:=eU a cs p.2.2
  ((t,if b then .one (.agg p.1)else aDa p.1)::q.1,p.2.1++q.2.1,q.2.2)
 | .cells l own::a,c::cs,n=>
  let p:=mZ own c n
  let q:=eU a cs p.2.2
  (q.1,(l, .cells p.1)::p.2.1++q.2.1,q.2.2)
 | .row l e::a,c::cs,n=>
  let q:=eU a cs n
  (q.1,(match acV c with
   | some d=>(l, .row e d)::q.2.1
   | none=>q.2.1),q.2.2)
 | .iter l::a,c::cs,n=>
  let q:=eU a cs n
  (q.1,(match c with
   | [.str s, .int _ p]=>(l, .iter s p.toNat)::q.2.1
   | _=>q.2.1),q.2.2)
 | .tcs l t own::a,c::cs,n=>
  let p:=mZ own c n
  let q:=eU a cs p.2.2
  (q.1,(l, .tc t p.1)::p.2.1++q.2.1,q.2.2)
 | .afL l::a,c::cs,n=>
  let q:=eU a cs n
  (q.1,(match acV c with
   | some d=>(l, .map d)::q.2.1
   | none=>q.2.1),q.2.2)
 | _,_,n=>([],[],n)
def ZV (S:Sh D):List (Lf D)->List (Lf D)->Prop
 | [],[]=>True
 | x::a,y::b=>x.Le S y/\y.jY=true/\ZV S a b
 | _,_=>False
def aln (S:Sh D):List (List (Lf D))->List (List (Lf D))->Prop
 | [],[]=>True
 | x::a,y::b=>ZV S x y/\aln S a b
 | _,_=>False
end
section
variable {D:Type}{S:Sh D}{N:Nat->Prop}{w:World}{w0:Bs}{g:Nat->Option Value}{slot:Nat->Sl D}{blk:Nat->Option (Bk D)}{al:Nat->Prop}{val:Nat->Value}
abbrev Asg:=List (Nat×Value×Option Nat)
structure Pj (N:Nat->Prop)(blk:Nat->Option (Bk D))(g:Nat->Option Value)(yu:Asg)(mv:List (Nat×Bool))(g':Nat->Option Value)(M':Nat->Prop):Prop where
 c2:∀i v o,(i,v,o)∈yu->g' i=some v
 c3:∀b,M' b->aY N blk g b
 c4:∀c,(c,true)∈mv->∀v b,g c=some v->eH v=some b->¬M' b
theorem Pj.less {d a:Asg}{j b:List (Nat×Bool)}{e:Nat->Option Value}{f:Nat->Prop}(h:Pj N blk g d j e f)(n:∀x∈a,x∈d)(k:∀x∈b,x∈j):Pj N blk g a b e f:=
 ⟨fun i v o m=>h.c2 i v o (n _ m),h.c3,fun c l=>h.c4 c (k _ l)⟩
def aco (S:Sh D)(a:Nat->Option (Bk D))(g:Nat->Option Value)(b:List (Nat×Bool))(e:TypeId)(d:D)(v:Value):Option Nat->Prop
 | some c=>a c=some (.row e d)/\g c=some v/\(c,false)∈b
 | none=>v= .slice none 0 0/\S.len d=0/\S.mp d=none
theorem aco.more {b a:List (Nat×Bool)}{e:TypeId}{d:D}{v:Value}{o:Option Nat}(h:aco S blk g b e d v o)(f:∀x∈b,x∈a):aco S blk g a e d v o:=by
 cases o with
 | none=>exact h
 | some c=>exact⟨h.1,h.2.1,f _ h.2.2⟩
structure vg (S:Sh D)(blk:Nat->Option (Bk D))(g:Nat->Option Value)(mv:List (Nat×Bool))(yu:Asg)(rows:List (Nat×Bk D))(n n':Nat):Prop where
 le:n<=n'
 rng:∀i v o,(i,v,o)∈yu->n<=i/\i < n'
 uni:∀i v o v' o',(i,v,o)∈yu->(i,v',o')∈yu->v=v'
 ok:∀i v o,(i,v,o)∈yu->∃e d,aco S blk g mv e d v o
 inj:(mv.map (·.1)).Nodup->∀i v i' v' c,(i,v,some c)∈yu->(i',v',some c)∈yu->i=i'
 rows:∀i bk,(i,bk)∈rows->∃v o e d,(i,v,o)∈yu/\bk= .row e d/\aco S blk g mv e d v o
theorem vg.nil (n:Nat):vg S blk g [] [] [] n n:=⟨rC _,fun _ _ _ h=>by simp at h,fun _ _ _ _ _ h=>by simp at h,fun _ _ _ h=>by simp at h,fun _ _ _ _ _ _ h=>by simp at h,fun _ _ h=>by simp at h⟩
theorem vg.app {p j:List (Nat×Bool)}{F A:Asg}{r m:List (Nat×Bk D)}{n G y:Nat}(h:vg S blk g p F r n G)(k:vg S blk g j A m G y):vg S blk g (p++j) (F++A) (r++m) n y:=by
 have l1:∀x∈p,x∈p++j:=fun x B=>Qb6 _ B
 have I:∀x∈j,x∈p++j:=fun x B=>Qb3 _ B
 refine⟨KF h.le k.le,fun i v o a=> ?_,fun i v o l o' f b=> ?_,fun i v o a=> ?_,fun u i v w l c f b=> ?_,fun i H a=> ?_⟩
 ·rcases vN.1 a with a | a
  ·have:=h.rng i v o a;have:=k.le;omega
  ·have:=k.rng i v o a;have:=h.le;omega
 ·rcases vN.1 f with f | f<;>rcases vN.1 b with b | b
  ·exact h.uni i v o l o' f b
  ·have:=h.rng i v o f;have:=k.rng i l o' b;omega
  ·have:=k.rng i v o f;have:=h.rng i l o' b;omega
  ·exact k.uni i v o l o' f b
 ·rcases vN.1 a with a | a
  ·obtain⟨e,d,q⟩:=h.ok i v o a;exact⟨e,d,q.more l1⟩
  ·obtain⟨e,d,q⟩:=k.ok i v o a;exact⟨e,d,q.more I⟩
 ·rw[Qef,Qd2]at u;have z:∀c,(c,false)∈p->(c,false)∈j->False:=fun c s t=>u.2.2 c (JC.2 ⟨_,s,rfl⟩) c (JC.2 ⟨_,t,rfl⟩) rfl
  rcases vN.1 f with f | f<;>rcases vN.1 b with b | b
  ·exact h.inj u.1 i v w l c f b
  ·obtain⟨e,d,q⟩:=h.ok i v _ f;obtain⟨J,K,C⟩:=k.ok w l _ b;exact(z c q.2.2 C.2.2).elim
  ·obtain⟨e,d,q⟩:=k.ok i v _ f;obtain⟨J,K,C⟩:=h.ok w l _ b;exact(z c C.2.2 q.2.2).elim
  ·exact k.inj u.2.1 i v w l c f b
 ·rcases vN.1 a with a | a
  ·obtain⟨v,o,e,d,s,t,E⟩:=h.rows i H a;exact⟨v,o,e,d,Qb6 _ s,t,E.more l1⟩
  ·obtain⟨v,o,e,d,s,t,E⟩:=k.rows i H a;exact⟨v,o,e,d,Qb3 _ s,t,E.more I⟩
theorem X5 {M a:Nat->Prop}{e:Nat->Option Value}{x:Lf D}{v:Value}(d:x.jY=true)(h:x.Rel S M w g v)(c:∀b,a b->M b):x.Rel S a w e v:=by
 cases x<;>first | (simp[Lf.jY]at d;done) | exact h | exact dF.mono h c
theorem aiQ {v:Value}(h:D_ v=true):v= .slice none 0 0:=by
 unfold D_ at h
 grind
theorem EK {d:D}{y:Lf D}(h:(Lf.dat d).Le S y):y= .dat d:=by
 rcases h with h | ⟨h,_⟩ | ⟨b,h,_⟩ | ⟨_,_,_,_,h,_⟩ | ⟨_,h,_⟩
 ·exact h.symm
 ·cases h
 ·cases h
 ·cases h
 ·cases h
theorem aDM {y:Lf D}(h:(Lf.val (.slice none 0 0)).Le S y)(a:y.jY=true):∃d,y= .dat d/\S.len d=0/\S.mp d=none:=by
 rcases h with h | ⟨_,h⟩ | ⟨b,h,_⟩ | ⟨_,_,_,_,h,_⟩ | ⟨_,h,_⟩
 ·subst h;simp[Lf.jY]at a
 ·exact h
 ·cases h
 ·cases h
 ·cases h
theorem aHr (M:iZ S)(H:Hp S w0 N blk g al w){f:Option TypeId}{x c G:Lf D}{u:Value}{Q:List (Nat×Bool)}{n:Nat}(l:x.Rel S (aY N blk g) w g u)(a:ahJ blk f x=some (c,Q))(E:c.Le S G)(L:G.jY=true):
  ∃Y,vg S blk g Q Y (Su f G n).2.1 n (Su f G n).2.2/\∀A r,Pj N blk g Y Q A r->(Su f G n).1.Rel S r w A u:=by
 unfold ahJ at a;cases f with
 | none=>
  dsimp only at a;simp only[Su];cases x with
  | own k=>
   dsimp only at a;have l:g k=some u:=l;split at a
   ·rename_i e d z;injection a with a
    injection a with p s
    subst p s;refine⟨[],⟨rC _,fun _ _ _ h=>by simp at h,fun _ _ _ _ _ h=>by simp at h,fun _ _ _ h=>by simp at h,fun _ _ _ _ _ _ h=>by simp at h,fun _ _ h=>by simp at h⟩,fun A r q=> ?_⟩;rw[EK E];exact OH H z l q.c3 fun b C=>q.c4 k kM u b l C
   ·rename_i d z;injection a with a
    injection a with p s
    subst p s;refine⟨[],vg.nil _,fun A r q=> ?_⟩;rw[EK E];obtain⟨J,t,K⟩:=H.dD k _ z;rw[l]at t;injection t with t
    subst t;exact dF.mono K q.c3
   ·rename_i d z;injection a with a
    injection a with p s
    subst p s;refine⟨[],⟨rC _,fun _ _ _ h=>by simp at h,fun _ _ _ _ _ h=>by simp at h,fun _ _ _ h=>by simp at h,fun _ _ _ _ _ _ h=>by simp at h,fun _ _ h=>by simp at h⟩,fun A r q=> ?_⟩;rw[EK E];exact ao8 (fun d m h=>⟨(M.zJ d m h).1,(M.zJ d m h).2.1⟩) H z l fun b C=>q.c4 k kM u b l C
   ·cases a
  | part k i j X f=>
   dsimp only at a;obtain⟨av,nn,O,V,rfl,p,s,rfl⟩:=l;have P:∀(r:Nat->Prop) d F,dF S r w d (.slice av nn O)->aaU S X i j d=some F->dF S r w F (sliced av i j O X):=by
    intro r d F L B;unfold aaU at B;split at B
    ·rename_i I;have I:=Qa I;obtain⟨a',cap',Z,_⟩:=dF.slice' L (M.Ht _ _ _ _ B).1;injection Z with _ Z _
     have:=IC M L B p au
     grind
    ·cases B
   split at a
   ·rename_i e d z;split at a
    ·rename_i F B;injection a with a
     injection a with T U
     subst T U;refine⟨[],⟨rC _,fun _ _ _ h=>by simp at h,fun _ _ _ _ _ h=>by simp at h,fun _ _ _ h=>by simp at h,fun _ _ _ _ _ _ h=>by simp at h,fun _ _ h=>by simp at h⟩,fun A r q=> ?_⟩;rw[EK E];exact P r d F (OH H z V q.c3 fun b C=>q.c4 k kM _ b V C) B
    ·cases a
   ·rename_i d z;split at a
    ·rename_i F B;injection a with a
     injection a with T U
     subst T U;refine⟨[],vg.nil _,fun A r q=> ?_⟩;rw[EK E];obtain⟨J,t,K⟩:=H.dD k _ z;rw[V]at t;injection t with t
     subst t;exact P r d F (dF.mono K q.c3) B
    ·cases a
   ·cases a
  | _=>
   injection a with a
   injection a with p s
   subst p s;exact⟨[],vg.nil _,fun A r q=>X5 L (Lf.Le.rel E l) q.c3⟩
 | some e=>
  dsimp only at a;cases x with
  | own k=>
   dsimp only at a;have l:g k=some u:=l;split at a
   ·rename_i e' d z;split at a
    ·rename_i R;have R:=Qa R;subst R;injection a with a
     injection a with p s
     subst p s;have:=EK E;subst this;simp only[Su];refine⟨[(n,u,some k)],⟨by omega,fun i v o y=> ?_,fun i v o J o' p s=> ?_,fun i v o y=> ?_,fun _ i v i' J c p s=> ?_,fun i bk y=> ?_⟩,fun A r q=>q.c2 n u (some k) kM⟩
     ·grind
     ·grind
     ·simp only[FY,Qbw]at y;obtain⟨rfl,rfl,rfl⟩:=y;exact⟨e,d,z,l,by simp⟩
     ·grind
     ·simp only[FY,Qbw]at y;obtain⟨rfl,rfl⟩:=y;exact⟨u,some k,e,d,by simp,rfl,z,l,by simp⟩
    ·cases a
   ·cases a
  | val v=>
   dsimp only at a;split at a
   ·rename_i W;have W:=aiQ W;subst W;injection a with a
    injection a with p s
    subst p s;obtain⟨d,rfl,I⟩:=aDM E L;have l:u=_:=l;simp only[Su];refine⟨[(n,u,none)],⟨by omega,fun i v o y=> ?_,fun i v o J o' p s=> ?_,fun i v o y=> ?_,fun _ i v i' J c p s=> ?_,fun i bk y=> ?_⟩,fun A r q=>q.c2 n u none kM⟩
    ·grind
    ·grind
    ·simp only[FY,Qbw]at y;obtain⟨rfl,rfl,rfl⟩:=y;exact⟨e,d,l,I⟩
    ·grind
    ·simp only[FY,Qbw]at y;obtain⟨rfl,rfl⟩:=y;exact⟨u,none,e,d,by simp,rfl,l,I⟩
   ·cases a
  | _=>cases a
theorem acA (y:iZ S)(t:Hp S w0 N blk g al w):∀(h:List (Option TypeId)) (p cs a:List (Lf D)) (d:List Value) (l:List (Nat×Bool)) (n:Nat),bf S (aY N blk g) w g p d->uI blk h p=some (cs,l)->ZV S cs a->
  ∃s,vg S blk g l s (mZ h a n).2.1 n (mZ h a n).2.2/\∀j k,Pj N blk g s l j k->bf S k w j (mZ h a n).1 d
 | [],[],cs,a,d,l,n,o,b,i=>by
  injection b with b
  injection b with r q
  subst r q;cases a with
  | cons _ _=>exact i.elim
  | nil=>
   cases d with
   | cons _ _=>exact o.elim
   | nil=>exact⟨[],vg.nil _,fun _ _ _=>trivial⟩
 | [],_::_,_,_,_,_,_,_,b,_=>by simp[uI]at b
 | _::_,[],_,_,_,_,_,_,b,_=>by simp[uI]at b
 | f::h,x::p,cs,a,d,l,n,o,b,i=>by
  unfold uI at b;split at b
  ·rename_i c m v F r q;injection b with b
   injection b with G C
   subst G C;cases a with
   | nil=>exact i.elim
   | cons E a=>
    cases d with
    | nil=>exact o.elim
    | cons u d=>
     obtain⟨a1,H,A⟩:=aHr y t (n:=n) o.1 r i.1 i.2.1;obtain⟨a2,B,I⟩:=acA y t h p v a d F (Su f E n).2.2 o.2 q i.2.2;refine⟨a1++a2,H.app B,fun j k z=>⟨A j k (z.less (fun x e=>Qb6 _ e) (fun x e=>Qb6 _ e)),I j k (z.less (fun x e=>Qb3 _ e) (fun x e=>Qb3 _ e))⟩⟩
  ·cases b
def Rw (S:Sh D)(N:Nat->Prop)(h:Bs)(w:World)(a:Nat->Option (Bk D))(g:Nat->Option Value)(ids:List Nat)(c:Asg)(f:List (Nat×Bool))(i:List (Nat×Bk D)):Prop:=
 ∀l b,(l,b)∈i->(∃v o e d,(l,v,o)∈c/\b= .row e d/\aco S a g f e d v o)\/
  (l∈ids/\hot (a l)=true/\∃v,g l=some v/\∀g' M',Pj N a g c f g' M'->zS S M' w g' h b v)
theorem av2 (hS:iZ S)(hp:Hp S w0 N blk g al w)(hs:∀t,(slot t).Rel S (aY N blk g) w g (val t)):∀(Y:List It) (cs H:List (List (Lf D))) (P:List (Nat×Bool)) (n:Nat),Hm slot blk Y=some (cs,P)->aln S cs H->
  ∃Z,vg S blk g P Z [] n (eU Y H n).2.2/\(∀t y,(t,y)∈(eU Y H n).1->∀q r,Pj N blk g Z P q r->y.Rel S r w q (val t))/\
   Rw S N w0 w blk g (Y.flatMap It.ids) Z P (eU Y H n).2.1
 | [],cs,H,P,n,ha,G=>by
  injection ha with ha
  injection ha with f h2
  subst f h2;exact⟨[],by simpa[eU]using vg.nil n,fun t y h=>by simp[eU]at h,fun l M h=>by simp[eU]at h⟩
 | i::Y,cs,H,P,n,ha,G=>by
  unfold Hm at ha;split at ha
  ·rename_i c m cs0 ms f h2;injection ha with ha
   injection ha with e1 e2
   subst e1 e2;cases H with
   | nil=>exact G.elim
   | cons E H=>
    have Q:=fun n=>av2 hS hp hs Y cs0 H ms n h2 G.2
    have R:∀{α:Type} {a b:List α},∀x∈a,x∈a++b:=fun x hx=>Qb6 _ hx
    have L:∀{α:Type} {a b:List α},∀x∈b,x∈a++b:=fun x hx=>Qb3 _ hx
    have amP:∀{P:List (Nat×Bool)} {Z:Asg} {V:List (Nat×Bk D)} {n n':Nat},vg S blk g P Z V n n'->vg S blk g P Z [] n n':=fun k=>⟨k.le,k.rng,k.uni,k.ok,k.inj,fun _ _ h=>by simp at h⟩
    have lift:∀{ids:List Nat} {a1 a2:Asg} {bs:List (Nat×Bk D)},Rw S N w0 w blk g ids a2 ms bs->∀amM,(∀x∈ids,x∈amM)->Rw S N w0 w blk g amM (a1++a2) (m++ms) bs:=by
     intro ids a1 a2 bs h amM hi l M G;rcases h l M G with⟨v,o,e,d,I,J,q3⟩ | ⟨I,J,v,q3,q4⟩
     ·exact .inl ⟨v,o,e,d,L _ I,J,q3.more L⟩
     ·exact .inr ⟨hi _ I,J,v,q3,fun q r C=>q4 q r (C.less L L)⟩
    have amU:∀{ids:List Nat} {a1 a2:Asg} {V:List (Nat×Bk D)} {n n':Nat},vg S blk g m a1 V n n'->Rw S N w0 w blk g ids (a1++a2) (m++ms) V:=by
     intro ids a1 a2 V n n' k l M G;obtain⟨v,o,e,d,I,J,q3⟩:=k.rows l M G;exact .inl ⟨v,o,e,d,R _ I,J,q3.more R⟩
    have both:∀{ids:List Nat} {a:Asg} {P:List (Nat×Bool)} {b1 b2:List (Nat×Bk D)},Rw S N w0 w blk g ids a P b1->Rw S N w0 w blk g ids a P b2->Rw S N w0 w blk g ids a P (b1++b2):=by
     intro ids a P b1 b2 f h2 l M G;rcases vN.1 G with G | G
     ·exact f l M G
     ·exact h2 l M G
    cases i with
    | slot t agg own=>
     simp only[Cj]at f;have key:∀T us,bf S (aY N blk g) w g T us->uI blk own T=some (c,m)->(∀q r,bf S r w q (mZ own E n).1 us->(if agg=true then Sl.one (.agg (mZ own E n).1)else aDa (mZ own E n).1).Rel S r w q (val t))->
       ∃Z,vg S blk g (m++ms) Z [] n (eU (.slot t agg own::Y) (E::H) n).2.2/\(∀K y,(K,y)∈(eU (.slot t agg own::Y) (E::H) n).1->∀q r,Pj N blk g Z (m++ms) q r->y.Rel S r w q (val K))/\
        Rw S N w0 w blk g ((It.slot t agg own::Y).flatMap It.ids) Z (m++ms) (eU (.slot t agg own::Y) (E::H) n).2.1:=by
      intro T us hxu hab hfin;obtain⟨a1,k1,r1⟩:=acA hS hp own T c E us m n hxu hab G.1;obtain⟨a2,U,X,b2⟩:=Q (mZ own E n).2.2;simp only[eU];refine⟨a1++a2,by simpa using(amP k1).app U,fun K y B q r C=> ?_,both (amU k1) (lift b2 _ fun x hx=>by grind)⟩;rcases zN.1 B with B | B
      ·injection B with I J
       subst I J;exact hfin q r (r1 q r (C.less R R))
      ·exact X K y B q r (C.less L L)
     have ht:=hs t;split at f
     ·rename_i x hx;rw[hx]at ht;split at f
      ·cases f
      ·rename_i hagg;refine key [x] [val t] ⟨ht,trivial⟩ f fun q r h=> ?_;rw[kT hagg];generalize (mZ own E n).1=ys at h;cases ys with
       | nil=>exact h.elim
       | cons y ys=>
        cases ys with
        | cons _ _=>exact h.2.elim
        | nil=>exact h.1
     ·rename_i T hx;rw[hx]at ht;split at f
      ·rename_i hagg;obtain⟨vs,W,hr⟩:=ht;refine key T vs hr f fun q r h=> ?_;rw[nI hagg,W];exact⟨vs,rfl,h⟩
      ·cases f
     ·cases f
    | cells l own=>
     simp only[Cj]at f;split at f
     ·rename_i T O;obtain⟨v,W,b,vs,ty,rfl,hm,hh,hr⟩:=hp.dD l _ O;obtain⟨a1,k1,r1⟩:=acA hS hp own T c E vs m n hr f G.1;obtain⟨a2,U,X,b2⟩:=Q (mZ own E n).2.2;simp only[eU];refine⟨a1++a2,by simpa using(amP k1).app U,fun K y B q r C=>X K y B q r (C.less L L),?_⟩;refine both (b1:=(l, .cells (mZ own E n).1)::(mZ own E n).2.1) ?_ (lift b2 _ fun x hx=>by grind);intro l' M A;rcases zN.1 A with A | A
      ·injection A with I J
       subst I J;exact .inr ⟨by simp[It.ids],by rw[O];rfl,_,W,fun q r C=>⟨b,vs,ty,rfl,hm,hh,r1 q r (C.less R R)⟩⟩
      ·exact amU (ids:=_) (a2:=a2) k1 l' M A
     ·cases f
    | tcs l t own=>
     simp only[Cj]at f;split at f
     ·rename_i K T O;split at f
      ·rename_i ht;have ht:=Qa ht;subst ht;obtain⟨v,W,b,vs,rfl,hm,hh,hr⟩:=hp.dD l _ O;obtain⟨a1,k1,r1⟩:=acA hS hp own T c E vs m n hr f G.1;obtain⟨a2,U,X,b2⟩:=Q (mZ own E n).2.2;simp only[eU];refine⟨a1++a2,by simpa using(amP k1).app U,fun K y B q r C=>X K y B q r (C.less L L),?_⟩;refine both (b1:=(l, .tc K (mZ own E n).1)::(mZ own E n).2.1) ?_ (lift b2 _ fun x hx=>by grind);intro l' M A;rcases zN.1 A with A | A
       ·injection A with I J
        subst I J;exact .inr ⟨by simp[It.ids],by rw[O];rfl,_,W,fun q r C=>⟨b,vs,rfl,hm,hh,r1 q r (C.less R R)⟩⟩
       ·exact amU (ids:=_) (a2:=a2) k1 l' M A
      ·cases f
     ·cases f
    | row l e=>
     simp only[Cj]at f;split at f
     ·rename_i e' d O;split at f
      ·rename_i he;have he:=Qa he;subst he;injection f with f
       injection f with I J
       subst I J;obtain⟨F,hl2⟩:=G;cases E with
       | nil=>exact F.elim
       | cons y ys=>
        cases ys with
        | cons _ _=>exact F.2.2.elim
        | nil=>
         have:=EK F.1;subst this;obtain⟨a2,U,X,b2⟩:=Q n;obtain⟨v,W,hok⟩:=hp.dD l _ O;simp only[eU,acV];refine⟨a2,by simpa using U,fun K y B q r C=>X K y B q r (by simpa using C),?_⟩;refine both (b1:=[(l, .row e d)]) (fun l' M A=> ?_) qb3;simp only[FY,Qbw]at A;obtain⟨rfl,rfl⟩:=A;refine .inr ⟨by simp[It.ids],by rw[O];rfl,v,W,fun q r C=> ?_⟩;obtain⟨JK,T,hown,hcell⟩:=hok;refine⟨JK,T,hown,fun i j hi hj=> ?_⟩;obtain⟨u,k1,k3,k4⟩:=hcell i j hi hj;exact⟨u,k1,k3,X5 k3 k4 C.c3⟩
      ·cases f
     ·cases f
    | iter l=>
     simp only[Cj]at f;split at f
     ·rename_i s p O;injection f with f
      injection f with I J
      subst I J;obtain⟨F,hl2⟩:=G;cases E with
      | nil=>exact F.elim
      | cons y ys=>
       cases ys with
       | nil=>exact F.2.2.elim
       | cons z zs=>
        cases zs with
        | cons _ _=>exact F.2.2.2.2.elim
        | nil=>
         have e1:y= .str s:=by
          rcases F.1 with h | ⟨h,_⟩ | ⟨b,h,_⟩ | ⟨_,_,_,_,h,_⟩ | ⟨_,h,_⟩
          ·exact h.symm
          ·cases h
          ·cases h
          ·cases h
          ·cases h
         have e2:z= .int .i64 p:=by
          rcases F.2.2.1 with h | ⟨h,_⟩ | ⟨b,h,_⟩ | ⟨_,_,_,_,h,_⟩ | ⟨_,h,_⟩
          ·exact h.symm
          ·cases h
          ·cases h
          ·cases h
          ·cases h
         subst e1 e2;obtain⟨a2,U,X,b2⟩:=Q n;obtain⟨v,W,hok⟩:=hp.dD l _ O;simp only[eU,uZ];refine⟨a2,by simpa using U,fun K y B q r C=>X K y B q r (by simpa using C),?_⟩;refine both (b1:=[(l, .iter s p)]) (fun l' M A=> ?_) qb3;simp only[FY,Qbw]at A;obtain⟨rfl,rfl⟩:=A;exact .inr ⟨by simp[It.ids],by rw[O];rfl,v,W,fun q r C=>hok⟩
     ·cases f
    | afL l=>
     simp only[Cj]at f;split at f
     ·rename_i d O;injection f with f
      injection f with I J
      subst I J;obtain⟨F,hl2⟩:=G;cases E with
      | nil=>exact F.elim
      | cons y ys=>
       cases ys with
       | cons _ _=>exact F.2.2.elim
       | nil=>
        have:=EK F.1;subst this;obtain⟨a2,U,X,b2⟩:=Q n;obtain⟨v,W,hok⟩:=hp.dD l _ O;simp only[eU,acV];refine⟨a2,by simpa using U,fun K y B q r C=>X K y B q r (by simpa using C),?_⟩;refine both (b1:=[(l, .map d)]) (fun l' M A=> ?_) qb3;simp only[FY,Qbw]at A;obtain⟨rfl,rfl⟩:=A;exact .inr ⟨by simp[It.ids],by rw[O];rfl,v,W,fun q r C=>hok⟩
     ·cases f
  ·cases ha
theorem avY {f:Option TypeId}{x c:Lf D}{d:List (Nat×Bool)}(h:ahJ blk f x=some (c,d)):∀p∈d,hot (blk p.1)=true:=by
 unfold ahJ at h;split at h
 ·split at h
  ·split at h
   ·rename_i b;injection h with h;injection h with _ h;subst h
    intro p a;simp only[FY]at a;subst a;rw[b];rfl
   ·grind
   ·rename_i b;injection h with h;injection h with _ h;subst h
    intro p a;simp only[FY]at a;subst a;rw[b];rfl
   ·cases h
  ·split at h
   ·rename_i b;split at h
    ·injection h with h;injection h with _ h;subst h
     intro p a;simp only[FY]at a;subst a;rw[b];rfl
    ·cases h
   ·split at h
    ·injection h with h;injection h with _ h;subst h;simp
    ·cases h
   ·cases h
  grind
 ·split at h
  ·split at h
   ·rename_i b;split at h
    ·injection h with h;injection h with _ h;subst h
     intro p a;simp only[FY]at a;subst a;rw[b];rfl
    ·cases h
   ·cases h
  ·split at h
   ·injection h with h;injection h with _ h;subst h;simp
   ·cases h
  ·cases h
theorem Cm:∀(e:List (Option TypeId)) (d cs:List (Lf D)) (b:List (Nat×Bool)),uI blk e d=some (cs,b)->∀p∈b,hot (blk p.1)=true
 | [],[],cs,b,h=>by injection h with h;grind
 | [],_::_,_,_,h=>by simp[uI]at h
 | _::_,[],_,_,h=>by simp[uI]at h
 | f::e,x::d,cs,b,h=>by
  unfold uI at h;split at h
  ·rename_i c m g i k j;injection h with h;injection h with _ h;subst h
   intro p a;rcases vN.1 a with a | a
   ·exact avY k p a
   ·exact Cm e d g i j p a
  ·cases h
theorem abL:∀(f:List It) (cs:List (List (Lf D))) (d:List (Nat×Bool)),Hm slot blk f=some (cs,d)->∀p∈d,hot (blk p.1)=true
 | [],cs,d,h=>by injection h with h;grind
 | i::f,cs,d,h=>by
  unfold Hm at h;split at h
  ·rename_i c m g j a k;injection h with h;injection h with _ h;subst h
   intro p b;rcases vN.1 b with b | b
   ·cases i with
    | slot t n own=>
     simp only[Cj]at a;split at a
     ·split at a
      ·cases a
      ·exact Cm _ _ _ _ a p b
     ·split at a
      ·exact Cm _ _ _ _ a p b
      ·cases a
     ·cases a
    | cells l own=>
     simp only[Cj]at a;split at a
     ·exact Cm _ _ _ _ a p b
     ·cases a
    | tcs l t own=>
     simp only[Cj]at a;split at a
     ·split at a
      ·exact Cm _ _ _ _ a p b
      ·cases a
     ·cases a
    | row l e=>
     simp only[Cj]at a
     grind
    | iter l=>
     simp only[Cj]at a
     grind
    | afL l=>
     simp only[Cj]at a
     grind
   ·exact abL f g j k p b
  ·cases h
theorem Lf.zK (y:Lf D):y.ren (fun l=>l)=y:=by cases y<;>simp[Lf.ren]
theorem Sv.zK (y:Sv D):y.ren (fun l=>l)=y:=by
 cases y with
 | lf x=>simp[Sv.ren,Lf.zK]
 | agg a=>
  have:Lf.ren (fun l=>l)=(id:Lf D->Lf D):=funext fun x=>Lf.zK x
  simp[Sv.ren,this]
theorem Sl.zK (y:Sl D):y.ren (fun l=>l)=y:=by
 cases y with
 | one x=>simp[Sl.ren,Sv.zK]
 | wU a=>
  have:Sv.ren (fun l=>l)=(id:Sv D->Sv D):=funext fun x=>Sv.zK x
  simp[Sl.ren,this]
theorem Bk.zK (y:Bk D):y.ren (fun l=>l)=y:=by
 cases y with
 | cells a=>
  have:Lf.ren (fun l=>l)=(id:Lf D->Lf D):=funext fun x=>Lf.zK x
  simp[Bk.ren,this]
 | row e d=>rfl
 | xZ d=>rfl
 | iter s p=>rfl
 | map b=>rfl
 | tc t a=>
  have:Lf.ren (fun l=>l)=(id:Lf D->Lf D):=funext fun x=>Lf.zK x
  simp[Bk.ren,this]
def lookA:Asg->Nat->Option Value
 | [],_=>none
 | (i,v,_)::r,l=>if i=l then some v else lookA r l
theorem Jc:∀{a:Asg} {l:Nat} {v:Value},lookA a l=some v->∃o,(l,v,o)∈a
 | [],_,_,h=>by simp[lookA]at h
 | (i,u,o)::r,l,v,h=>by
  unfold lookA at h;split at h
  ·grind
  ·obtain⟨o',b⟩:=Jc h
   grind
theorem Wq:∀{a:Asg} {l:Nat} {v:Value} {o:Option Nat},(l,v,o)∈a->∃u,lookA a l=some u
 | [],_,_,_,h=>by simp at h
 | (i,u,o')::r,l,v,o,h=>by
  unfold lookA;split
  ·grind
  ·rename_i e;rcases zN.1 h with h | h
   ·grind
   ·exact Wq h
theorem aqv {a:List (Nat×Bool)}(h:(a.map (·.1)).Nodup){c:Nat}{x y:Bool}(b:(c,x)∈a)(d:(c,y)∈a):x=y:=by
 induction a with
 | nil=>simp at b
 | cons p r e=>
  grind
def Ri:List (Nat×Sl D)->Nat->Option (Sl D)
 | [],_=>none
 | (k,v)::r,n=>if Nat.beq n k then some v else Ri r n
theorem abe:∀{l:List (Nat×Sl D)} {k:Nat} {v:Sl D},Ri l k=some v->(k,v)∈l
 | [],_,_,h=>by simp[Ri]at h
 | (a,b)::r,k,v,h=>by
  simp only[Ri]at h;split at h
  ·simp_all
  ·exact Qa9 _ (abe h)
def uT (c:List (Nat×Bk D))(a:Nat->Option (Bk D))(l:Nat):Option (Bk D):=
 match kX c l with
 | some b=>some b
 | none=>a l
def WY (b:List (Nat×Sl D))(a:Nat->Sl D)(t:Nat):Sl D:=
 match Ri b t with
 | some y=>y
 | none=>a t
theorem ag1 (hS:iZ S)(C:Hp S w0 N blk g al w)(hs:∀t,(slot t).Rel S (aY N blk g) w g (val t)){W:List It}{cs Y:List (List (Lf D))}{z:List (Nat×Bool)}{nx nx':Nat}{ss:List (Nat×Sl D)}{E:List (Nat×Bk D)}{DJ:Nat->Sl D}{Ji:Nat->Option (Bk D)}
  (ha:Hm slot blk W=some (cs,z)) (V:aln S cs Y) (hcon:eU W Y nx=(ss,E,nx')) (hnd:(z.map (·.1)).Nodup) (ajd:∀l∈W.flatMap It.ids,l < nx/\l∉z.map (·.1))
  (hbs:∀t,DJ t= .one (.lf .any)\/(slot t=DJ t/\∀l∈(DJ t).refs,l < nx)) (hbb:∀l I,Ji l=some I->l < nx/\blk l=some I/\(∀r∈I.refs,r < nx)/\l∉z.map (·.1)):
  ∃g',Hp S w0 N (uT E Ji) g' (· < nx') w/\(∀t,(WY ss DJ t).Rel S (aY N (uT E Ji) g') w g' (val t))/\(∀l,l < nx->g' l=g l):=by
 obtain⟨H,k,Q,L⟩:=av2 hS C hs W cs Y z nx ha V;rw[hcon]at k Q L;dsimp only at k Q L;have hmv:=abL W cs z ha;let g':Nat->Option Value:=fun l=>if l < nx then g l else lookA H l
 have B:∀l,l < nx->g' l=g l:=fun l h=>nI h
 have c2:∀i v o,(i,v,o)∈H->g' i=some v:=fun i v o P=>by
  have:=(k.rng i v o P).1;show(if i < nx then g i else lookA H i)=some v
  rw[kT au];obtain⟨u,M⟩:=Wq P;obtain⟨o',ho'⟩:=Jc M;rw[M,k.uni i v o u o' P ho']
 have aJS:∀{c:Nat} {x:Bool},(c,x)∈z->c∈z.map (·.1):=fun h=>JC.2 ⟨_,h,rfl⟩
 have src:∀l v b,hot (uT E Ji l)=true->g' l=some v->eH v=some b->∃c,hot (blk c)=true/\g c=some v/\((c=l/\l < nx/\l∉z.map (·.1))\/(nx<=l/\(c,false)∈z/\(l,v,some c)∈H)):=by
  intro l v b Z s p;obtain⟨I,A,Z⟩:=kN Z;unfold uT at A;split at A
  ·rename_i uG U;injection A with A
   subst A;rcases L l _ (um U)with⟨O,o,e,d,n,F,a⟩ | ⟨n,F,O,a,q4⟩
   ·rw[c2 l O o n]at s;injection s with s
    subst s;cases o with
    | none=>rw[a.1]at p;simp[eH]at p
    | some c=>exact⟨c,by rw[a.1];rfl,a.2.1, .inr ⟨(k.rng _ _ _ n).1,a.2.2,n⟩⟩
   grind
  grind
 have T:∀b,aY N (uT E Ji) g' b->aY N blk g b:=by
  rintro b (hn | ⟨l,v,X,R,G⟩)
  ·exact .inl hn
  ·obtain⟨c,n,F,_⟩:=src l v b X R G;exact .inr ⟨c,v,n,F,G⟩
 have c4:∀c,(c,true)∈z->∀v b,g c=some v->eH v=some b->¬aY N (uT E Ji) g' b:=by
  intro c hc v b hgc p hM;have hhc:hot (blk c)=true:=hmv (c,true) hc;rcases hM with hn | ⟨l,J,X,R,G⟩
  ·exact C.ajh hhc hgc p hn
  ·obtain⟨c',n,F,a⟩:=src l J b X R G;have:=C.sep c c' v J b hhc n hgc F p G;subst this;rcases a with⟨rfl,_,q⟩ | ⟨_,q,_⟩
   ·grind
   ·exact absurd (aqv hnd hc q) kM
 have hc:Pj N blk g H z g' (aY N (uT E Ji) g'):=⟨c2,T,c4⟩;refine⟨g',⟨C.below,C.hN,fun l I m=> ?_,?_,?_,?_,C.gl.mono T⟩,fun t=> ?_,B⟩
 ·unfold uT at m;split at m
  ·rename_i uG U;injection m with m
   subst m;rcases L l _ (um U)with⟨O,o,e,d,n,rfl,a⟩ | ⟨n,F,O,a,q4⟩
   ·refine⟨O,c2 l O o n,?_⟩;cases o with
    | none=>rw[a.1];exact⟨⟨fun b p=>by simp[eH]at p,by have:=a.2.1;omega,a.2.2⟩,[],⟨by simp[a.2.1], .inl ⟨rfl,a.2.1⟩⟩,fun i j P=>by have:=a.2.1;omega⟩
    | some c=>
     obtain⟨J,K,JK,xs,hown,aa⟩:=C.dD c _ a.1;rw[a.2.1]at K;injection K with K
     subst K;refine⟨JK,xs,hown,fun i j P hj=> ?_⟩;obtain⟨u,k1,k3,k4⟩:=aa i j P hj;exact⟨u,k1,k3,X5 k3 k4 T⟩
   grind
  ·obtain⟨r1,r2,r3,r4⟩:=hbb l I m;obtain⟨v,hv,hok⟩:=C.dD l I r2;refine⟨v,(B l r1).trans hv,?_⟩;have:=hok.ren (g':=g') (M':=aY N (uT E Ji) g') (f:=fun l=>l) (B':=w0) (fun l V u M=>(B l (r3 l V)).trans M) (fun _=>T) (fun Z b p=>(hok.lt Z p).2);rwa [Bk.zK]at this
 ·intro l l' v J b X R G h4 h5 h6;obtain⟨c,n,F,a⟩:=src l v b X G h5;obtain⟨c',q1',q2',q3'⟩:=src l' J b R h4 h6;have:=C.sep c c' v J b n q1' F q2' h5 h6;subst this;rcases a with⟨e,r1,r2⟩ | ⟨r1,r2,r3⟩<;>rcases q3' with⟨e',s1,s2⟩ | ⟨s1,s2,s3⟩
  ·omega
  ·grind
  ·grind
  ·exact k.inj hnd l v l' J c r3 s3
 ·intro l v s;have:=k.le;by_cases h:l < nx
  ·omega
  ·have s:lookA H l=some v:=by
    grind
   obtain⟨o,ho⟩:=Jc s;exact(k.rng l v o ho).2
 ·intro l v s;by_cases h:l < nx
  ·rw[B l h]at s;exact C.refs l v s
  ·have s:lookA H l=some v:=by
    grind
   obtain⟨o,ho⟩:=Jc s;obtain⟨e,d,q⟩:=k.ok l v o ho;cases o with
   | none=>rw[q.1];rfl
   | some c=>exact C.refs c v q.2.1
 ·unfold WY;split
  ·rename_i y hy;exact Q t y (abe hy) g' _ hc
  ·rcases hbs t with p | ⟨p,hr⟩
   ·rw[p];trivial
   ·have:=(hs t).ren (g':=g') (M':=aY N (uT E Ji) g') (f:=fun l=>l) (fun l V u M=>(B l (hr l (p▸V))).trans M) (fun _=>T);rw[Sl.zK]at this
    grind
end
end Go.Vc
