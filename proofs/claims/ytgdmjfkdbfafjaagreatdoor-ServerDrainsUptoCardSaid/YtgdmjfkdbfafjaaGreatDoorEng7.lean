/- Own engine: Vdl. -/
import Derived.Test.YtgdmjfkdbfafjaaGreatDoorEng6
set_option linter.unusedVariables false
set_option linter.unusedSimpArgs false
namespace Go.Vc
open Go.RowKit
inductive It where
 | slot (t:Nat) (agg:Bool) (own:List (Option TypeId))
 | cells (l:Nat) (own:List (Option TypeId))
 | row (l:Nat) (e:TypeId)
 | iter (l:Nat)
 | tcs (l:Nat) (t:TypeId) (own:List (Option TypeId))
 | afg (l:Nat)
def DT:Value->Bool
 | .slice none 0 0=>true
 | _=>false
def It.ids:It->List Nat
 | .slot _ _ _=>[]
 | .cells l _=>[l]
 | .row l _=>[l]
 | .iter l=>[l]
 | .tcs l _ _=>[l]
 | .afg l=>[l]
section
variable {D:Type}
def afw (a:Nat->Option (Bk D))(f:Option TypeId)(x:Lf D):Option (Lf D×List (Nat×Bool)):=
 match f with
 | none=>(match x with
  | .own c=>(match a c with
   | some (.row _ d)=>some (.dat d,[(c,true)])
   | some (.xZ d)=>some (.dat d,[])
   | some (.map d)=>some (.dat d,[(c,true)])
   | _=>none)
  | .part c _ _ _ f=>(match a c with
   | some (.row _ d)=>(match f d with
    | some b=>some (.dat b,[(c,true)])
    | none=>none)
   | some (.xZ d)=>(match f d with
    | some b=>some (.dat b,[])
    | none=>none)
   | _=>none)
  | x=>some (x,[]))
 | some e=>(match x with
  | .own c=>(match a c with
   | some (.row g d)=>if Nat.beq e g then some (.dat d,[(c,false)])else none
   | _=>none)
  | .val v=>if DT v then some (.val v,[])else none
  | _=>none)
def uz (a:Nat->Option (Bk D)):List (Option TypeId)->List (Lf D)->Option (List (Lf D)×List (Nat×Bool))
 | [],[]=>some ([],[])
 | f::b,x::d=>
  (match afw a f x,uz a b d with
  | some (c,m),some (cs,e)=>some (c::cs,m++e)
  | _,_=>none)
 | _,_=>none
def BA (f:Nat->Sl D)(a:Nat->Option (Bk D)):It->Option (List (Lf D)×List (Nat×Bool))
 | .slot t c own=>(match f t with
  | .one (.lf x)=>if c then none else uz a own [x]
  | .one (.agg b)=>if c then uz a own b else none
  | _=>none)
 | .cells l own=>(match a l with
  | some (.cells b)=>uz a own b
  | _=>none)
 | .row l e=>(match a l with
  | some (.row g d)=>if Nat.beq e g then some ([.dat d],[])else none
  | _=>none)
 | .iter l=>(match a l with
  | some (.iter s p)=>some ([.str s, .int .i64 p],[])
  | _=>none)
 | .tcs l t own=>(match a l with
  | some (.tc h b)=>if Nat.beq h t then uz a own b else none
  | _=>none)
 | .afg l=>(match a l with
  | some (.map d)=>some ([.dat d],[])
  | _=>none)
def Fp (a:Nat->Sl D)(b:Nat->Option (Bk D)):List It->Option (List (List (Lf D))×List (Nat×Bool))
 | []=>some ([],[])
 | i::d=>
  (match BA a b i,Fp a b d with
  | some (c,m),some (cs,e)=>some (c::cs,m++e)
  | _,_=>none)
def Rn (f:Option TypeId)(x:Lf D)(n:Nat):Lf D×List (Nat×Bk D)×Nat:=
 match f with
 | none=>(x,[],n)
 | some e=>(match x with
  | .dat d=>(.own n,[(n, .row e d)],n+1)
  | _=>(.any,[],n))
def ng:List (Option TypeId)->List (Lf D)->Nat->List (Lf D)×List (Nat×Bk D)×Nat
 | f::a,x::b,n=>
  let p:=Rn f x n
  let q:=ng a b p.2.2
  (p.1::q.1,p.2.1++q.2.1,q.2.2)
 | _,_,n=>([],[],n)
def aFd:List (Lf D)->Sl D
 | [x]=> .one (.lf x)
 | _=> .one (.lf .any)
def acI:List (Lf D)->Option D
 | [.dat d]=>some d
 | _=>none
def gq:List It->List (List (Lf D))->Nat->List (Nat×Sl D)×List (Nat×Bk D)×Nat
 | .slot t b own::a,c::cs,n=>
  let p:=ng own c n
  let q:=gq a cs p.2.2
  ((t,if b then .one (.agg p.1)else aFd p.1)::q.1,p.2.1++q.2.1,q.2.2)
 | .cells l own::a,c::cs,n=>
  let p:=ng own c n
  let q:=gq a cs p.2.2
  (q.1,(l, .cells p.1)::p.2.1++q.2.1,q.2.2)
 | .row l e::a,c::cs,n=>
  let q:=gq a cs n
  (q.1,(match acI c with
   | some d=>(l, .row e d)::q.2.1
   | none=>q.2.1),q.2.2)
 | .iter l::a,c::cs,n=>
  let q:=gq a cs n
  (q.1,(match c with
   | [.str s, .int _ p]=>(l, .iter s p.toNat)::q.2.1
   | _=>q.2.1),q.2.2)
 | .tcs l t own::a,c::cs,n=>
  let p:=ng own c n
  let q:=gq a cs p.2.2
  (q.1,(l, .tc t p.1)::p.2.1++q.2.1,q.2.2)
 | .afg l::a,c::cs,n=>
  let q:=gq a cs n
  (q.1,(match acI c with
   | some d=>(l, .map d)::q.2.1
   | none=>q.2.1),q.2.2)
 | _,_,n=>([],[],n)
def Zd (S:Sh D):List (Lf D)->List (Lf D)->Prop
 | [],[]=>True
 | x::b,y::a=>x.Le S y/\y.kF=true/\Zd S b a
 | _,_=>False
def akw (S:Sh D):List (List (Lf D))->List (List (Lf D))->Prop
 | [],[]=>True
 | x::b,y::a=>Zd S x y/\akw S b a
 | _,_=>False
end
section
variable {D:Type}{S:Sh D}{N:Nat->Prop}{w:World}{w0:Bs}{g:Nat->Option Value}{slot:Nat->Sl D}{blk:Nat->Option (Bk D)}{al:Nat->Prop}{val:Nat->Value}
abbrev Asg:=List (Nat×Value×Option Nat)
structure Ol (N:Nat->Prop)(blk:Nat->Option (Bk D))(g:Nat->Option Value)(xJ:Asg)(mv:List (Nat×Bool))(g':Nat->Option Value)(M':Nat->Prop):Prop where
 c2:∀i v o,(i,v,o)∈xJ->g' i=some v
 c3:∀b,M' b->bi N blk g b
 c4:∀c,(c,true)∈mv->∀v b,g c=some v->fJ v=some b->¬M' b
theorem Ol.less {f a:Asg}{d b:List (Nat×Bool)}{j:Nat->Option Value}{e:Nat->Prop}(h:Ol N blk g f d j e)(l:∀x∈a,x∈f)(n:∀x∈b,x∈d):Ol N blk g a b j e:=
 ⟨fun i v o m=>h.c2 i v o (l _ m),h.c3,fun c k=>h.c4 c (n _ k)⟩
def ab2 (S:Sh D)(a:Nat->Option (Bk D))(g:Nat->Option Value)(b:List (Nat×Bool))(e:TypeId)(d:D)(v:Value):Option Nat->Prop
 | some c=>a c=some (.row e d)/\g c=some v/\(c,false)∈b
 | none=>v= .slice none 0 0/\S.len d=0/\S.mp d=none
theorem ab2.more {b a:List (Nat×Bool)}{e:TypeId}{d:D}{v:Value}{o:Option Nat}(h:ab2 S blk g b e d v o)(f:∀x∈b,x∈a):ab2 S blk g a e d v o:=by
 cases o with
 | none=>exact h
 | some c=>exact⟨h.1,h.2.1,f _ h.2.2⟩
structure vk (S:Sh D)(blk:Nat->Option (Bk D))(g:Nat->Option Value)(mv:List (Nat×Bool))(xJ:Asg)(rows:List (Nat×Bk D))(n n':Nat):Prop where
 le:n<=n'
 rng:∀i v o,(i,v,o)∈xJ->n<=i/\i < n'
 uni:∀i v o v' o',(i,v,o)∈xJ->(i,v',o')∈xJ->v=v'
 ok:∀i v o,(i,v,o)∈xJ->∃e d,ab2 S blk g mv e d v o
 inj:(mv.map (·.1)).Nodup->∀i v i' v' c,(i,v,some c)∈xJ->(i',v',some c)∈xJ->i=i'
 rows:∀i bk,(i,bk)∈rows->∃v o e d,(i,v,o)∈xJ/\bk= .row e d/\ab2 S blk g mv e d v o
theorem vk.nil (n:Nat):vk S blk g [] [] [] n n:=⟨nO _,fun _ _ _ h=>by simp at h,fun _ _ _ _ _ h=>by simp at h,fun _ _ _ h=>by simp at h,fun _ _ _ _ _ _ h=>by simp at h,fun _ _ h=>by simp at h⟩
theorem vk.app {p j:List (Nat×Bool)}{I A:Asg}{t m:List (Nat×Bk D)}{n H y:Nat}(h:vk S blk g p I t n H)(k:vk S blk g j A m H y):vk S blk g (p++j) (I++A) (t++m) n y:=by
 have l1:∀x∈p,x∈p++j:=fun x C=>Qbx _ C
 have F:∀x∈j,x∈p++j:=fun x C=>Qb4 _ C
 refine⟨yI h.le k.le,fun i v o a=> ?_,fun i v o l o' b f=> ?_,fun i v o a=> ?_,fun w i v u l c b f=> ?_,fun i G a=> ?_⟩
 ·rcases yH.1 a with a | a
  ·have:=h.rng i v o a;have:=k.le;omega
  ·have:=k.rng i v o a;have:=h.le;omega
 ·rcases yH.1 b with b | b<;>rcases yH.1 f with f | f
  ·exact h.uni i v o l o' b f
  ·have:=h.rng i v o b;have:=k.rng i l o' f;omega
  ·have:=k.rng i v o b;have:=h.rng i l o' f;omega
  ·exact k.uni i v o l o' b f
 ·rcases yH.1 a with a | a
  ·obtain⟨e,d,q⟩:=h.ok i v o a;exact⟨e,d,q.more l1⟩
  ·obtain⟨e,d,q⟩:=k.ok i v o a;exact⟨e,d,q.more F⟩
 ·rw[List.map_append,List.nodup_append]at w;have z:∀c,(c,false)∈p->(c,false)∈j->False:=fun c s r=>w.2.2 c (MN.2 ⟨_,s,rfl⟩) c (MN.2 ⟨_,r,rfl⟩) rfl
  rcases yH.1 b with b | b<;>rcases yH.1 f with f | f
  ·exact h.inj w.1 i v u l c b f
  ·obtain⟨e,d,q⟩:=h.ok i v _ b;obtain⟨J,K,B⟩:=k.ok u l _ f;exact(z c q.2.2 B.2.2).elim
  ·obtain⟨e,d,q⟩:=k.ok i v _ b;obtain⟨J,K,B⟩:=h.ok u l _ f;exact(z c B.2.2 q.2.2).elim
  ·exact k.inj w.2.1 i v u l c b f
 ·rcases yH.1 a with a | a
  ·obtain⟨v,o,e,d,s,r,E⟩:=h.rows i G a;exact⟨v,o,e,d,Qbx _ s,r,E.more l1⟩
  ·obtain⟨v,o,e,d,s,r,E⟩:=k.rows i G a;exact⟨v,o,e,d,Qb4 _ s,r,E.more F⟩
theorem XK {M a:Nat->Prop}{d:Nat->Option Value}{x:Lf D}{v:Value}(e:x.kF=true)(h:x.Rel S M w g v)(c:∀b,a b->M b):x.Rel S a w d v:=by
 cases x<;>first | (simp[Lf.kF]at e;done) | exact h | exact dN.mono h c
theorem af8 {v:Value}(h:DT v=true):v= .slice none 0 0:=by
 unfold DT at h
 grind
theorem CS {d:D}{y:Lf D}(h:(Lf.dat d).Le S y):y= .dat d:=by
 rcases h with h | ⟨h,_⟩ | ⟨b,h,_⟩ | ⟨_,_,_,_,h,_⟩ | ⟨_,h,_⟩
 ·exact h.symm
 ·cases h
 ·cases h
 ·cases h
 ·cases h
theorem aFJ {y:Lf D}(h:(Lf.val (.slice none 0 0)).Le S y)(a:y.kF=true):∃d,y= .dat d/\S.len d=0/\S.mp d=none:=by
 rcases h with h | ⟨_,h⟩ | ⟨b,h,_⟩ | ⟨_,_,_,_,h,_⟩ | ⟨_,h,_⟩
 ·subst h;simp[Lf.kF]at a
 ·exact h
 ·cases h
 ·cases h
 ·cases h
theorem aKy (M:jE S)(I:Hp S w0 N blk g al w){f:Option TypeId}{x c L:Lf D}{u:Value}{T:List (Nat×Bool)}{n:Nat}(q:x.Rel S (bi N blk g) w g u)(a:afw blk f x=some (c,T))(C:c.Le S L)(J:L.kF=true):
  ∃xJ,vk S blk g T xJ (Rn f L n).2.1 n (Rn f L n).2.2/\∀A s,Ol N blk g xJ T A s->(Rn f L n).1.Rel S s w A u:=by
 unfold afw at a;cases f with
 | none=>
  dsimp only at a;simp only[Rn];cases x with
  | own k=>
   dsimp only at a;have q:g k=some u:=q;split at a
   ·rename_i e d z;injection a with a
    injection a with l r
    subst l r;refine⟨[],⟨nO _,fun _ _ _ h=>by simp at h,fun _ _ _ _ _ h=>by simp at h,fun _ _ _ h=>by simp at h,fun _ _ _ _ _ _ h=>by simp at h,fun _ _ h=>by simp at h⟩,fun A s p=> ?_⟩;rw[CS C];exact MX I z q p.c3 fun b E=>p.c4 k qb u b q E
   ·rename_i d z;injection a with a
    injection a with l r
    subst l r;refine⟨[],vk.nil _,fun A s p=> ?_⟩;rw[CS C];obtain⟨H,t,K⟩:=I.dW k _ z;rw[q]at t;injection t with t
    subst t;exact dN.mono K p.c3
   ·rename_i d z;injection a with a
    injection a with l r
    subst l r;refine⟨[],⟨nO _,fun _ _ _ h=>by simp at h,fun _ _ _ _ _ h=>by simp at h,fun _ _ _ h=>by simp at h,fun _ _ _ _ _ _ h=>by simp at h,fun _ _ h=>by simp at h⟩,fun A s p=> ?_⟩;rw[CS C];exact aoF (fun d m h=>⟨(M.A7 d m h).1,(M.A7 d m h).2.1⟩) I z q fun b E=>p.c4 k qb u b q E
   ·cases a
  | part k i j X f=>
   dsimp only at a;obtain⟨Y,nn,O,W,rfl,l,r,rfl⟩:=q;have P:∀(s:Nat->Prop) d F,dN S s w d (.slice Y nn O)->aa_ S X i j d=some F->dN S s w F (sliced Y i j O X):=by
    intro s d F J B;unfold aa_ at B;split at B
    ·rename_i G;have G:=Qa G;obtain⟨a',cap',Z,_⟩:=dN.slice' J (M.Jc _ _ _ _ B).1;injection Z with _ Z _
     have:=Gt M J B l au
     grind
    ·cases B
   split at a
   ·rename_i e d z;split at a
    ·rename_i F B;injection a with a
     injection a with V R
     subst V R;refine⟨[],⟨nO _,fun _ _ _ h=>by simp at h,fun _ _ _ _ _ h=>by simp at h,fun _ _ _ h=>by simp at h,fun _ _ _ _ _ _ h=>by simp at h,fun _ _ h=>by simp at h⟩,fun A s p=> ?_⟩;rw[CS C];exact P s d F (MX I z W p.c3 fun b E=>p.c4 k qb _ b W E) B
    ·cases a
   ·rename_i d z;split at a
    ·rename_i F B;injection a with a
     injection a with V R
     subst V R;refine⟨[],vk.nil _,fun A s p=> ?_⟩;rw[CS C];obtain⟨H,t,K⟩:=I.dW k _ z;rw[W]at t;injection t with t
     subst t;exact P s d F (dN.mono K p.c3) B
    ·cases a
   ·cases a
  | _=>
   injection a with a
   injection a with l r
   subst l r;exact⟨[],vk.nil _,fun A s p=>XK J (Lf.Le.rel C q) p.c3⟩
 | some e=>
  dsimp only at a;cases x with
  | own k=>
   dsimp only at a;have q:g k=some u:=q;split at a
   ·rename_i e' d z;split at a
    ·rename_i Q;have Q:=Qa Q;subst Q;injection a with a
     injection a with l r
     subst l r;have:=CS C;subst this;simp only[Rn];refine⟨[(n,u,some k)],⟨by omega,fun i v o y=> ?_,fun i v o H o' l r=> ?_,fun i v o y=> ?_,fun _ i v i' H c l r=> ?_,fun i bk y=> ?_⟩,fun A s p=>p.c2 n u (some k) qb⟩
     ·grind
     ·grind
     ·simp only[Ko,Qbg]at y;obtain⟨rfl,rfl,rfl⟩:=y;exact⟨e,d,z,q,by simp⟩
     ·grind
     ·simp only[Ko,Qbg]at y;obtain⟨rfl,rfl⟩:=y;exact⟨u,some k,e,d,by simp,rfl,z,q,by simp⟩
    ·cases a
   ·cases a
  | val v=>
   dsimp only at a;split at a
   ·rename_i U;have U:=af8 U;subst U;injection a with a
    injection a with l r
    subst l r;obtain⟨d,rfl,G⟩:=aFJ C J;have q:u=_:=q;simp only[Rn];refine⟨[(n,u,none)],⟨by omega,fun i v o y=> ?_,fun i v o H o' l r=> ?_,fun i v o y=> ?_,fun _ i v i' H c l r=> ?_,fun i bk y=> ?_⟩,fun A s p=>p.c2 n u none qb⟩
    ·grind
    ·grind
    ·simp only[Ko,Qbg]at y;obtain⟨rfl,rfl,rfl⟩:=y;exact⟨e,d,q,G⟩
    ·grind
    ·simp only[Ko,Qbg]at y;obtain⟨rfl,rfl⟩:=y;exact⟨u,none,e,d,by simp,rfl,q,G⟩
   ·cases a
  | _=>cases a
theorem aeE (t:jE S)(v:Hp S w0 N blk g al w):∀(i:List (Option TypeId)) (p cs a:List (Lf D)) (d:List Value) (j:List (Nat×Bool)) (n:Nat),bu S (bi N blk g) w g p d->uz blk i p=some (cs,j)->Zd S cs a->
  ∃y,vk S blk g j y (ng i a n).2.1 n (ng i a n).2.2/\∀l k,Ol N blk g y j l k->bu S k w l (ng i a n).1 d
 | [],[],cs,a,d,j,n,o,b,h=>by
  injection b with b
  injection b with q r
  subst q r;cases a with
  | cons _ _=>exact h.elim
  | nil=>
   cases d with
   | cons _ _=>exact o.elim
   | nil=>exact⟨[],vk.nil _,fun _ _ _=>trivial⟩
 | [],_::_,_,_,_,_,_,_,b,_=>by simp[uz]at b
 | _::_,[],_,_,_,_,_,_,b,_=>by simp[uz]at b
 | f::i,x::p,cs,a,d,j,n,o,b,h=>by
  unfold uz at b;split at b
  ·rename_i c m s H q r;injection b with b
   injection b with E G
   subst E G;cases a with
   | nil=>exact h.elim
   | cons C a=>
    cases d with
    | nil=>exact o.elim
    | cons u d=>
     obtain⟨a1,A,F⟩:=aKy t v (n:=n) o.1 q h.1 h.2.1;obtain⟨a2,I,B⟩:=aeE t v i p s a d H (Rn f C n).2.2 o.2 r h.2.2;refine⟨a1++a2,A.app I,fun l k z=>⟨F l k (z.less (fun x e=>Qbx _ e) (fun x e=>Qbx _ e)),B l k (z.less (fun x e=>Qb4 _ e) (fun x e=>Qb4 _ e))⟩⟩
  ·cases b
def Rl (S:Sh D)(N:Nat->Prop)(h:Bs)(w:World)(a:Nat->Option (Bk D))(g:Nat->Option Value)(ids:List Nat)(f:Asg)(c:List (Nat×Bool))(i:List (Nat×Bk D)):Prop:=
 ∀l b,(l,b)∈i->(∃v o e d,(l,v,o)∈f/\b= .row e d/\ab2 S a g c e d v o)\/
  (l∈ids/\hot (a l)=true/\∃v,g l=some v/\∀g' M',Ol N a g f c g' M'->zi S M' w g' h b v)
theorem avT (hS:jE S)(hp:Hp S w0 N blk g al w)(hs:∀t,(slot t).Rel S (bi N blk g) w g (val t)):∀(W:List It) (cs H:List (List (Lf D))) (P:List (Nat×Bool)) (n:Nat),Fp slot blk W=some (cs,P)->akw S cs H->
  ∃xJ,vk S blk g P xJ [] n (gq W H n).2.2/\(∀t y,(t,y)∈(gq W H n).1->∀r q,Ol N blk g xJ P r q->y.Rel S q w r (val t))/\
   Rl S N w0 w blk g (W.flatMap It.ids) xJ P (gq W H n).2.1
 | [],cs,H,P,n,Z,G=>by
  injection Z with Z
  injection Z with f h2
  subst f h2;exact⟨[],by simpa[gq]using vk.nil n,fun t y h=>by simp[gq]at h,fun l O h=>by simp[gq]at h⟩
 | i::W,cs,H,P,n,Z,G=>by
  unfold Fp at Z;split at Z
  ·rename_i c m cs0 ms f h2;injection Z with Z
   injection Z with e1 e2
   subst e1 e2;cases H with
   | nil=>exact G.elim
   | cons E H=>
    have Q:=fun n=>avT hS hp hs W cs0 H ms n h2 G.2
    have R:∀{α:Type} {a b:List α},∀x∈a,x∈a++b:=fun x hx=>Qbx _ hx
    have L:∀{α:Type} {a b:List α},∀x∈b,x∈a++b:=fun x hx=>Qb4 _ hx
    have alZ:∀{P:List (Nat×Bool)} {xJ:Asg} {X:List (Nat×Bk D)} {n n':Nat},vk S blk g P xJ X n n'->vk S blk g P xJ [] n n':=fun k=>⟨k.le,k.rng,k.uni,k.ok,k.inj,fun _ _ h=>by simp at h⟩
    have lift:∀{ids:List Nat} {a1 a2:Asg} {bs:List (Nat×Bk D)},Rl S N w0 w blk g ids a2 ms bs->∀alX,(∀x∈ids,x∈alX)->Rl S N w0 w blk g alX (a1++a2) (m++ms) bs:=by
     intro ids a1 a2 bs h alX hi l O G;rcases h l O G with⟨v,o,e,d,I,J,q3⟩ | ⟨I,J,v,q3,q4⟩
     ·exact .inl ⟨v,o,e,d,L _ I,J,q3.more L⟩
     ·exact .inr ⟨hi _ I,J,v,q3,fun r q C=>q4 r q (C.less L L)⟩
    have al3:∀{ids:List Nat} {a1 a2:Asg} {X:List (Nat×Bk D)} {n n':Nat},vk S blk g m a1 X n n'->Rl S N w0 w blk g ids (a1++a2) (m++ms) X:=by
     intro ids a1 a2 X n n' k l O G;obtain⟨v,o,e,d,I,J,q3⟩:=k.rows l O G;exact .inl ⟨v,o,e,d,R _ I,J,q3.more R⟩
    have both:∀{ids:List Nat} {a:Asg} {P:List (Nat×Bool)} {b1 b2:List (Nat×Bk D)},Rl S N w0 w blk g ids a P b1->Rl S N w0 w blk g ids a P b2->Rl S N w0 w blk g ids a P (b1++b2):=by
     intro ids a P b1 b2 f h2 l O G;rcases yH.1 G with G | G
     ·exact f l O G
     ·exact h2 l O G
    cases i with
    | slot t agg own=>
     simp only[BA]at f;have key:∀T us,bu S (bi N blk g) w g T us->uz blk own T=some (c,m)->(∀r q,bu S q w r (ng own E n).1 us->(if agg=true then Sl.one (.agg (ng own E n).1)else aFd (ng own E n).1).Rel S q w r (val t))->
       ∃xJ,vk S blk g (m++ms) xJ [] n (gq (.slot t agg own::W) (E::H) n).2.2/\(∀K y,(K,y)∈(gq (.slot t agg own::W) (E::H) n).1->∀r q,Ol N blk g xJ (m++ms) r q->y.Rel S q w r (val K))/\
        Rl S N w0 w blk g ((It.slot t agg own::W).flatMap It.ids) xJ (m++ms) (gq (.slot t agg own::W) (E::H) n).2.1:=by
      intro T us hxu hab hfin;obtain⟨a1,k1,r1⟩:=aeE hS hp own T c E us m n hxu hab G.1;obtain⟨a2,Y,V,b2⟩:=Q (ng own E n).2.2;simp only[gq];refine⟨a1++a2,by simpa using(alZ k1).app Y,fun K y B r q C=> ?_,both (al3 k1) (lift b2 _ fun x hx=>by grind)⟩;rcases EC.1 B with B | B
      ·injection B with I J
       subst I J;exact hfin r q (r1 r q (C.less R R))
      ·exact V K y B r q (C.less L L)
     have ht:=hs t;split at f
     ·rename_i x hx;rw[hx]at ht;split at f
      ·cases f
      ·rename_i hagg;refine key [x] [val t] ⟨ht,trivial⟩ f fun r q h=> ?_;rw[yc hagg];generalize (ng own E n).1=ys at h;cases ys with
       | nil=>exact h.elim
       | cons y ys=>
        cases ys with
        | cons _ _=>exact h.2.elim
        | nil=>exact h.1
     ·rename_i T hx;rw[hx]at ht;split at f
      ·rename_i hagg;obtain⟨vs,U,hr⟩:=ht;refine key T vs hr f fun r q h=> ?_;rw[yY hagg,U];exact⟨vs,rfl,h⟩
      ·cases f
     ·cases f
    | cells l own=>
     simp only[BA]at f;split at f
     ·rename_i T M;obtain⟨v,U,b,vs,ty,rfl,hm,hh,hr⟩:=hp.dW l _ M;obtain⟨a1,k1,r1⟩:=aeE hS hp own T c E vs m n hr f G.1;obtain⟨a2,Y,V,b2⟩:=Q (ng own E n).2.2;simp only[gq];refine⟨a1++a2,by simpa using(alZ k1).app Y,fun K y B r q C=>V K y B r q (C.less L L),?_⟩;refine both (b1:=(l, .cells (ng own E n).1)::(ng own E n).2.1) ?_ (lift b2 _ fun x hx=>by grind);intro l' O A;rcases EC.1 A with A | A
      ·injection A with I J
       subst I J;exact .inr ⟨by simp[It.ids],by rw[M];rfl,_,U,fun r q C=>⟨b,vs,ty,rfl,hm,hh,r1 r q (C.less R R)⟩⟩
      ·exact al3 (ids:=_) (a2:=a2) k1 l' O A
     ·cases f
    | tcs l t own=>
     simp only[BA]at f;split at f
     ·rename_i K T M;split at f
      ·rename_i ht;have ht:=Qa ht;subst ht;obtain⟨v,U,b,vs,rfl,hm,hh,hr⟩:=hp.dW l _ M;obtain⟨a1,k1,r1⟩:=aeE hS hp own T c E vs m n hr f G.1;obtain⟨a2,Y,V,b2⟩:=Q (ng own E n).2.2;simp only[gq];refine⟨a1++a2,by simpa using(alZ k1).app Y,fun K y B r q C=>V K y B r q (C.less L L),?_⟩;refine both (b1:=(l, .tc K (ng own E n).1)::(ng own E n).2.1) ?_ (lift b2 _ fun x hx=>by grind);intro l' O A;rcases EC.1 A with A | A
       ·injection A with I J
        subst I J;exact .inr ⟨by simp[It.ids],by rw[M];rfl,_,U,fun r q C=>⟨b,vs,rfl,hm,hh,r1 r q (C.less R R)⟩⟩
       ·exact al3 (ids:=_) (a2:=a2) k1 l' O A
      ·cases f
     ·cases f
    | row l e=>
     simp only[BA]at f;split at f
     ·rename_i e' d M;split at f
      ·rename_i he;have he:=Qa he;subst he;injection f with f
       injection f with I J
       subst I J;obtain⟨F,hl2⟩:=G;cases E with
       | nil=>exact F.elim
       | cons y ys=>
        cases ys with
        | cons _ _=>exact F.2.2.elim
        | nil=>
         have:=CS F.1;subst this;obtain⟨a2,Y,V,b2⟩:=Q n;obtain⟨v,U,hok⟩:=hp.dW l _ M;simp only[gq,acI];refine⟨a2,by simpa using Y,fun K y B r q C=>V K y B r q (by simpa using C),?_⟩;refine both (b1:=[(l, .row e d)]) (fun l' O A=> ?_) qcb;simp only[Ko,Qbg]at A;obtain⟨rfl,rfl⟩:=A;refine .inr ⟨by simp[It.ids],by rw[M];rfl,v,U,fun r q C=> ?_⟩;obtain⟨Jb,T,hown,hcell⟩:=hok;refine⟨Jb,T,hown,fun i j hi hj=> ?_⟩;obtain⟨u,k1,k3,k4⟩:=hcell i j hi hj;exact⟨u,k1,k3,XK k3 k4 C.c3⟩
      ·cases f
     ·cases f
    | iter l=>
     simp only[BA]at f;split at f
     ·rename_i s p M;injection f with f
      injection f with I J
      subst I J;obtain⟨F,hl2⟩:=G;cases E with
      | nil=>exact F.elim
      | cons y ys=>
       cases ys with
       | nil=>exact F.2.2.elim
       | cons z zs=>
        cases zs with
        | cons _ _=>exact F.2.2.2.2.elim
        | nil=>
         have e1:y= .str s:=by
          rcases F.1 with h | ⟨h,_⟩ | ⟨b,h,_⟩ | ⟨_,_,_,_,h,_⟩ | ⟨_,h,_⟩
          ·exact h.symm
          ·cases h
          ·cases h
          ·cases h
          ·cases h
         have e2:z= .int .i64 p:=by
          rcases F.2.2.1 with h | ⟨h,_⟩ | ⟨b,h,_⟩ | ⟨_,_,_,_,h,_⟩ | ⟨_,h,_⟩
          ·exact h.symm
          ·cases h
          ·cases h
          ·cases h
          ·cases h
         subst e1 e2;obtain⟨a2,Y,V,b2⟩:=Q n;obtain⟨v,U,hok⟩:=hp.dW l _ M;simp only[gq,xw];refine⟨a2,by simpa using Y,fun K y B r q C=>V K y B r q (by simpa using C),?_⟩;refine both (b1:=[(l, .iter s p)]) (fun l' O A=> ?_) qcb;simp only[Ko,Qbg]at A;obtain⟨rfl,rfl⟩:=A;exact .inr ⟨by simp[It.ids],by rw[M];rfl,v,U,fun r q C=>hok⟩
     ·cases f
    | afg l=>
     simp only[BA]at f;split at f
     ·rename_i d M;injection f with f
      injection f with I J
      subst I J;obtain⟨F,hl2⟩:=G;cases E with
      | nil=>exact F.elim
      | cons y ys=>
       cases ys with
       | cons _ _=>exact F.2.2.elim
       | nil=>
        have:=CS F.1;subst this;obtain⟨a2,Y,V,b2⟩:=Q n;obtain⟨v,U,hok⟩:=hp.dW l _ M;simp only[gq,acI];refine⟨a2,by simpa using Y,fun K y B r q C=>V K y B r q (by simpa using C),?_⟩;refine both (b1:=[(l, .map d)]) (fun l' O A=> ?_) qcb;simp only[Ko,Qbg]at A;obtain⟨rfl,rfl⟩:=A;exact .inr ⟨by simp[It.ids],by rw[M];rfl,v,U,fun r q C=>hok⟩
     ·cases f
  ·cases Z
theorem auG {f:Option TypeId}{x c:Lf D}{d:List (Nat×Bool)}(h:afw blk f x=some (c,d)):∀p∈d,hot (blk p.1)=true:=by
 unfold afw at h;split at h
 ·split at h
  ·split at h
   ·rename_i b;injection h with h;injection h with _ h;subst h
    intro p a;simp only[Ko]at a;subst a;rw[b];rfl
   ·grind
   ·rename_i b;injection h with h;injection h with _ h;subst h
    intro p a;simp only[Ko]at a;subst a;rw[b];rfl
   ·cases h
  ·split at h
   ·rename_i b;split at h
    ·injection h with h;injection h with _ h;subst h
     intro p a;simp only[Ko]at a;subst a;rw[b];rfl
    ·cases h
   ·split at h
    ·injection h with h;injection h with _ h;subst h;simp
    ·cases h
   ·cases h
  grind
 ·split at h
  ·split at h
   ·rename_i b;split at h
    ·injection h with h;injection h with _ h;subst h
     intro p a;simp only[Ko]at a;subst a;rw[b];rfl
    ·cases h
   ·cases h
  ·split at h
   ·injection h with h;injection h with _ h;subst h;simp
   ·cases h
  ·cases h
theorem Cb:∀(d:List (Option TypeId)) (e cs:List (Lf D)) (b:List (Nat×Bool)),uz blk d e=some (cs,b)->∀p∈b,hot (blk p.1)=true
 | [],[],cs,b,h=>by injection h with h;grind
 | [],_::_,_,_,h=>by simp[uz]at h
 | _::_,[],_,_,h=>by simp[uz]at h
 | f::d,x::e,cs,b,h=>by
  unfold uz at h;split at h
  ·rename_i c m g k i j;injection h with h;injection h with _ h;subst h
   intro p a;rcases yH.1 a with a | a
   ·exact auG i p a
   ·exact Cb d e g k j p a
  ·cases h
theorem aaY:∀(f:List It) (cs:List (List (Lf D))) (d:List (Nat×Bool)),Fp slot blk f=some (cs,d)->∀p∈d,hot (blk p.1)=true
 | [],cs,d,h=>by injection h with h;grind
 | i::f,cs,d,h=>by
  unfold Fp at h;split at h
  ·rename_i c m g k a j;injection h with h;injection h with _ h;subst h
   intro p b;rcases yH.1 b with b | b
   ·cases i with
    | slot t n own=>
     simp only[BA]at a;split at a
     ·split at a
      ·cases a
      ·exact Cb _ _ _ _ a p b
     ·split at a
      ·exact Cb _ _ _ _ a p b
      ·cases a
     ·cases a
    | cells l own=>
     simp only[BA]at a;split at a
     ·exact Cb _ _ _ _ a p b
     ·cases a
    | tcs l t own=>
     simp only[BA]at a;split at a
     ·split at a
      ·exact Cb _ _ _ _ a p b
      ·cases a
     ·cases a
    | row l e=>
     simp only[BA]at a
     grind
    | iter l=>
     simp only[BA]at a
     grind
    | afg l=>
     simp only[BA]at a
     grind
   ·exact aaY f g k j p b
  ·cases h
theorem Lf.yX (y:Lf D):y.ren (fun l=>l)=y:=by cases y<;>simp[Lf.ren]
theorem Sv.yX (y:Sv D):y.ren (fun l=>l)=y:=by
 cases y with
 | lf x=>simp[Sv.ren,Lf.yX]
 | agg a=>
  have:Lf.ren (fun l=>l)=(id:Lf D->Lf D):=funext fun x=>Lf.yX x
  simp[Sv.ren,this]
theorem Sl.yX (y:Sl D):y.ren (fun l=>l)=y:=by
 cases y with
 | one x=>simp[Sl.ren,Sv.yX]
 | x8 a=>
  have:Sv.ren (fun l=>l)=(id:Sv D->Sv D):=funext fun x=>Sv.yX x
  simp[Sl.ren,this]
theorem Bk.yX (y:Bk D):y.ren (fun l=>l)=y:=by
 cases y with
 | cells a=>
  have:Lf.ren (fun l=>l)=(id:Lf D->Lf D):=funext fun x=>Lf.yX x
  simp[Bk.ren,this]
 | row e d=>rfl
 | xZ d=>rfl
 | iter s p=>rfl
 | map b=>rfl
 | tc t a=>
  have:Lf.ren (fun l=>l)=(id:Lf D->Lf D):=funext fun x=>Lf.yX x
  simp[Bk.ren,this]
def lookA:Asg->Nat->Option Value
 | [],_=>none
 | (i,v,_)::r,l=>if i=l then some v else lookA r l
theorem Hy:∀{a:Asg} {l:Nat} {v:Value},lookA a l=some v->∃o,(l,v,o)∈a
 | [],_,_,h=>by simp[lookA]at h
 | (i,u,o)::r,l,v,h=>by
  unfold lookA at h;split at h
  ·grind
  ·obtain⟨o',b⟩:=Hy h
   grind
theorem Xo:∀{a:Asg} {l:Nat} {v:Value} {o:Option Nat},(l,v,o)∈a->∃u,lookA a l=some u
 | [],_,_,_,h=>by simp at h
 | (i,u,o')::r,l,v,o,h=>by
  unfold lookA;split
  ·grind
  ·rename_i e;rcases EC.1 h with h | h
   ·grind
   ·exact Xo h
theorem apx {a:List (Nat×Bool)}(h:(a.map (·.1)).Nodup){c:Nat}{x y:Bool}(b:(c,x)∈a)(e:(c,y)∈a):x=y:=by
 induction a with
 | nil=>simp at b
 | cons p r d=>
  grind
def QJ:List (Nat×Sl D)->Nat->Option (Sl D)
 | [],_=>none
 | (k,v)::r,n=>if Nat.beq n k then some v else QJ r n
theorem aag:∀{l:List (Nat×Sl D)} {k:Nat} {v:Sl D},QJ l k=some v->(k,v)∈l
 | [],_,_,h=>by simp[QJ]at h
 | (a,b)::r,k,v,h=>by
  simp only[QJ]at h;split at h
  ·simp_all
  ·exact Qb9 _ (aag h)
def uP (c:List (Nat×Bk D))(b:Nat->Option (Bk D))(l:Nat):Option (Bk D):=
 match lW c l with
 | some a=>some a
 | none=>b l
def WS (a:List (Nat×Sl D))(b:Nat->Sl D)(t:Nat):Sl D:=
 match QJ a t with
 | some y=>y
 | none=>b t
theorem ahc (hS:jE S)(B:Hp S w0 N blk g al w)(hs:∀t,(slot t).Rel S (bi N blk g) w g (val t)){X:List It}{cs V:List (List (Lf D))}{z:List (Nat×Bool)}{nx nx':Nat}{ss:List (Nat×Sl D)}{E:List (Nat×Bk D)}{Ci:Nat->Sl D}{IA:Nat->Option (Bk D)}
  (ha:Fp slot blk X=some (cs,z)) (W:akw S cs V) (hcon:gq X V nx=(ss,E,nx')) (hnd:(z.map (·.1)).Nodup) (aiD:∀l∈X.flatMap It.ids,l < nx/\l∉z.map (·.1))
  (hbs:∀t,Ci t= .one (.lf .any)\/(slot t=Ci t/\∀l∈(Ci t).refs,l < nx)) (hbb:∀l H,IA l=some H->l < nx/\blk l=some H/\(∀r∈H.refs,r < nx)/\l∉z.map (·.1)):
  ∃g',Hp S w0 N (uP E IA) g' (· < nx') w/\(∀t,(WS ss Ci t).Rel S (bi N (uP E IA) g') w g' (val t))/\(∀l,l < nx->g' l=g l):=by
 obtain⟨J,k,Y,L⟩:=avT hS B hs X cs V z nx ha W;rw[hcon]at k Y L;dsimp only at k Y L;have hmv:=aaY X cs z ha;let g':Nat->Option Value:=fun l=>if l < nx then g l else lookA J l
 have C:∀l,l < nx->g' l=g l:=fun l h=>yY h
 have c2:∀i v o,(i,v,o)∈J->g' i=some v:=fun i v o O=>by
  have:=(k.rng i v o O).1;show(if i < nx then g i else lookA J i)=some v
  rw[yc au];obtain⟨u,P⟩:=Xo O;obtain⟨o',ho'⟩:=Hy P;rw[P,k.uni i v o u o' O ho']
 have aN7:∀{c:Nat} {x:Bool},(c,x)∈z->c∈z.map (·.1):=fun h=>MN.2 ⟨_,h,rfl⟩
 have src:∀l v b,hot (uP E IA l)=true->g' l=some v->fJ v=some b->∃c,hot (blk c)=true/\g c=some v/\((c=l/\l < nx/\l∉z.map (·.1))\/(nx<=l/\(c,false)∈z/\(l,v,some c)∈J)):=by
  intro l v b hh s m;obtain⟨H,A,hh⟩:=lg hh;unfold uP at A;split at A
  ·rename_i ut Q;injection A with A
   subst A;rcases L l _ (ul Q)with⟨M,o,e,d,p,F,a⟩ | ⟨p,F,M,a,q4⟩
   ·rw[c2 l M o p]at s;injection s with s
    subst s;cases o with
    | none=>rw[a.1]at m;simp[fJ]at m
    | some c=>exact⟨c,by rw[a.1];rfl,a.2.1, .inr ⟨(k.rng _ _ _ p).1,a.2.2,p⟩⟩
   grind
  grind
 have R:∀b,bi N (uP E IA) g' b->bi N blk g b:=by
  rintro b (hn | ⟨l,v,T,U,I⟩)
  ·exact .inl hn
  ·obtain⟨c,p,F,_⟩:=src l v b T U I;exact .inr ⟨c,v,p,F,I⟩
 have c4:∀c,(c,true)∈z->∀v b,g c=some v->fJ v=some b->¬bi N (uP E IA) g' b:=by
  intro c Z v b hgc m hM;have hhc:hot (blk c)=true:=hmv (c,true) Z;rcases hM with hn | ⟨l,G,T,U,I⟩
  ·exact B.aiH hhc hgc m hn
  ·obtain⟨c',p,F,a⟩:=src l G b T U I;have:=B.sep c c' v G b hhc p hgc F m I;subst this;rcases a with⟨rfl,_,q⟩ | ⟨_,q,_⟩
   ·grind
   ·exact absurd (apx hnd Z q) qb
 have Z:Ol N blk g J z g' (bi N (uP E IA) g'):=⟨c2,R,c4⟩;refine⟨g',⟨B.below,B.hN,fun l H n=> ?_,?_,?_,?_,B.gl.mono R⟩,fun t=> ?_,C⟩
 ·unfold uP at n;split at n
  ·rename_i ut Q;injection n with n
   subst n;rcases L l _ (ul Q)with⟨M,o,e,d,p,rfl,a⟩ | ⟨p,F,M,a,q4⟩
   ·refine⟨M,c2 l M o p,?_⟩;cases o with
    | none=>rw[a.1];exact⟨⟨fun b m=>by simp[fJ]at m,by have:=a.2.1;omega,a.2.2⟩,[],⟨by simp[a.2.1], .inl ⟨rfl,a.2.1⟩⟩,fun i j O=>by have:=a.2.1;omega⟩
    | some c=>
     obtain⟨G,K,Jb,xs,hown,hcell⟩:=B.dW c _ a.1;rw[a.2.1]at K;injection K with K
     subst K;refine⟨Jb,xs,hown,fun i j O hj=> ?_⟩;obtain⟨u,k1,k3,k4⟩:=hcell i j O hj;exact⟨u,k1,k3,XK k3 k4 R⟩
   grind
  ·obtain⟨r1,r2,r3,r4⟩:=hbb l H n;obtain⟨v,hv,hok⟩:=B.dW l H r2;refine⟨v,(C l r1).trans hv,?_⟩;have:=hok.ren (g':=g') (M':=bi N (uP E IA) g') (f:=fun l=>l) (B':=w0) (fun l W u P=>(C l (r3 l W)).trans P) (fun _=>R) (fun hh b m=>(hok.lt hh m).2);rwa [Bk.yX]at this
 ·intro l l' v G b T U I h4 h5 h6;obtain⟨c,p,F,a⟩:=src l v b T I h5;obtain⟨c',q1',q2',q3'⟩:=src l' G b U h4 h6;have:=B.sep c c' v G b p q1' F q2' h5 h6;subst this;rcases a with⟨e,r1,r2⟩ | ⟨r1,r2,r3⟩<;>rcases q3' with⟨e',s1,s2⟩ | ⟨s1,s2,s3⟩
  ·omega
  ·grind
  ·grind
  ·exact k.inj hnd l v l' G c r3 s3
 ·intro l v s;have:=k.le;by_cases h:l < nx
  ·omega
  ·have s:lookA J l=some v:=by
    grind
   obtain⟨o,ho⟩:=Hy s;exact(k.rng l v o ho).2
 ·intro l v s;by_cases h:l < nx
  ·rw[C l h]at s;exact B.refs l v s
  ·have s:lookA J l=some v:=by
    grind
   obtain⟨o,ho⟩:=Hy s;obtain⟨e,d,q⟩:=k.ok l v o ho;cases o with
   | none=>rw[q.1];rfl
   | some c=>exact B.refs c v q.2.1
 ·unfold WS;split
  ·rename_i y hy;exact Y t y (aag hy) g' _ Z
  ·rcases hbs t with m | ⟨m,hr⟩
   ·rw[m];trivial
   ·have:=(hs t).ren (g':=g') (M':=bi N (uP E IA) g') (f:=fun l=>l) (fun l W u P=>(C l (hr l (m▸W))).trans P) (fun _=>R);rw[Sl.yX]at this
    grind
end
end Go.Vc
