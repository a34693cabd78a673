/- Own engine: Vdl. -/
import Derived.Test.YtjojefbphdmnjaaGreatDoorEng6
set_option linter.unusedVariables false
set_option linter.unusedSimpArgs false
namespace Go.Vc
open Go.RowKit
inductive It where
 | slot (t:Nat) (agg:Bool) (own:List (Option TypeId))
 | cells (l:Nat) (own:List (Option TypeId))
 | row (l:Nat) (e:TypeId)
 | iter (l:Nat)
 | tcs (l:Nat) (t:TypeId) (own:List (Option TypeId))
 | aao (l:Nat)
def yM:Value->Bool
 | .slice none 0 0=>true
 | _=>false
def It.ids:It->List Nat
 | .slot _ _ _=>[]
 | .cells l _=>[l]
 | .row l _=>[l]
 | .iter l=>[l]
 | .tcs l _ _=>[l]
 | .aao l=>[l]
section
variable {D:Type}
def acT (a:Nat->Option (Bk D))(f:Option TypeId)(x:Lf D):Option (Lf D×List (Nat×Bool)):=
 match f with
 | none=>(match x with
  | .own c=>(match a c with
   | some (.row _ d)=>some (.dat d,[(c,true)])
   | some (.ve d)=>some (.dat d,[])
   | some (.map d)=>some (.dat d,[(c,true)])
   | _=>none)
  | .part c _ _ _ f=>(match a c with
   | some (.row _ d)=>(match f d with
    | some b=>some (.dat b,[(c,true)])
    | none=>none)
   | some (.ve d)=>(match f d with
    | some b=>some (.dat b,[])
    | none=>none)
   | _=>none)
  | x=>some (x,[]))
 | some e=>(match x with
  | .own c=>(match a c with
   | some (.row g d)=>if Nat.beq e g then some (.dat d,[(c,false)])else none
   | _=>none)
  | .val v=>if yM v then some (.val v,[])else none
  | _=>none)
def qg (a:Nat->Option (Bk D)):List (Option TypeId)->List (Lf D)->Option (List (Lf D)×List (Nat×Bool))
 | [],[]=>some ([],[])
 | f::e,x::d=>
  (match acT a f x,qg a e d with
  | some (c,m),some (cs,b)=>some (c::cs,m++b)
  | _,_=>none)
 | _,_=>none
def yE (f:Nat->Sl D)(a:Nat->Option (Bk D)):It->Option (List (Lf D)×List (Nat×Bool))
 | .slot t c own=>(match f t with
  | .one (.lf x)=>if c then none else qg a own [x]
  | .one (.agg b)=>if c then qg a own b else none
  | _=>none)
 | .cells l own=>(match a l with
  | some (.cells b)=>qg a own b
  | _=>none)
 | .row l e=>(match a l with
  | some (.row g d)=>if Nat.beq e g then some ([.dat d],[])else none
  | _=>none)
 | .iter l=>(match a l with
  | some (.iter s p)=>some ([.str s, .int .i64 p],[])
  | _=>none)
 | .tcs l t own=>(match a l with
  | some (.tc h b)=>if Nat.beq h t then qg a own b else none
  | _=>none)
 | .aao l=>(match a l with
  | some (.map d)=>some ([.dat d],[])
  | _=>none)
def Bv (a:Nat->Sl D)(b:Nat->Option (Bk D)):List It->Option (List (List (Lf D))×List (Nat×Bool))
 | []=>some ([],[])
 | i::e=>
  (match yE a b i,Bv a b e with
  | some (c,m),some (cs,d)=>some (c::cs,m++d)
  | _,_=>none)
def LV (f:Option TypeId)(x:Lf D)(n:Nat):Lf D×List (Nat×Bk D)×Nat:=
 match f with
 | none=>(x,[],n)
 | some e=>(match x with
  | .dat d=>(.own n,[(n, .row e d)],n+1)
  | _=>(.any,[],n))
def jW:List (Option TypeId)->List (Lf D)->Nat->List (Lf D)×List (Nat×Bk D)×Nat
 | f::b,x::a,n=>
  let p:=LV f x n
  let q:=jW b a p.2.2
  (p.1::q.1,p.2.1++q.2.1,q.2.2)
 | _,_,n=>([],[],n)
def aAu:List (Lf D)->Sl D
 | [x]=> .one (.lf x)
 | _=> .one (.lf .any)
def XQ:List (Lf D)->Option D
 | [.dat d]=>some d
 | _=>none
def dM:List It->List (List (Lf D))->Nat->List (Nat×Sl D)×List (Nat×Bk D)×Nat
 | .slot t b own::a,c::cs,n=>
  let p:=jW own c n
  let q:=dM a cs p.2.2
  ((t,if b then .one (.agg p.1)else aAu p.1)::q.1,p.2.1++q.2.1,q.2.2)
 | .cells l own::a,c::cs,n=>
  let p:=jW own c n
  let q:=dM a cs p.2.2
  (q.1,(l, .cells p.1)::p.2.1++q.2.1,q.2.2)
 | .row l e::a,c::cs,n=>
  let q:=dM a cs n
  (q.1,(match XQ c with
   | some d=>(l, .row e d)::q.2.1
   | none=>q.2.1),q.2.2)
 | .iter l::a,c::cs,n=>
  let q:=dM a cs n
  (q.1,(match c with
   | [.str s, .int _ p]=>(l, .iter s p.toNat)::q.2.1
   | _=>q.2.1),q.2.2)
 | .tcs l t own::a,c::cs,n=>
  let p:=jW own c n
  let q:=dM a cs p.2.2
  (q.1,(l, .tc t p.1)::p.2.1++q.2.1,q.2.2)
 | .aao l::a,c::cs,n=>
  let q:=dM a cs n
  (q.1,(match XQ c with
   | some d=>(l, .map d)::q.2.1
   | none=>q.2.1),q.2.2)
 | _,_,n=>([],[],n)
def Un (S:Sh D):List (Lf D)->List (Lf D)->Prop
 | [],[]=>True
 | x::b,y::a=>x.Le S y/\y.iT=true/\Un S b a
 | _,_=>False
def adY (S:Sh D):List (List (Lf D))->List (List (Lf D))->Prop
 | [],[]=>True
 | x::b,y::a=>Un S x y/\adY S b a
 | _,_=>False
end
section
variable {D:Type}{S:Sh D}{N:Nat->Prop}{w:World}{w0:Bs}{g:Nat->Option Value}{slot:Nat->Sl D}{blk:Nat->Option (Bk D)}{al:Nat->Prop}{val:Nat->Value}
abbrev Asg:=List (Nat×Value×Option Nat)
structure IB (N:Nat->Prop)(blk:Nat->Option (Bk D))(g:Nat->Option Value)(uk:Asg)(mv:List (Nat×Bool))(g':Nat->Option Value)(M':Nat->Prop):Prop where
 c2:∀i v o,(i,v,o)∈uk->g' i=some v
 c3:∀b,M' b->aJ N blk g b
 c4:∀c,(c,true)∈mv->∀v b,g c=some v->dB v=some b->¬M' b
theorem IB.less {e b:Asg}{f a:List (Nat×Bool)}{j:Nat->Option Value}{d:Nat->Prop}(h:IB N blk g e f j d)(l:∀x∈b,x∈e)(k:∀x∈a,x∈f):IB N blk g b a j d:=
 ⟨fun i v o n=>h.c2 i v o (l _ n),h.c3,fun c m=>h.c4 c (k _ m)⟩
def MG (S:Sh D)(a:Nat->Option (Bk D))(g:Nat->Option Value)(b:List (Nat×Bool))(e:TypeId)(d:D)(v:Value):Option Nat->Prop
 | some c=>a c=some (.row e d)/\g c=some v/\(c,false)∈b
 | none=>v= .slice none 0 0/\S.len d=0/\S.mp d=none
theorem MG.more {b a:List (Nat×Bool)}{e:TypeId}{d:D}{v:Value}{o:Option Nat}(h:MG S blk g b e d v o)(f:∀x∈b,x∈a):MG S blk g a e d v o:=by
 cases o with
 | none=>exact h
 | some c=>exact⟨h.1,h.2.1,f _ h.2.2⟩
structure pX (S:Sh D)(blk:Nat->Option (Bk D))(g:Nat->Option Value)(mv:List (Nat×Bool))(uk:Asg)(rows:List (Nat×Bk D))(n n':Nat):Prop where
 le:n<=n'
 rng:∀i v o,(i,v,o)∈uk->n<=i/\i < n'
 uni:∀i v o v' o',(i,v,o)∈uk->(i,v',o')∈uk->v=v'
 ok:∀i v o,(i,v,o)∈uk->∃e d,MG S blk g mv e d v o
 inj:(mv.map (·.1)).Nodup->∀i v i' v' c,(i,v,some c)∈uk->(i',v',some c)∈uk->i=i'
 rows:∀i bk,(i,bk)∈rows->∃v o e d,(i,v,o)∈uk/\bk= .row e d/\MG S blk g mv e d v o
theorem pX.nil (n:Nat):pX S blk g [] [] [] n n:=⟨lH _,fun _ _ _ h=>by simp at h,fun _ _ _ _ _ h=>by simp at h,fun _ _ _ h=>by simp at h,fun _ _ _ _ _ _ h=>by simp at h,fun _ _ h=>by simp at h⟩
theorem pX.app {r j:List (Nat×Bool)}{B u:Asg}{m p:List (Nat×Bk D)}{n C w:Nat}(h:pX S blk g r B m n C)(k:pX S blk g j u p C w):pX S blk g (r++j) (B++u) (m++p) n w:=by
 have l1:∀x∈r,x∈r++j:=fun x A=>Qcc _ A
 have I:∀x∈j,x∈r++j:=fun x A=>Qb0 _ A
 refine⟨zW h.le k.le,fun i v o f=> ?_,fun i v o l o' b a=> ?_,fun i v o f=> ?_,fun t i v s l c b a=> ?_,fun i J f=> ?_⟩
 ·rcases xN.1 f with f | f
  ·have:=h.rng i v o f;have:=k.le;omega
  ·have:=k.rng i v o f;have:=h.le;omega
 ·rcases xN.1 b with b | b<;>rcases xN.1 a with a | a
  ·exact h.uni i v o l o' b a
  ·have:=h.rng i v o b;have:=k.rng i l o' a;omega
  ·have:=k.rng i v o b;have:=h.rng i l o' a;omega
  ·exact k.uni i v o l o' b a
 ·rcases xN.1 f with f | f
  ·obtain⟨e,d,q⟩:=h.ok i v o f;exact⟨e,d,q.more l1⟩
  ·obtain⟨e,d,q⟩:=k.ok i v o f;exact⟨e,d,q.more I⟩
 ·rw[Qdl,List.nodup_append]at t;have y:∀c,(c,false)∈r->(c,false)∈j->False:=fun c F H=>t.2.2 c (Qbf.2 ⟨_,F,rfl⟩) c (Qbf.2 ⟨_,H,rfl⟩) rfl
  rcases xN.1 b with b | b<;>rcases xN.1 a with a | a
  ·exact h.inj t.1 i v s l c b a
  ·obtain⟨e,d,q⟩:=h.ok i v _ b;obtain⟨G,E,z⟩:=k.ok s l _ a;exact(y c q.2.2 z.2.2).elim
  ·obtain⟨e,d,q⟩:=k.ok i v _ b;obtain⟨G,E,z⟩:=h.ok s l _ a;exact(y c z.2.2 q.2.2).elim
  ·exact k.inj t.2.1 i v s l c b a
 grind [pX.rows,MG.more]
theorem Qw {M a:Nat->Prop}{e:Nat->Option Value}{x:Lf D}{v:Value}(d:x.iT=true)(h:x.Rel S M w g v)(c:∀b,a b->M b):x.Rel S a w e v:=by
 cases x<;>first | (simp[Lf.iT]at d;done) | exact h | exact bQ.mono h c
theorem abI {v:Value}(h:yM v=true):v= .slice none 0 0:=by
 unfold yM at h
 grind
theorem yR {d:D}{y:Lf D}(h:(Lf.dat d).Le S y):y= .dat d:=by
 rcases h with h | ⟨h,_⟩ | ⟨b,h,_⟩ | ⟨_,_,_,_,h,_⟩ | ⟨_,h,_⟩
 ·exact h.symm
 ·cases h
 ·cases h
 ·cases h
 ·cases h
theorem aDO {y:Lf D}(h:(Lf.val (.slice none 0 0)).Le S y)(a:y.iT=true):∃d,y= .dat d/\S.len d=0/\S.mp d=none:=by
 rcases h with h | ⟨_,h⟩ | ⟨b,h,_⟩ | ⟨_,_,_,_,h,_⟩ | ⟨_,h,_⟩
 ·subst h;simp[Lf.iT]at a
 ·exact h
 ·cases h
 ·cases h
 ·cases h
theorem aFZ (Y:ShOk S)(H:Hp S w0 N blk g al w){f:Option TypeId}{x c I:Lf D}{u:Value}{U:List (Nat×Bool)}{n:Nat}(p:x.Rel S (aJ N blk g) w g u)(a:acT blk f x=some (c,U))(B:c.Le S I)(O:I.iT=true):
  ∃X,pX S blk g U X (LV f I n).2.1 n (LV f I n).2.2/\∀A q,IB N blk g X U A q->(LV f I n).1.Rel S q w A u:=by
 unfold acT at a;cases f with
 | none=>
  dsimp only at a;simp only[LV];cases x with
  | own k=>
   dsimp only at a;have p:g k=some u:=p;split at a
   ·rename_i e d z;injection a with a
    injection a with s r
    subst s r;refine⟨[],⟨lH _,fun _ _ _ h=>by simp at h,fun _ _ _ _ _ h=>by simp at h,fun _ _ _ h=>by simp at h,fun _ _ _ _ _ _ h=>by simp at h,fun _ _ h=>by simp at h⟩,fun A q l=> ?_⟩;rw[yR B];exact Fp H z p l.c3 fun b C=>l.c4 k oG u b p C
   ·rename_i d z;injection a with a
    injection a with s r
    subst s r;refine⟨[],pX.nil _,fun A q l=> ?_⟩;rw[yR B];obtain⟨G,t,K⟩:=H.bY k _ z;rw[p]at t;injection t with t
    subst t;exact bQ.mono K l.c3
   ·rename_i d z;injection a with a
    injection a with s r
    subst s r;refine⟨[],⟨lH _,fun _ _ _ h=>by simp at h,fun _ _ _ _ _ h=>by simp at h,fun _ _ _ h=>by simp at h,fun _ _ _ _ _ _ h=>by simp at h,fun _ _ h=>by simp at h⟩,fun A q l=> ?_⟩;rw[yR B];exact aiP (fun d m h=>⟨(Y.xK d m h).1,(Y.xK d m h).2.1⟩) H z p fun b C=>l.c4 k oG u b p C
   ·cases a
  | part k i j W f=>
   dsimp only at a;obtain⟨Z,nn,M,V,rfl,s,r,rfl⟩:=p;have L:∀(q:Nat->Prop) d E,bQ S q w d (.slice Z nn M)->VI S W i j d=some E->bQ S q w E (sliced Z i j M W):=by
    intro q d E O F;unfold VI at F;split at F
    ·rename_i J;have J:=Qa J
     grind [bQ.slice',ShOk.D7,CZ]
    ·cases F
   split at a
   ·rename_i e d z;split at a
    ·rename_i E F;injection a with a
     injection a with P T
     subst P T;refine⟨[],⟨lH _,fun _ _ _ h=>by simp at h,fun _ _ _ _ _ h=>by simp at h,fun _ _ _ h=>by simp at h,fun _ _ _ _ _ _ h=>by simp at h,fun _ _ h=>by simp at h⟩,fun A q l=> ?_⟩;rw[yR B];exact L q d E (Fp H z V l.c3 fun b C=>l.c4 k oG _ b V C) F
    ·cases a
   ·rename_i d z;split at a
    ·rename_i E F;injection a with a
     injection a with P T
     subst P T;refine⟨[],pX.nil _,fun A q l=> ?_⟩;rw[yR B];obtain⟨G,t,K⟩:=H.bY k _ z;rw[V]at t;injection t with t
     subst t;exact L q d E (bQ.mono K l.c3) F
    ·cases a
   ·cases a
  | _=>
   injection a with a
   injection a with s r
   subst s r;exact⟨[],pX.nil _,fun A q l=>Qw O (Lf.Le.rel B p) l.c3⟩
 | some e=>
  dsimp only at a;cases x with
  | own k=>
   dsimp only at a;have p:g k=some u:=p;split at a
   ·rename_i e' d z;split at a
    ·rename_i Q;have Q:=Qa Q;subst Q;injection a with a
     injection a with s r
     subst s r;have:=yR B;subst this;simp only[LV];refine⟨[(n,u,some k)],⟨by omega,fun i v o y=> ?_,fun i v o G o' s r=> ?_,fun i v o y=> ?_,fun _ i v i' G c s r=> ?_,fun i bk y=> ?_⟩,fun A q l=>l.c2 n u (some k) oG⟩
     ·grind
     ·grind
     ·simp only[Be,Qbd]at y;obtain⟨rfl,rfl,rfl⟩:=y;exact⟨e,d,z,p,by simp⟩
     ·grind
     ·simp only[Be,Qbd]at y;obtain⟨rfl,rfl⟩:=y;exact⟨u,some k,e,d,by simp,rfl,z,p,by simp⟩
    ·cases a
   ·cases a
  | val v=>
   dsimp only at a;split at a
   ·rename_i R;have R:=abI R;subst R;injection a with a
    injection a with s r
    subst s r;obtain⟨d,rfl,J⟩:=aDO B O;have p:u=_:=p;simp only[LV];refine⟨[(n,u,none)],⟨by omega,fun i v o y=> ?_,fun i v o G o' s r=> ?_,fun i v o y=> ?_,fun _ i v i' G c s r=> ?_,fun i bk y=> ?_⟩,fun A q l=>l.c2 n u none oG⟩
    ·grind
    ·grind
    ·simp only[Be,Qbd]at y;obtain⟨rfl,rfl,rfl⟩:=y;exact⟨e,d,p,J⟩
    ·grind
    ·simp only[Be,Qbd]at y;obtain⟨rfl,rfl⟩:=y;exact⟨u,none,e,d,by simp,rfl,p,J⟩
   ·cases a
  | _=>cases a
theorem Yt (y:ShOk S)(v:Hp S w0 N blk g al w):∀(i:List (Option TypeId)) (p cs a:List (Lf D)) (d:List Value) (o:List (Nat×Bool)) (n:Nat),aN S (aJ N blk g) w g p d->qg blk i p=some (cs,o)->Un S cs a->
  ∃s,pX S blk g o s (jW i a n).2.1 n (jW i a n).2.2/\∀k j,IB N blk g s o k j->aN S j w k (jW i a n).1 d
 | [],[],cs,a,d,o,n,l,b,h=>by
  injection b with b
  injection b with r q
  subst r q;cases a with
  | cons _ _=>exact h.elim
  | nil=>
   cases d with
   | cons _ _=>exact l.elim
   | nil=>exact⟨[],pX.nil _,fun _ _ _=>trivial⟩
 | [],_::_,_,_,_,_,_,_,b,_=>by simp[qg]at b
 | _::_,[],_,_,_,_,_,_,b,_=>by simp[qg]at b
 | f::i,x::p,cs,a,d,o,n,l,b,h=>by
  unfold qg at b;split at b
  ·rename_i c m z H r q;injection b with b
   injection b with B G
   subst B G;cases a with
   | nil=>exact h.elim
   | cons C a=>
    cases d with
    | nil=>exact l.elim
    | cons u d=>
     obtain⟨a1,E,A⟩:=aFZ y v (n:=n) l.1 r h.1 h.2.1;obtain⟨a2,F,I⟩:=Yt y v i p z a d H (LV f C n).2.2 l.2 q h.2.2;refine⟨a1++a2,E.app F,fun k j t=>⟨A k j (t.less (fun x e=>Qcc _ e) (fun x e=>Qcc _ e)),I k j (t.less (fun x e=>Qb0 _ e) (fun x e=>Qb0 _ e))⟩⟩
  ·cases b
def L6 (S:Sh D)(N:Nat->Prop)(i:Bs)(w:World)(a:Nat->Option (Bk D))(g:Nat->Option Value)(ids:List Nat)(c:Asg)(f:List (Nat×Bool))(h:List (Nat×Bk D)):Prop:=
 ∀l b,(l,b)∈h->(∃v o e d,(l,v,o)∈c/\b= .row e d/\MG S a g f e d v o)\/
  (l∈ids/\hot (a l)=true/\∃v,g l=some v/\∀g' M',IB N a g c f g' M'->qN S M' w g' i b v)
theorem aqe (hS:ShOk S)(hp:Hp S w0 N blk g al w)(hs:∀t,(slot t).Rel S (aJ N blk g) w g (val t)):∀(T:List It) (cs G:List (List (Lf D))) (O:List (Nat×Bool)) (n:Nat),Bv slot blk T=some (cs,O)->adY S cs G->
  ∃Z,pX S blk g O Z [] n (dM T G n).2.2/\(∀t y,(t,y)∈(dM T G n).1->∀q r,IB N blk g Z O q r->y.Rel S r w q (val t))/\
   L6 S N w0 w blk g (T.flatMap It.ids) Z O (dM T G n).2.1
 | [],cs,G,O,n,Y,H=>by
  injection Y with Y
  injection Y with f h2
  subst f h2;exact⟨[],by simpa[dM]using pX.nil n,fun t y h=>by simp[dM]at h,fun l P h=>by simp[dM]at h⟩
 | i::T,cs,G,O,n,Y,H=>by
  unfold Bv at Y;split at Y
  ·rename_i c m cs0 ms f h2;injection Y with Y
   injection Y with e1 e2
   subst e1 e2;cases G with
   | nil=>exact H.elim
   | cons E G=>
    have Q:=fun n=>aqe hS hp hs T cs0 G ms n h2 H.2
    have inl:∀{α:Type} {a b:List α},∀x∈a,x∈a++b:=fun x hx=>Qcc _ hx
    have J:∀{α:Type} {a b:List α},∀x∈b,x∈a++b:=fun x hx=>Qb0 _ hx
    have aho:∀{O:List (Nat×Bool)} {Z:Asg} {X:List (Nat×Bk D)} {n n':Nat},pX S blk g O Z X n n'->pX S blk g O Z [] n n':=fun k=>⟨k.le,k.rng,k.uni,k.ok,k.inj,fun _ _ h=>by simp at h⟩
    have lift:∀{ids:List Nat} {a1 a2:Asg} {bs:List (Nat×Bk D)},L6 S N w0 w blk g ids a2 ms bs->∀aE3,(∀x∈ids,x∈aE3)->L6 S N w0 w blk g aE3 (a1++a2) (m++ms) bs:=by
     intro ids a1 a2 bs h aE3 hi l P H;rcases h l P H with⟨v,o,e,d,K,L,q3⟩ | ⟨K,L,v,q3,q4⟩
     ·exact .inl ⟨v,o,e,d,J _ K,L,q3.more J⟩
     ·exact .inr ⟨hi _ K,L,v,q3,fun q r C=>q4 q r (C.less J J)⟩
    have ahr:∀{ids:List Nat} {a1 a2:Asg} {X:List (Nat×Bk D)} {n n':Nat},pX S blk g m a1 X n n'->L6 S N w0 w blk g ids (a1++a2) (m++ms) X:=by
     intro ids a1 a2 X n n' k l P H
     grind [pX.rows,MG.more]
    have both:∀{ids:List Nat} {a:Asg} {O:List (Nat×Bool)} {b1 b2:List (Nat×Bk D)},L6 S N w0 w blk g ids a O b1->L6 S N w0 w blk g ids a O b2->L6 S N w0 w blk g ids a O (b1++b2):=by
     intro ids a O b1 b2 f h2 l P H;rcases xN.1 H with H | H
     ·exact f l P H
     ·exact h2 l P H
    cases i with
    | slot t agg own=>
     simp only[yE]at f;have key:∀R us,aN S (aJ N blk g) w g R us->qg blk own R=some (c,m)->(∀q r,aN S r w q (jW own E n).1 us->(if agg=true then Sl.one (.agg (jW own E n).1)else aAu (jW own E n).1).Rel S r w q (val t))->
       ∃Z,pX S blk g (m++ms) Z [] n (dM (.slot t agg own::T) (E::G) n).2.2/\(∀I y,(I,y)∈(dM (.slot t agg own::T) (E::G) n).1->∀q r,IB N blk g Z (m++ms) q r->y.Rel S r w q (val I))/\
        L6 S N w0 w blk g ((It.slot t agg own::T).flatMap It.ids) Z (m++ms) (dM (.slot t agg own::T) (E::G) n).2.1:=by
      intro R us hxu hab hfin;obtain⟨a1,k1,r1⟩:=Yt hS hp own R c E us m n hxu hab H.1;obtain⟨a2,V,W,b2⟩:=Q (jW own E n).2.2;simp only[dM];refine⟨a1++a2,by simpa using(aho k1).app V,fun I y B q r C=> ?_,both (ahr k1) (lift b2 _ fun x hx=>by grind)⟩;rcases IP.1 B with B | B
      ·injection B with K L
       subst K L;exact hfin q r (r1 q r (C.less inl inl))
      ·exact W I y B q r (C.less J J)
     have ht:=hs t;split at f
     ·rename_i x hx;rw[hx]at ht;split at f
      ·cases f
      ·rename_i hagg;refine key [x] [val t] ⟨ht,trivial⟩ f fun q r h=> ?_;rw[vF hagg];generalize (jW own E n).1=ys at h;cases ys with
       | nil=>exact h.elim
       | cons y ys=>
        cases ys with
        | cons _ _=>exact h.2.elim
        | nil=>exact h.1
     ·rename_i R hx;rw[hx]at ht;split at f
      ·rename_i hagg;obtain⟨vs,U,hr⟩:=ht;refine key R vs hr f fun q r h=> ?_;rw[Ai hagg,U];exact⟨vs,rfl,h⟩
      ·cases f
     ·cases f
    | cells l own=>
     simp only[yE]at f;split at f
     ·rename_i R M;obtain⟨v,U,b,vs,ty,rfl,hm,hh,hr⟩:=hp.bY l _ M;obtain⟨a1,k1,r1⟩:=Yt hS hp own R c E vs m n hr f H.1;obtain⟨a2,V,W,b2⟩:=Q (jW own E n).2.2;simp only[dM];refine⟨a1++a2,by simpa using(aho k1).app V,fun I y B q r C=>W I y B q r (C.less J J),?_⟩;refine both (b1:=(l, .cells (jW own E n).1)::(jW own E n).2.1) ?_ (lift b2 _ fun x hx=>by grind);intro l' P A;rcases IP.1 A with A | A
      ·injection A with K L
       subst K L;exact .inr ⟨by simp[It.ids],by rw[M];rfl,_,U,fun q r C=>⟨b,vs,ty,rfl,hm,hh,r1 q r (C.less inl inl)⟩⟩
      ·exact ahr (ids:=_) (a2:=a2) k1 l' P A
     ·cases f
    | tcs l t own=>
     simp only[yE]at f;split at f
     ·rename_i I R M;split at f
      ·rename_i ht;have ht:=Qa ht;subst ht;obtain⟨v,U,b,vs,rfl,hm,hh,hr⟩:=hp.bY l _ M;obtain⟨a1,k1,r1⟩:=Yt hS hp own R c E vs m n hr f H.1;obtain⟨a2,V,W,b2⟩:=Q (jW own E n).2.2;simp only[dM];refine⟨a1++a2,by simpa using(aho k1).app V,fun I y B q r C=>W I y B q r (C.less J J),?_⟩;refine both (b1:=(l, .tc I (jW own E n).1)::(jW own E n).2.1) ?_ (lift b2 _ fun x hx=>by grind);intro l' P A;rcases IP.1 A with A | A
       ·injection A with K L
        subst K L;exact .inr ⟨by simp[It.ids],by rw[M];rfl,_,U,fun q r C=>⟨b,vs,rfl,hm,hh,r1 q r (C.less inl inl)⟩⟩
       ·exact ahr (ids:=_) (a2:=a2) k1 l' P A
      ·cases f
     ·cases f
    | row l e=>
     simp only[yE]at f;split at f
     ·rename_i e' d M;split at f
      ·rename_i he;have he:=Qa he;subst he;injection f with f
       injection f with K L
       subst K L;obtain⟨F,hl2⟩:=H;cases E with
       | nil=>exact F.elim
       | cons y ys=>
        cases ys with
        | cons _ _=>exact F.2.2.elim
        | nil=>
         have:=yR F.1;subst this;obtain⟨a2,V,W,b2⟩:=Q n;obtain⟨v,U,hok⟩:=hp.bY l _ M;simp only[dM,XQ];refine⟨a2,by simpa using V,fun I y B q r C=>W I y B q r (by simpa using C),?_⟩;refine both (b1:=[(l, .row e d)]) (fun l' P A=> ?_) qb5;simp only[Be,Qbd]at A;obtain⟨rfl,rfl⟩:=A;refine .inr ⟨by simp[It.ids],by rw[M];rfl,v,U,fun q r C=> ?_⟩;obtain⟨z_,R,hown,hcell⟩:=hok;refine⟨z_,R,hown,fun i j hi hj=> ?_⟩;obtain⟨u,k1,k3,k4⟩:=hcell i j hi hj;exact⟨u,k1,k3,Qw k3 k4 C.c3⟩
      ·cases f
     ·cases f
    | iter l=>
     simp only[yE]at f;split at f
     ·rename_i s p M;injection f with f
      injection f with K L
      subst K L;obtain⟨F,hl2⟩:=H;cases E with
      | nil=>exact F.elim
      | cons y ys=>
       cases ys with
       | nil=>exact F.2.2.elim
       | cons z zs=>
        cases zs with
        | cons _ _=>exact F.2.2.2.2.elim
        | nil=>
         have e1:y= .str s:=by
          rcases F.1 with h | ⟨h,_⟩ | ⟨b,h,_⟩ | ⟨_,_,_,_,h,_⟩ | ⟨_,h,_⟩
          ·exact h.symm
          ·cases h
          ·cases h
          ·cases h
          ·cases h
         have e2:z= .int .i64 p:=by
          rcases F.2.2.1 with h | ⟨h,_⟩ | ⟨b,h,_⟩ | ⟨_,_,_,_,h,_⟩ | ⟨_,h,_⟩
          ·exact h.symm
          ·cases h
          ·cases h
          ·cases h
          ·cases h
         subst e1 e2;obtain⟨a2,V,W,b2⟩:=Q n;obtain⟨v,U,hok⟩:=hp.bY l _ M;simp only[dM,u_];refine⟨a2,by simpa using V,fun I y B q r C=>W I y B q r (by simpa using C),?_⟩;refine both (b1:=[(l, .iter s p)]) (fun l' P A=> ?_) qb5;simp only[Be,Qbd]at A;obtain⟨rfl,rfl⟩:=A;exact .inr ⟨by simp[It.ids],by rw[M];rfl,v,U,fun q r C=>hok⟩
     ·cases f
    | aao l=>
     simp only[yE]at f;split at f
     ·rename_i d M;injection f with f
      injection f with K L
      subst K L;obtain⟨F,hl2⟩:=H;cases E with
      | nil=>exact F.elim
      | cons y ys=>
       cases ys with
       | cons _ _=>exact F.2.2.elim
       | nil=>
        have:=yR F.1;subst this;obtain⟨a2,V,W,b2⟩:=Q n;obtain⟨v,U,hok⟩:=hp.bY l _ M;simp only[dM,XQ];refine⟨a2,by simpa using V,fun I y B q r C=>W I y B q r (by simpa using C),?_⟩;refine both (b1:=[(l, .map d)]) (fun l' P A=> ?_) qb5;simp only[Be,Qbd]at A;obtain⟨rfl,rfl⟩:=A;exact .inr ⟨by simp[It.ids],by rw[M];rfl,v,U,fun q r C=>hok⟩
     ·cases f
  ·cases Y
theorem aoC {f:Option TypeId}{x c:Lf D}{d:List (Nat×Bool)}(h:acT blk f x=some (c,d)):∀p∈d,hot (blk p.1)=true:=by
 unfold acT at h;split at h
 ·split at h
  ·split at h
   ·rename_i b;injection h with h;injection h with _ h;subst h
    intro p a;simp only[Be]at a;subst a;rw[b];rfl
   ·grind
   ·rename_i b;injection h with h;injection h with _ h;subst h
    intro p a;simp only[Be]at a;subst a;rw[b];rfl
   ·cases h
  ·split at h
   ·rename_i b;split at h
    ·injection h with h;injection h with _ h;subst h
     intro p a;simp only[Be]at a;subst a;rw[b];rfl
    ·cases h
   ·split at h
    ·injection h with h;injection h with _ h;subst h;simp
    ·cases h
   ·cases h
  grind
 ·split at h
  ·split at h
   ·rename_i b;split at h
    ·injection h with h;injection h with _ h;subst h
     intro p a;simp only[Be]at a;subst a;rw[b];rfl
    ·cases h
   ·cases h
  ·split at h
   ·injection h with h;injection h with _ h;subst h;simp
   ·cases h
  ·cases h
theorem BU:∀(e:List (Option TypeId)) (d cs:List (Lf D)) (b:List (Nat×Bool)),qg blk e d=some (cs,b)->∀p∈b,hot (blk p.1)=true
 | [],[],cs,b,h=>by injection h with h;grind
 | [],_::_,_,_,h=>by simp[qg]at h
 | _::_,[],_,_,h=>by simp[qg]at h
 | f::e,x::d,cs,b,h=>by
  unfold qg at h;split at h
  ·rename_i c m g k j i;injection h with h;injection h with _ h;subst h
   intro p a;rcases xN.1 a with a | a
   ·exact aoC j p a
   ·exact BU e d g k i p a
  ·cases h
theorem U8:∀(f:List It) (cs:List (List (Lf D))) (b:List (Nat×Bool)),Bv slot blk f=some (cs,b)->∀p∈b,hot (blk p.1)=true
 | [],cs,b,h=>by injection h with h;grind
 | i::f,cs,b,h=>by
  unfold Bv at h;split at h
  ·rename_i c m g k a j;injection h with h;injection h with _ h;subst h
   intro p d;rcases xN.1 d with d | d
   ·cases i with
    | slot t n own=>
     simp only[yE]at a
     grind [BU]
    | cells l own=>
     simp only[yE]at a
     grind [BU]
    | tcs l t own=>
     simp only[yE]at a
     grind [BU]
    | row l e=>
     simp only[yE]at a
     grind
    | iter l=>
     simp only[yE]at a
     grind
    | aao l=>
     simp only[yE]at a
     grind
   ·exact U8 f g k j p d
  ·cases h
theorem Lf.uZ (y:Lf D):y.ren (fun l=>l)=y:=by cases y<;>simp[Lf.ren]
theorem Sv.uZ (y:Sv D):y.ren (fun l=>l)=y:=by
 cases y with
 | lf x=>simp[Sv.ren,Lf.uZ]
 | agg a=>
  have:Lf.ren (fun l=>l)=(id:Lf D->Lf D):=funext fun x=>Lf.uZ x
  simp[Sv.ren,this]
theorem Sl.uZ (y:Sl D):y.ren (fun l=>l)=y:=by
 cases y with
 | one x=>simp[Sl.ren,Sv.uZ]
 | tup a=>
  have:Sv.ren (fun l=>l)=(id:Sv D->Sv D):=funext fun x=>Sv.uZ x
  simp[Sl.ren,this]
theorem Bk.uZ (y:Bk D):y.ren (fun l=>l)=y:=by
 cases y with
 | cells a=>
  have:Lf.ren (fun l=>l)=(id:Lf D->Lf D):=funext fun x=>Lf.uZ x
  simp[Bk.ren,this]
 | row e d=>rfl
 | ve d=>rfl
 | iter s p=>rfl
 | map b=>rfl
 | tc t a=>
  have:Lf.ren (fun l=>l)=(id:Lf D->Lf D):=funext fun x=>Lf.uZ x
  simp[Bk.ren,this]
def lookA:Asg->Nat->Option Value
 | [],_=>none
 | (i,v,_)::r,l=>if i=l then some v else lookA r l
theorem BM:∀{a:Asg} {l:Nat} {v:Value},lookA a l=some v->∃o,(l,v,o)∈a
 | [],_,_,h=>by simp[lookA]at h
 | (i,u,o)::r,l,v,h=>by
  unfold lookA at h;split at h
  ·grind
  ·obtain⟨o',b⟩:=BM h
   grind
theorem QS:∀{a:Asg} {l:Nat} {v:Value} {o:Option Nat},(l,v,o)∈a->∃u,lookA a l=some u
 | [],_,_,_,h=>by simp at h
 | (i,u,o')::r,l,v,o,h=>by
  unfold lookA;split
  ·grind
  ·rename_i e;rcases IP.1 h with h | h
   ·grind
   ·exact QS h
theorem ak_ {a:List (Nat×Bool)}(h:(a.map (·.1)).Nodup){c:Nat}{x y:Bool}(b:(c,x)∈a)(e:(c,y)∈a):x=y:=by
 induction a with
 | nil=>simp at b
 | cons p r d=>
  grind
def KO:List (Nat×Sl D)->Nat->Option (Sl D)
 | [],_=>none
 | (k,v)::r,n=>if Nat.beq n k then some v else KO r n
theorem Vd:∀{l:List (Nat×Sl D)} {k:Nat} {v:Sl D},KO l k=some v->(k,v)∈l
 | [],_,_,h=>by simp[KO]at h
 | (a,b)::r,k,v,h=>by
  simp only[KO]at h;split at h
  ·simp_all
  ·exact Qb _ (Vd h)
def qj (b:List (Nat×Bk D))(c:Nat->Option (Bk D))(l:Nat):Option (Bk D):=
 match jD b l with
 | some a=>some a
 | none=>c l
def QK (b:List (Nat×Sl D))(a:Nat->Sl D)(t:Nat):Sl D:=
 match KO b t with
 | some y=>y
 | none=>a t
theorem abB (hS:ShOk S)(A:Hp S w0 N blk g al w)(hs:∀t,(slot t).Rel S (aJ N blk g) w g (val t)){P:List It}{cs T:List (List (Lf D))}{z:List (Nat×Bool)}{nx Y:Nat}{ss:List (Nat×Sl D)}{E:List (Nat×Bk D)}{zZ:Nat->Sl D}{Dx:Nat->Option (Bk D)}
  (ha:Bv slot blk P=some (cs,z)) (O:adY S cs T) (hcon:dM P T nx=(ss,E,Y)) (hnd:(z.map (·.1)).Nodup) (aIp:∀l∈P.flatMap It.ids,l < nx/\l∉z.map (·.1))
  (hbs:∀t,zZ t= .one (.lf .any)\/(slot t=zZ t/\∀l∈(zZ t).refs,l < nx)) (hbb:∀l G,Dx l=some G->l < nx/\blk l=some G/\(∀r∈G.refs,r < nx)/\l∉z.map (·.1)):
  ∃g',Hp S w0 N (qj E Dx) g' (· < Y) w/\(∀t,(QK ss zZ t).Rel S (aJ N (qj E Dx) g') w g' (val t))/\(∀l,l < nx->g' l=g l):=by
 obtain⟨M,p,R,J⟩:=aqe hS A hs P cs T z nx ha O;rw[hcon]at p R J;dsimp only at p R J;have hmv:=U8 P cs z ha;let g':Nat->Option Value:=fun l=>if l < nx then g l else lookA M l
 have B:∀l,l < nx->g' l=g l:=fun l h=>Ai h
 have c2:∀i v o,(i,v,o)∈M->g' i=some v:=fun i v o hi=>by
  have:=(p.rng i v o hi).1
  grind [pX.uni,BM,QS]
 have aJQ:∀{c:Nat} {x:Bool},(c,x)∈z->c∈z.map (·.1):=fun h=>Qbf.2 ⟨_,h,rfl⟩
 have src:∀l v b,hot (qj E Dx l)=true->g' l=some v->dB v=some b->∃c,hot (blk c)=true/\g c=some v/\((c=l/\l < nx/\l∉z.map (·.1))\/(nx<=l/\(c,false)∈z/\(l,v,some c)∈M)):=by
  intro l v b W s m;obtain⟨G,C,W⟩:=iI W;unfold qj at C;split at C
  ·rename_i qL Q;injection C with C
   subst C;rcases J l _ (pK Q)with⟨L,o,e,d,k,F,a⟩ | ⟨k,F,L,a,q4⟩
   ·rw[c2 l L o k]at s;injection s with s
    subst s;cases o with
    | none=>rw[a.1]at m;simp[dB]at m
    | some c=>exact⟨c,by rw[a.1];rfl,a.2.1, .inr ⟨(p.rng _ _ _ k).1,a.2.2,k⟩⟩
   grind
  grind
 have X:∀b,aJ N (qj E Dx) g' b->aJ N blk g b:=by
  rintro b (hn | ⟨l,v,V,U,I⟩)
  ·exact .inl hn
  ·obtain⟨c,k,F,_⟩:=src l v b V U I;exact .inr ⟨c,v,k,F,I⟩
 have c4:∀c,(c,true)∈z->∀v b,g c=some v->dB v=some b->¬aJ N (qj E Dx) g' b:=by
  intro c hc v b aa m hM;have Z:hot (blk c)=true:=hmv (c,true) hc;rcases hM with hn | ⟨l,H,V,U,I⟩
  ·exact A.adQ Z aa m hn
  ·obtain⟨c',k,F,a⟩:=src l H b V U I;have:=A.sep c c' v H b Z k aa F m I
   grind [ak_]
 have hc:IB N blk g M z g' (aJ N (qj E Dx) g'):=⟨c2,X,c4⟩;refine⟨g',⟨A.below,A.hN,fun l G n=> ?_,?_,?_,?_,A.gl.mono X⟩,fun t=> ?_,B⟩
 ·unfold qj at n;split at n
  ·rename_i qL Q;injection n with n
   subst n;rcases J l _ (pK Q)with⟨L,o,e,d,k,rfl,a⟩ | ⟨k,F,L,a,q4⟩
   ·refine⟨L,c2 l L o k,?_⟩;cases o with
    | none=>rw[a.1];exact⟨⟨fun b m=>by simp[dB]at m,by have:=a.2.1;omega,a.2.2⟩,[],⟨by simp[a.2.1], .inl ⟨rfl,a.2.1⟩⟩,fun i j hi=>by have:=a.2.1;omega⟩
    | some c=>
     obtain⟨H,K,z_,xs,hown,hcell⟩:=A.bY c _ a.1;rw[a.2.1]at K;injection K with K
     subst K;refine⟨z_,xs,hown,fun i j hi hj=> ?_⟩
     grind [Qw]
   grind
  ·obtain⟨r1,r2,r3,r4⟩:=hbb l G n;obtain⟨v,hv,ab⟩:=A.bY l G r2;refine⟨v,(B l r1).trans hv,?_⟩;have:=ab.ren (g':=g') (M':=aJ N (qj E Dx) g') (f:=fun l=>l) (B':=w0) (fun l O u hu=>(B l (r3 l O)).trans hu) (fun _=>X) (fun W b m=>(ab.lt W m).2);rwa [Bk.uZ]at this
 ·intro l l' v H b V U I h4 h5 h6;obtain⟨c,k,F,a⟩:=src l v b V I h5;obtain⟨c',q1',q2',q3'⟩:=src l' H b U h4 h6;have:=A.sep c c' v H b k q1' F q2' h5 h6;subst this;rcases a with⟨e,r1,r2⟩ | ⟨r1,r2,r3⟩<;>rcases q3' with⟨e',s1,s2⟩ | ⟨s1,s2,s3⟩
  ·omega
  ·grind
  ·grind
  ·exact p.inj hnd l v l' H c r3 s3
 ·intro l v s;have:=p.le;by_cases h:l < nx
  ·omega
  ·have s:lookA M l=some v:=by
    grind
   obtain⟨o,ho⟩:=BM s;exact(p.rng l v o ho).2
 ·intro l v s;by_cases h:l < nx
  ·rw[B l h]at s;exact A.refs l v s
  ·have s:lookA M l=some v:=by
    grind
   obtain⟨o,ho⟩:=BM s;obtain⟨e,d,q⟩:=p.ok l v o ho;cases o with
   | none=>rw[q.1];rfl
   | some c=>exact A.refs c v q.2.1
 ·unfold QK;split
  ·rename_i y hy;exact R t y (Vd hy) g' _ hc
  ·rcases hbs t with m | ⟨m,hr⟩
   ·rw[m];trivial
   ·have:=(hs t).ren (g':=g') (M':=aJ N (qj E Dx) g') (f:=fun l=>l) (fun l O u hu=>(B l (hr l (m▸O))).trans hu) (fun _=>X);rw[Sl.uZ]at this
    grind
end
end Go.Vc
