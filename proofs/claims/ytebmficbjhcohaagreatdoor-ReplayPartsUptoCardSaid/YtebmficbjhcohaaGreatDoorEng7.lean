/- Own engine: Vdl. -/
import Derived.Test.YtebmficbjhcohaaGreatDoorEng6
set_option linter.unusedVariables false
set_option linter.unusedSimpArgs false
namespace Go.Vc
open Go.RowKit
inductive It where
 | slot (t:Nat) (agg:Bool) (own:List (Option TypeId))
 | cells (l:Nat) (own:List (Option TypeId))
 | row (l:Nat) (e:TypeId)
 | iter (l:Nat)
 | tcs (l:Nat) (t:TypeId) (own:List (Option TypeId))
 | aca (l:Nat)
def AZ:Value->Bool
 | .slice none 0 0=>true
 | _=>false
def It.ids:It->List Nat
 | .slot _ _ _=>[]
 | .cells l _=>[l]
 | .row l _=>[l]
 | .iter l=>[l]
 | .tcs l _ _=>[l]
 | .aca l=>[l]
section
variable {D:Type}
def aeW (a:Nat->Option (Bk D))(f:Option TypeId)(x:Lf D):Option (Lf D×List (Nat×Bool)):=
 match f with
 | none=>(match x with
  | .own c=>(match a c with
   | some (.row _ d)=>some (.dat d,[(c,true)])
   | some (.uZ d)=>some (.dat d,[])
   | some (.map d)=>some (.dat d,[(c,true)])
   | _=>none)
  | .part c _ _ _ f=>(match a c with
   | some (.row _ d)=>(match f d with
    | some b=>some (.dat b,[(c,true)])
    | none=>none)
   | some (.uZ d)=>(match f d with
    | some b=>some (.dat b,[])
    | none=>none)
   | _=>none)
  | x=>some (x,[]))
 | some e=>(match x with
  | .own c=>(match a c with
   | some (.row g d)=>if Nat.beq e g then some (.dat d,[(c,false)])else none
   | _=>none)
  | .val v=>if AZ v then some (.val v,[])else none
  | _=>none)
def rU (a:Nat->Option (Bk D)):List (Option TypeId)->List (Lf D)->Option (List (Lf D)×List (Nat×Bool))
 | [],[]=>some ([],[])
 | f::b,x::d=>
  (match aeW a f x,rU a b d with
  | some (c,m),some (cs,e)=>some (c::cs,m++e)
  | _,_=>none)
 | _,_=>none
def Ad (f:Nat->Sl D)(a:Nat->Option (Bk D)):It->Option (List (Lf D)×List (Nat×Bool))
 | .slot t c own=>(match f t with
  | .one (.lf x)=>if c then none else rU a own [x]
  | .one (.agg b)=>if c then rU a own b else none
  | _=>none)
 | .cells l own=>(match a l with
  | some (.cells b)=>rU a own b
  | _=>none)
 | .row l e=>(match a l with
  | some (.row h d)=>if Nat.beq e h then some ([.dat d],[])else none
  | _=>none)
 | .iter l=>(match a l with
  | some (.iter s p)=>some ([.str s, .int .i64 p],[])
  | _=>none)
 | .tcs l t own=>(match a l with
  | some (.tc g b)=>if Nat.beq g t then rU a own b else none
  | _=>none)
 | .aca l=>(match a l with
  | some (.map d)=>some ([.dat d],[])
  | _=>none)
def Em (a:Nat->Sl D)(b:Nat->Option (Bk D)):List It->Option (List (List (Lf D))×List (Nat×Bool))
 | []=>some ([],[])
 | i::e=>
  (match Ad a b i,Em a b e with
  | some (c,m),some (cs,d)=>some (c::cs,m++d)
  | _,_=>none)
def OD (f:Option TypeId)(x:Lf D)(n:Nat):Lf D×List (Nat×Bk D)×Nat:=
 match f with
 | none=>(x,[],n)
 | some e=>(match x with
  | .dat d=>(.own n,[(n, .row e d)],n+1)
  | _=>(.any,[],n))
def lJ:List (Option TypeId)->List (Lf D)->Nat->List (Lf D)×List (Nat×Bk D)×Nat
 | f::b,x::a,n=>
  let p:=OD f x n
  let q:=lJ b a p.2.2
  (p.1::q.1,p.2.1++q.2.1,q.2.2)
 | _,_,n=>([],[],n)
def aAZ:List (Lf D)->Sl D
 | [x]=> .one (.lf x)
 | _=> .one (.lf .any)
def aaL:List (Lf D)->Option D
 | [.dat d]=>some d
 | _=>none
def fD:List It->List (List (Lf D))->Nat->List (Nat×Sl D)×List (Nat×Bk D)×Nat
 | .slot t b own::a,c::cs,n=>
  let p:=lJ own c n
  let q:=fD a cs p.2.2
  ((t,if b then .one (.agg p.1)else aAZ p.1)::q.1,p.2.1++q.2.1,q.2.2)
 | .cells l own::a,c::cs,n=>
  let p:=lJ own c n
  let q:=fD a cs p.2.2
  (q.1,(l, .cells p.1)::p.2.1++q.2.1,q.2.2)
 | .row l e::a,c::cs,n=>
  let q:=fD a cs n
  (q.1,(match aaL c with
   | some d=>(l, .row e d)::q.2.1
   | none=>q.2.1),q.2.2)
 | .iter l::a,c::cs,n=>
  let q:=fD a cs n
  (q.1,(match c with
   | [.str s, .int _ p]=>(l, .iter s p.toNat)::q.2.1
   | _=>q.2.1),q.2.2)
 | .tcs l t own::a,c::cs,n=>
  let p:=lJ own c n
  let q:=fD a cs p.2.2
  (q.1,(l, .tc t p.1)::p.2.1++q.2.1,q.2.2)
 | .aca l::a,c::cs,n=>
  let q:=fD a cs n
  (q.1,(match aaL c with
   | some d=>(l, .map d)::q.2.1
   | none=>q.2.1),q.2.2)
 | _,_,n=>([],[],n)
def WC (S:Sh D):List (Lf D)->List (Lf D)->Prop
 | [],[]=>True
 | x::a,y::b=>x.Le S y/\y.jE=true/\WC S a b
 | _,_=>False
def ag9 (S:Sh D):List (List (Lf D))->List (List (Lf D))->Prop
 | [],[]=>True
 | x::a,y::b=>WC S x y/\ag9 S a b
 | _,_=>False
end
section
variable {D:Type}{S:Sh D}{N:Nat->Prop}{w:World}{w0:Bs}{g:Nat->Option Value}{slot:Nat->Sl D}{blk:Nat->Option (Bk D)}{al:Nat->Prop}{val:Nat->Value}
abbrev Asg:=List (Nat×Value×Option Nat)
structure KO (N:Nat->Prop)(blk:Nat->Option (Bk D))(g:Nat->Option Value)(uY:Asg)(mv:List (Nat×Bool))(g':Nat->Option Value)(M':Nat->Prop):Prop where
 c2:∀i v o,(i,v,o)∈uY->g' i=some v
 c3:∀b,M' b->aV N blk g b
 c4:∀c,(c,true)∈mv->∀v b,g c=some v->eP v=some b->¬M' b
theorem KO.less {e b:Asg}{f a:List (Nat×Bool)}{d:Nat->Option Value}{j:Nat->Prop}(h:KO N blk g e f d j)(n:∀x∈b,x∈e)(l:∀x∈a,x∈f):KO N blk g b a d j:=
 ⟨fun i v o k=>h.c2 i v o (n _ k),h.c3,fun c m=>h.c4 c (l _ m)⟩
def YX (S:Sh D)(a:Nat->Option (Bk D))(g:Nat->Option Value)(b:List (Nat×Bool))(e:TypeId)(d:D)(v:Value):Option Nat->Prop
 | some c=>a c=some (.row e d)/\g c=some v/\(c,false)∈b
 | none=>v= .slice none 0 0/\S.len d=0/\S.mp d=none
theorem YX.more {b a:List (Nat×Bool)}{e:TypeId}{d:D}{v:Value}{o:Option Nat}(h:YX S blk g b e d v o)(f:∀x∈b,x∈a):YX S blk g a e d v o:=by
 cases o with
 | none=>exact h
 | some c=>exact⟨h.1,h.2.1,f _ h.2.2⟩
structure tq (S:Sh D)(blk:Nat->Option (Bk D))(g:Nat->Option Value)(mv:List (Nat×Bool))(uY:Asg)(rows:List (Nat×Bk D))(n n':Nat):Prop where
 le:n<=n'
 rng:∀i v o,(i,v,o)∈uY->n<=i/\i < n'
 uni:∀i v o v' o',(i,v,o)∈uY->(i,v',o')∈uY->v=v'
 ok:∀i v o,(i,v,o)∈uY->∃e d,YX S blk g mv e d v o
 inj:(mv.map (·.1)).Nodup->∀i v i' v' c,(i,v,some c)∈uY->(i',v',some c)∈uY->i=i'
 rows:∀i bk,(i,bk)∈rows->∃v o e d,(i,v,o)∈uY/\bk= .row e d/\YX S blk g mv e d v o
theorem tq.nil (n:Nat):tq S blk g [] [] [] n n:=⟨oC _,fun _ _ _ h=>by simp at h,fun _ _ _ _ _ h=>by simp at h,fun _ _ _ h=>by simp at h,fun _ _ _ _ _ _ h=>by simp at h,fun _ _ h=>by simp at h⟩
theorem tq.app {p j:List (Nat×Bool)}{G A:Asg}{t m:List (Nat×Bk D)}{n F z:Nat}(h:tq S blk g p G t n F)(k:tq S blk g j A m F z):tq S blk g (p++j) (G++A) (t++m) n z:=by
 have l1:∀x∈p,x∈p++j:=fun x C=>Qbz _ C
 have H:∀x∈j,x∈p++j:=fun x C=>Qb5 _ C
 refine⟨EZ h.le k.le,fun i v o a=> ?_,fun i v o l o' f b=> ?_,fun i v o a=> ?_,fun u i v w l c f b=> ?_,fun i I a=> ?_⟩
 ·rcases u_.1 a with a | a
  ·have:=h.rng i v o a;have:=k.le;omega
  ·have:=k.rng i v o a;have:=h.le;omega
 ·rcases u_.1 f with f | f<;>rcases u_.1 b with b | b
  ·exact h.uni i v o l o' f b
  ·have:=h.rng i v o f;have:=k.rng i l o' b;omega
  ·have:=k.rng i v o f;have:=h.rng i l o' b;omega
  ·exact k.uni i v o l o' f b
 ·rcases u_.1 a with a | a
  ·obtain⟨e,d,q⟩:=h.ok i v o a;exact⟨e,d,q.more l1⟩
  ·obtain⟨e,d,q⟩:=k.ok i v o a;exact⟨e,d,q.more H⟩
 ·rw[List.map_append,List.nodup_append]at u;have y:∀c,(c,false)∈p->(c,false)∈j->False:=fun c r s=>u.2.2 c (Qb.2 ⟨_,r,rfl⟩) c (Qb.2 ⟨_,s,rfl⟩) rfl
  rcases u_.1 f with f | f<;>rcases u_.1 b with b | b
  ·exact h.inj u.1 i v w l c f b
  ·obtain⟨e,d,q⟩:=h.ok i v _ f;obtain⟨K,J,B⟩:=k.ok w l _ b;exact(y c q.2.2 B.2.2).elim
  ·obtain⟨e,d,q⟩:=k.ok i v _ f;obtain⟨K,J,B⟩:=h.ok w l _ b;exact(y c B.2.2 q.2.2).elim
  ·exact k.inj u.2.1 i v w l c f b
 ·rcases u_.1 a with a | a
  ·obtain⟨v,o,e,d,r,s,E⟩:=h.rows i I a;exact⟨v,o,e,d,Qbz _ r,s,E.more l1⟩
  ·obtain⟨v,o,e,d,r,s,E⟩:=k.rows i I a;exact⟨v,o,e,d,Qb5 _ r,s,E.more H⟩
theorem TN {M a:Nat->Prop}{c:Nat->Option Value}{x:Lf D}{v:Value}(e:x.jE=true)(h:x.Rel S M w g v)(d:∀b,a b->M b):x.Rel S a w c v:=by
 cases x<;>first | (simp[Lf.jE]at e;done) | exact h | exact dD.mono h d
theorem acs {v:Value}(h:AZ v=true):v= .slice none 0 0:=by
 unfold AZ at h;split at h
 ·rfl
 ·cases h
theorem AL {d:D}{y:Lf D}(h:(Lf.dat d).Le S y):y= .dat d:=by
 rcases h with h | ⟨h,_⟩ | ⟨b,h,_⟩ | ⟨_,_,_,_,h,_⟩ | ⟨_,h,_⟩
 ·exact h.symm
 ·cases h
 ·cases h
 ·cases h
 ·cases h
theorem aE6 {y:Lf D}(h:(Lf.val (.slice none 0 0)).Le S y)(a:y.jE=true):∃d,y= .dat d/\S.len d=0/\S.mp d=none:=by
 rcases h with h | ⟨_,h⟩ | ⟨b,h,_⟩ | ⟨_,_,_,_,h,_⟩ | ⟨_,h,_⟩
 ·subst h;simp[Lf.jE]at a
 ·exact h
 ·cases h
 ·cases h
 ·cases h
theorem aGO (M:iL S)(J:Hp S w0 N blk g al w){f:Option TypeId}{x c L:Lf D}{u:Value}{R:List (Nat×Bool)}{n:Nat}(q:x.Rel S (aV N blk g) w g u)(a:aeW blk f x=some (c,R))(C:c.Le S L)(K:L.jE=true):
  ∃Y,tq S blk g R Y (OD f L n).2.1 n (OD f L n).2.2/\∀A s,KO N blk g Y R A s->(OD f L n).1.Rel S s w A u:=by
 unfold aeW at a;cases f with
 | none=>
  dsimp only at a;simp only[OD];cases x with
  | own k=>
   dsimp only at a;have q:g k=some u:=q;split at a
   ·rename_i e d z;injection a with a
    injection a with l p
    subst l p;refine⟨[],⟨oC _,fun _ _ _ h=>by simp at h,fun _ _ _ _ _ h=>by simp at h,fun _ _ _ h=>by simp at h,fun _ _ _ _ _ _ h=>by simp at h,fun _ _ h=>by simp at h⟩,fun A s r=> ?_⟩;rw[AL C];exact IL J z q r.c3 fun b E=>r.c4 k oI u b q E
   ·rename_i d z;injection a with a
    injection a with l p
    subst l p;refine⟨[],tq.nil _,fun A s r=> ?_⟩;rw[AL C];obtain⟨H,y,I⟩:=J.dn k _ z;rw[q]at y;injection y with y
    subst y;exact dD.mono I r.c3
   ·rename_i d z;injection a with a
    injection a with l p
    subst l p;refine⟨[],⟨oC _,fun _ _ _ h=>by simp at h,fun _ _ _ _ _ h=>by simp at h,fun _ _ _ h=>by simp at h,fun _ _ _ _ _ _ h=>by simp at h,fun _ _ h=>by simp at h⟩,fun A s r=> ?_⟩;rw[AL C];exact ajq (fun d m h=>⟨(M.xn d m h).1,(M.xn d m h).2.1⟩) J z q fun b E=>r.c4 k oI u b q E
   ·cases a
  | part k i j sz f=>
   dsimp only at a;obtain⟨X,nn,O,W,rfl,l,p,rfl⟩:=q;have P:∀(s:Nat->Prop) d F,dD S s w d (.slice X nn O)->XY S sz i j d=some F->dD S s w F (sliced X i j O sz):=by
    intro s d F K B;unfold XY at B;split at B
    ·rename_i G;have G:=Qa G;obtain⟨a',cap',Z,_⟩:=dD.slice' K (M.Et _ _ _ _ B).1;injection Z with _ Z _
     have:=EG M K B l au;rw[G];exact this
    ·cases B
   split at a
   ·rename_i e d z;split at a
    ·rename_i F B;injection a with a
     injection a with U V
     subst U V;refine⟨[],⟨oC _,fun _ _ _ h=>by simp at h,fun _ _ _ _ _ h=>by simp at h,fun _ _ _ h=>by simp at h,fun _ _ _ _ _ _ h=>by simp at h,fun _ _ h=>by simp at h⟩,fun A s r=> ?_⟩;rw[AL C];exact P s d F (IL J z W r.c3 fun b E=>r.c4 k oI _ b W E) B
    ·cases a
   ·rename_i d z;split at a
    ·rename_i F B;injection a with a
     injection a with U V
     subst U V;refine⟨[],tq.nil _,fun A s r=> ?_⟩;rw[AL C];obtain⟨H,y,I⟩:=J.dn k _ z;rw[W]at y;injection y with y
     subst y;exact P s d F (dD.mono I r.c3) B
    ·cases a
   ·cases a
  | _=>
   injection a with a
   injection a with l p
   subst l p;exact⟨[],tq.nil _,fun A s r=>TN K (Lf.Le.rel C q) r.c3⟩
 | some e=>
  dsimp only at a;cases x with
  | own k=>
   dsimp only at a;have q:g k=some u:=q;split at a
   ·rename_i e' d z;split at a
    ·rename_i Q;have Q:=Qa Q;subst Q;injection a with a
     injection a with l p
     subst l p;have:=AL C;subst this;simp only[OD];refine⟨[(n,u,some k)],⟨by omega,fun i v o t=> ?_,fun i v o H o' l p=> ?_,fun i v o t=> ?_,fun _ i v i' H c l p=> ?_,fun i bk t=> ?_⟩,fun A s r=>r.c2 n u (some k) oI⟩
     ·simp only[BH,WB]at t;omega
     ·simp only[BH,WB]at l p;rw[l.2.1,p.2.1]
     ·simp only[BH,WB]at t;obtain⟨rfl,rfl,rfl⟩:=t;exact⟨e,d,z,q,by simp⟩
     ·simp only[BH,WB]at l p;rw[l.1,p.1]
     ·simp only[BH,WB]at t;obtain⟨rfl,rfl⟩:=t;exact⟨u,some k,e,d,by simp,rfl,z,q,by simp⟩
    ·cases a
   ·cases a
  | val v=>
   dsimp only at a;split at a
   ·rename_i T;have T:=acs T;subst T;injection a with a
    injection a with l p
    subst l p;obtain⟨d,rfl,G⟩:=aE6 C K;have q:u=_:=q;simp only[OD];refine⟨[(n,u,none)],⟨by omega,fun i v o t=> ?_,fun i v o H o' l p=> ?_,fun i v o t=> ?_,fun _ i v i' H c l p=> ?_,fun i bk t=> ?_⟩,fun A s r=>r.c2 n u none oI⟩
    ·simp only[BH,WB]at t;omega
    ·simp only[BH,WB]at l p;rw[l.2.1,p.2.1]
    ·simp only[BH,WB]at t;obtain⟨rfl,rfl,rfl⟩:=t;exact⟨e,d,q,G⟩
    ·simp only[BH,WB]at l;obtain⟨_,_,l⟩:=l;cases l
    ·simp only[BH,WB]at t;obtain⟨rfl,rfl⟩:=t;exact⟨u,none,e,d,by simp,rfl,q,G⟩
   ·cases a
  | _=>cases a
theorem Y7 (t:iL S)(v:Hp S w0 N blk g al w):∀(i:List (Option TypeId)) (p cs a:List (Lf D)) (d:List Value) (k:List (Nat×Bool)) (n:Nat),aZ S (aV N blk g) w g p d->rU blk i p=some (cs,k)->WC S cs a->
  ∃s,tq S blk g k s (lJ i a n).2.1 n (lJ i a n).2.2/\∀j o,KO N blk g s k j o->aZ S o w j (lJ i a n).1 d
 | [],[],cs,a,d,k,n,l,b,h=>by
  injection b with b
  injection b with r q
  subst r q;cases a with
  | cons _ _=>exact h.elim
  | nil=>
   cases d with
   | cons _ _=>exact l.elim
   | nil=>exact⟨[],tq.nil _,fun _ _ _=>trivial⟩
 | [],_::_,_,_,_,_,_,_,b,_=>by simp[rU]at b
 | _::_,[],_,_,_,_,_,_,b,_=>by simp[rU]at b
 | f::i,x::p,cs,a,d,k,n,l,b,h=>by
  unfold rU at b;split at b
  ·rename_i c m y H r q;injection b with b
   injection b with E G
   subst E G;cases a with
   | nil=>exact h.elim
   | cons I a=>
    cases d with
    | nil=>exact l.elim
    | cons u d=>
     obtain⟨a1,C,A⟩:=aGO t v (n:=n) l.1 r h.1 h.2.1;obtain⟨a2,B,F⟩:=Y7 t v i p y a d H (OD f I n).2.2 l.2 q h.2.2;refine⟨a1++a2,C.app B,fun j o z=>⟨A j o (z.less (fun x e=>Qbz _ e) (fun x e=>Qbz _ e)),F j o (z.less (fun x e=>Qb5 _ e) (fun x e=>Qb5 _ e))⟩⟩
  ·cases b
def OM (S:Sh D)(N:Nat->Prop)(h:Bs)(w:World)(a:Nat->Option (Bk D))(g:Nat->Option Value)(ids:List Nat)(c:Asg)(f:List (Nat×Bool))(i:List (Nat×Bk D)):Prop:=
 ∀l b,(l,b)∈i->(∃v o e d,(l,v,o)∈c/\b= .row e d/\YX S a g f e d v o)\/
  (l∈ids/\hot (a l)=true/\∃v,g l=some v/\∀g' M',KO N a g c f g' M'->xC S M' w g' h b v)
theorem ao4 (hS:iL S)(hp:Hp S w0 N blk g al w)(hs:∀t,(slot t).Rel S (aV N blk g) w g (val t)):∀(Y:List It) (cs H:List (List (Lf D))) (M:List (Nat×Bool)) (n:Nat),Em slot blk Y=some (cs,M)->ag9 S cs H->
  ∃Z,tq S blk g M Z [] n (fD Y H n).2.2/\(∀t y,(t,y)∈(fD Y H n).1->∀q r,KO N blk g Z M q r->y.Rel S r w q (val t))/\
   OM S N w0 w blk g (Y.flatMap It.ids) Z M (fD Y H n).2.1
 | [],cs,H,M,n,ha,G=>by
  injection ha with ha
  injection ha with f h2
  subst f h2;exact⟨[],by simpa[fD]using tq.nil n,fun t y h=>by simp[fD]at h,fun l P h=>by simp[fD]at h⟩
 | i::Y,cs,H,M,n,ha,G=>by
  unfold Em at ha;split at ha
  ·rename_i c m cs0 ms f h2;injection ha with ha
   injection ha with e1 e2
   subst e1 e2;cases H with
   | nil=>exact G.elim
   | cons F H=>
    have Q:=fun n=>ao4 hS hp hs Y cs0 H ms n h2 G.2
    have R:∀{α:Type} {a b:List α},∀x∈a,x∈a++b:=fun x hx=>Qbz _ hx
    have L:∀{α:Type} {a b:List α},∀x∈b,x∈a++b:=fun x hx=>Qb5 _ hx
    have aiz:∀{M:List (Nat×Bool)} {Z:Asg} {V:List (Nat×Bk D)} {n n':Nat},tq S blk g M Z V n n'->tq S blk g M Z [] n n':=fun k=>⟨k.le,k.rng,k.uni,k.ok,k.inj,fun _ _ h=>by simp at h⟩
    have lift:∀{ids:List Nat} {a1 a2:Asg} {bs:List (Nat×Bk D)},OM S N w0 w blk g ids a2 ms bs->∀aix,(∀x∈ids,x∈aix)->OM S N w0 w blk g aix (a1++a2) (m++ms) bs:=by
     intro ids a1 a2 bs h aix hi l P G;rcases h l P G with⟨v,o,e,d,J,I,q3⟩ | ⟨J,I,v,q3,q4⟩
     ·exact .inl ⟨v,o,e,d,L _ J,I,q3.more L⟩
     ·exact .inr ⟨hi _ J,I,v,q3,fun q r C=>q4 q r (C.less L L)⟩
    have aiD:∀{ids:List Nat} {a1 a2:Asg} {V:List (Nat×Bk D)} {n n':Nat},tq S blk g m a1 V n n'->OM S N w0 w blk g ids (a1++a2) (m++ms) V:=by
     intro ids a1 a2 V n n' k l P G;obtain⟨v,o,e,d,J,I,q3⟩:=k.rows l P G;exact .inl ⟨v,o,e,d,R _ J,I,q3.more R⟩
    have both:∀{ids:List Nat} {a:Asg} {M:List (Nat×Bool)} {b1 b2:List (Nat×Bk D)},OM S N w0 w blk g ids a M b1->OM S N w0 w blk g ids a M b2->OM S N w0 w blk g ids a M (b1++b2):=by
     intro ids a M b1 b2 f h2 l P G;rcases u_.1 G with G | G
     ·exact f l P G
     ·exact h2 l P G
    cases i with
    | slot t agg own=>
     simp only[Ad]at f;have key:∀T us,aZ S (aV N blk g) w g T us->rU blk own T=some (c,m)->(∀q r,aZ S r w q (lJ own F n).1 us->(if agg=true then Sl.one (.agg (lJ own F n).1)else aAZ (lJ own F n).1).Rel S r w q (val t))->
       ∃Z,tq S blk g (m++ms) Z [] n (fD (.slot t agg own::Y) (F::H) n).2.2/\(∀K y,(K,y)∈(fD (.slot t agg own::Y) (F::H) n).1->∀q r,KO N blk g Z (m++ms) q r->y.Rel S r w q (val K))/\
        OM S N w0 w blk g ((It.slot t agg own::Y).flatMap It.ids) Z (m++ms) (fD (.slot t agg own::Y) (F::H) n).2.1:=by
      intro T us hxu hab hfin;obtain⟨a1,k1,r1⟩:=Y7 hS hp own T c F us m n hxu hab G.1;obtain⟨a2,X,W,b2⟩:=Q (lJ own F n).2.2;simp only[fD];refine⟨a1++a2,by simpa using(aiz k1).app X,fun K y B q r C=> ?_,both (aiD k1) (lift b2 _ fun x hx=>by simpa[It.ids]using hx)⟩;rcases CW.1 B with B | B
      ·injection B with J I
       subst J I;exact hfin q r (r1 q r (C.less R R))
      ·exact W K y B q r (C.less L L)
     have ht:=hs t;split at f
     ·rename_i x hx;rw[hx]at ht;split at f
      ·cases f
      ·rename_i hagg;refine key [x] [val t] ⟨ht,trivial⟩ f fun q r h=> ?_;rw[lW hagg];generalize (lJ own F n).1=ys at h;cases ys with
       | nil=>exact h.elim
       | cons y ys=>
        cases ys with
        | cons _ _=>exact h.2.elim
        | nil=>exact h.1
     ·rename_i T hx;rw[hx]at ht;split at f
      ·rename_i hagg;obtain⟨vs,U,hr⟩:=ht;refine key T vs hr f fun q r h=> ?_;rw[mV hagg,U];exact⟨vs,rfl,h⟩
      ·cases f
     ·cases f
    | cells l own=>
     simp only[Ad]at f;split at f
     ·rename_i T O;obtain⟨v,U,b,vs,ty,rfl,hm,hh,hr⟩:=hp.dn l _ O;obtain⟨a1,k1,r1⟩:=Y7 hS hp own T c F vs m n hr f G.1;obtain⟨a2,X,W,b2⟩:=Q (lJ own F n).2.2;simp only[fD];refine⟨a1++a2,by simpa using(aiz k1).app X,fun K y B q r C=>W K y B q r (C.less L L),?_⟩;refine both (b1:=(l, .cells (lJ own F n).1)::(lJ own F n).2.1) ?_ (lift b2 _ fun x hx=>by simp only[Qbm,u_];exact .inr hx);intro l' P A;rcases CW.1 A with A | A
      ·injection A with J I
       subst J I;exact .inr ⟨by simp[It.ids],by rw[O];rfl,_,U,fun q r C=>⟨b,vs,ty,rfl,hm,hh,r1 q r (C.less R R)⟩⟩
      ·exact aiD (ids:=_) (a2:=a2) k1 l' P A
     ·cases f
    | tcs l t own=>
     simp only[Ad]at f;split at f
     ·rename_i K T O;split at f
      ·rename_i ht;have ht:=Qa ht;subst ht;obtain⟨v,U,b,vs,rfl,hm,hh,hr⟩:=hp.dn l _ O;obtain⟨a1,k1,r1⟩:=Y7 hS hp own T c F vs m n hr f G.1;obtain⟨a2,X,W,b2⟩:=Q (lJ own F n).2.2;simp only[fD];refine⟨a1++a2,by simpa using(aiz k1).app X,fun K y B q r C=>W K y B q r (C.less L L),?_⟩;refine both (b1:=(l, .tc K (lJ own F n).1)::(lJ own F n).2.1) ?_ (lift b2 _ fun x hx=>by simp only[Qbm,u_];exact .inr hx);intro l' P A;rcases CW.1 A with A | A
       ·injection A with J I
        subst J I;exact .inr ⟨by simp[It.ids],by rw[O];rfl,_,U,fun q r C=>⟨b,vs,rfl,hm,hh,r1 q r (C.less R R)⟩⟩
       ·exact aiD (ids:=_) (a2:=a2) k1 l' P A
      ·cases f
     ·cases f
    | row l e=>
     simp only[Ad]at f;split at f
     ·rename_i e' d O;split at f
      ·rename_i he;have he:=Qa he;subst he;injection f with f
       injection f with J I
       subst J I;obtain⟨E,hl2⟩:=G;cases F with
       | nil=>exact E.elim
       | cons y ys=>
        cases ys with
        | cons _ _=>exact E.2.2.elim
        | nil=>
         have:=AL E.1;subst this;obtain⟨a2,X,W,b2⟩:=Q n;obtain⟨v,U,hok⟩:=hp.dn l _ O;simp only[fD,aaL];refine⟨a2,by simpa using X,fun K y B q r C=>W K y B q r (by simpa using C),?_⟩;refine both (b1:=[(l, .row e d)]) (fun l' P A=> ?_) qbm;simp only[BH,WB]at A;obtain⟨rfl,rfl⟩:=A;refine .inr ⟨by simp[It.ids],by rw[O];rfl,v,U,fun q r C=> ?_⟩;obtain⟨CS,T,hown,hcell⟩:=hok;refine⟨CS,T,hown,fun i j hi hj=> ?_⟩;obtain⟨u,k1,k3,k4⟩:=hcell i j hi hj;exact⟨u,k1,k3,TN k3 k4 C.c3⟩
      ·cases f
     ·cases f
    | iter l=>
     simp only[Ad]at f;split at f
     ·rename_i s p O;injection f with f
      injection f with J I
      subst J I;obtain⟨E,hl2⟩:=G;cases F with
      | nil=>exact E.elim
      | cons y ys=>
       cases ys with
       | nil=>exact E.2.2.elim
       | cons z zs=>
        cases zs with
        | cons _ _=>exact E.2.2.2.2.elim
        | nil=>
         have e1:y= .str s:=by
          rcases E.1 with h | ⟨h,_⟩ | ⟨b,h,_⟩ | ⟨_,_,_,_,h,_⟩ | ⟨_,h,_⟩
          ·exact h.symm
          ·cases h
          ·cases h
          ·cases h
          ·cases h
         have e2:z= .int .i64 p:=by
          rcases E.2.2.1 with h | ⟨h,_⟩ | ⟨b,h,_⟩ | ⟨_,_,_,_,h,_⟩ | ⟨_,h,_⟩
          ·exact h.symm
          ·cases h
          ·cases h
          ·cases h
          ·cases h
         subst e1 e2;obtain⟨a2,X,W,b2⟩:=Q n;obtain⟨v,U,hok⟩:=hp.dn l _ O;simp only[fD,DI];refine⟨a2,by simpa using X,fun K y B q r C=>W K y B q r (by simpa using C),?_⟩;refine both (b1:=[(l, .iter s p)]) (fun l' P A=> ?_) qbm;simp only[BH,WB]at A;obtain⟨rfl,rfl⟩:=A;exact .inr ⟨by simp[It.ids],by rw[O];rfl,v,U,fun q r C=>hok⟩
     ·cases f
    | aca l=>
     simp only[Ad]at f;split at f
     ·rename_i d O;injection f with f
      injection f with J I
      subst J I;obtain⟨E,hl2⟩:=G;cases F with
      | nil=>exact E.elim
      | cons y ys=>
       cases ys with
       | cons _ _=>exact E.2.2.elim
       | nil=>
        have:=AL E.1;subst this;obtain⟨a2,X,W,b2⟩:=Q n;obtain⟨v,U,hok⟩:=hp.dn l _ O;simp only[fD,aaL];refine⟨a2,by simpa using X,fun K y B q r C=>W K y B q r (by simpa using C),?_⟩;refine both (b1:=[(l, .map d)]) (fun l' P A=> ?_) qbm;simp only[BH,WB]at A;obtain⟨rfl,rfl⟩:=A;exact .inr ⟨by simp[It.ids],by rw[O];rfl,v,U,fun q r C=>hok⟩
     ·cases f
  ·cases ha
theorem asI {f:Option TypeId}{x c:Lf D}{d:List (Nat×Bool)}(h:aeW blk f x=some (c,d)):∀p∈d,hot (blk p.1)=true:=by
 unfold aeW at h;split at h
 ·split at h
  ·split at h
   ·rename_i b;injection h with h;injection h with _ h;subst h
    intro p a;simp only[BH]at a;subst a;rw[b];rfl
   ·injection h with h;injection h with _ h;subst h;simp
   ·rename_i b;injection h with h;injection h with _ h;subst h
    intro p a;simp only[BH]at a;subst a;rw[b];rfl
   ·cases h
  ·split at h
   ·rename_i b;split at h
    ·injection h with h;injection h with _ h;subst h
     intro p a;simp only[BH]at a;subst a;rw[b];rfl
    ·cases h
   ·split at h
    ·injection h with h;injection h with _ h;subst h;simp
    ·cases h
   ·cases h
  ·injection h with h;injection h with _ h;subst h;simp
 ·split at h
  ·split at h
   ·rename_i b;split at h
    ·injection h with h;injection h with _ h;subst h
     intro p a;simp only[BH]at a;subst a;rw[b];rfl
    ·cases h
   ·cases h
  ·split at h
   ·injection h with h;injection h with _ h;subst h;simp
   ·cases h
  ·cases h
theorem zM:∀(e:List (Option TypeId)) (d cs:List (Lf D)) (b:List (Nat×Bool)),rU blk e d=some (cs,b)->∀p∈b,hot (blk p.1)=true
 | [],[],cs,b,h=>by injection h with h;injection h with _ h;subst h;simp
 | [],_::_,_,_,h=>by simp[rU]at h
 | _::_,[],_,_,h=>by simp[rU]at h
 | f::e,x::d,cs,b,h=>by
  unfold rU at h;split at h
  ·rename_i c m g i k j;injection h with h;injection h with _ h;subst h
   intro p a;rcases u_.1 a with a | a
   ·exact asI k p a
   ·exact zM e d g i j p a
  ·cases h
theorem Xq:∀(f:List It) (cs:List (List (Lf D))) (d:List (Nat×Bool)),Em slot blk f=some (cs,d)->∀p∈d,hot (blk p.1)=true
 | [],cs,d,h=>by injection h with h;injection h with _ h;subst h;simp
 | i::f,cs,d,h=>by
  unfold Em at h;split at h
  ·rename_i c m g j a k;injection h with h;injection h with _ h;subst h
   intro p b;rcases u_.1 b with b | b
   ·cases i with
    | slot t n own=>
     simp only[Ad]at a;split at a
     ·split at a
      ·cases a
      ·exact zM _ _ _ _ a p b
     ·split at a
      ·exact zM _ _ _ _ a p b
      ·cases a
     ·cases a
    | cells l own=>
     simp only[Ad]at a;split at a
     ·exact zM _ _ _ _ a p b
     ·cases a
    | tcs l t own=>
     simp only[Ad]at a;split at a
     ·split at a
      ·exact zM _ _ _ _ a p b
      ·cases a
     ·cases a
    | row l e=>
     simp only[Ad]at a;split at a
     ·split at a
      ·injection a with a;injection a with _ a;subst a;simp at b
      ·cases a
     ·cases a
    | iter l=>
     simp only[Ad]at a;split at a
     ·injection a with a;injection a with _ a;subst a;simp at b
     ·cases a
    | aca l=>
     simp only[Ad]at a;split at a
     ·injection a with a;injection a with _ a;subst a;simp at b
     ·cases a
   ·exact Xq f g j k p b
  ·cases h
theorem Lf.xw (y:Lf D):y.ren (fun l=>l)=y:=by cases y<;>simp[Lf.ren]
theorem Sv.xw (y:Sv D):y.ren (fun l=>l)=y:=by
 cases y with
 | lf x=>simp[Sv.ren,Lf.xw]
 | agg a=>
  have:Lf.ren (fun l=>l)=(id:Lf D->Lf D):=funext fun x=>Lf.xw x
  simp[Sv.ren,this]
theorem Sl.xw (y:Sl D):y.ren (fun l=>l)=y:=by
 cases y with
 | one x=>simp[Sl.ren,Sv.xw]
 | sO a=>
  have:Sv.ren (fun l=>l)=(id:Sv D->Sv D):=funext fun x=>Sv.xw x
  simp[Sl.ren,this]
theorem Bk.xw (y:Bk D):y.ren (fun l=>l)=y:=by
 cases y with
 | cells a=>
  have:Lf.ren (fun l=>l)=(id:Lf D->Lf D):=funext fun x=>Lf.xw x
  simp[Bk.ren,this]
 | row e d=>rfl
 | uZ d=>rfl
 | iter s p=>rfl
 | map b=>rfl
 | tc t a=>
  have:Lf.ren (fun l=>l)=(id:Lf D->Lf D):=funext fun x=>Lf.xw x
  simp[Bk.ren,this]
def lookA:Asg->Nat->Option Value
 | [],_=>none
 | (i,v,_)::r,l=>if i=l then some v else lookA r l
theorem EE:∀{b:Asg} {l:Nat} {v:Value},lookA b l=some v->∃o,(l,v,o)∈b
 | [],_,_,h=>by simp[lookA]at h
 | (i,u,o)::r,l,v,h=>by
  unfold lookA at h;split at h
  ·rename_i e;injection h with h
   subst e h;exact⟨o,by simp⟩
  ·obtain⟨o',a⟩:=EE h;exact⟨o',Qb0 _ a⟩
theorem TK:∀{a:Asg} {l:Nat} {v:Value} {o:Option Nat},(l,v,o)∈a->∃u,lookA a l=some u
 | [],_,_,_,h=>by simp at h
 | (i,u,o')::r,l,v,o,h=>by
  unfold lookA;split
  ·exact⟨u,rfl⟩
  ·rename_i e;rcases CW.1 h with h | h
   ·injection h with b _;exact absurd b.symm e
   ·exact TK h
theorem an1 {e:List (Nat×Bool)}(h:(e.map (·.1)).Nodup){c:Nat}{x y:Bool}(b:(c,x)∈e)(d:(c,y)∈e):x=y:=by
 induction e with
 | nil=>simp at b
 | cons p r g=>
  simp only[H7,List.nodup_cons]at h;rcases CW.1 b with f | b<;>rcases CW.1 d with a | d
  ·rw[<-f]at a;injection a with _ a;exact a.symm
  ·exact absurd (Qb.2 ⟨_,d,by rw[<-f]⟩) h.1
  ·exact absurd (Qb.2 ⟨_,b,by rw[<-a]⟩) h.1
  ·exact g h.2 b d
def NM:List (Nat×Sl D)->Nat->Option (Sl D)
 | [],_=>none
 | (k,v)::r,n=>if Nat.beq n k then some v else NM r n
theorem X4:∀{l:List (Nat×Sl D)} {k:Nat} {v:Sl D},NM l k=some v->(k,v)∈l
 | [],_,_,h=>by simp[NM]at h
 | (b,c)::r,k,v,h=>by
  simp only[NM]at h;split at h
  ·rename_i a;injection h with h
   subst h;rw[Qa a];simp
  ·exact Qb0 _ (X4 h)
def r_ (a:List (Nat×Bk D))(b:Nat->Option (Bk D))(l:Nat):Option (Bk D):=
 match jM a l with
 | some c=>some c
 | none=>b l
def S9 (a:List (Nat×Sl D))(b:Nat->Sl D)(t:Nat):Sl D:=
 match NM a t with
 | some y=>y
 | none=>b t
theorem acz (hS:iL S)(C:Hp S w0 N blk g al w)(hs:∀t,(slot t).Rel S (aV N blk g) w g (val t)){is:List It}{cs W:List (List (Lf D))}{B:List (Nat×Bool)}{nx nx':Nat}{ss:List (Nat×Sl D)}{E:List (Nat×Bk D)}{Ar:Nat->Sl D}{Ep:Nat->Option (Bk D)}
  (ha:Em slot blk is=some (cs,B)) (X:ag9 S cs W) (hcon:fD is W nx=(ss,E,nx')) (hnd:(B.map (·.1)).Nodup) (Xg:∀l∈is.flatMap It.ids,l < nx/\l∉B.map (·.1))
  (hbs:∀t,Ar t= .one (.lf .any)\/(slot t=Ar t/\∀l∈(Ar t).refs,l < nx)) (hbb:∀l J,Ep l=some J->l < nx/\blk l=some J/\(∀r∈J.refs,r < nx)/\l∉B.map (·.1)):
  ∃g',Hp S w0 N (r_ E Ep) g' (· < nx') w/\(∀t,(S9 ss Ar t).Rel S (aV N (r_ E Ep) g') w g' (val t))/\(∀l,l < nx->g' l=g l):=by
 obtain⟨G,s,V,O⟩:=ao4 hS C hs is cs W B nx ha X;rw[hcon]at s V O;dsimp only at s V O;have hmv:=Xq is cs B ha;let g':Nat->Option Value:=fun l=>if l < nx then g l else lookA G l
 have m:∀l,l < nx->g' l=g l:=fun l h=>mV h
 have c2:∀i v o,(i,v,o)∈G->g' i=some v:=fun i v o R=>by
  have:=(s.rng i v o R).1;show(if i < nx then g i else lookA G i)=some v
  rw[lW au];obtain⟨u,Q⟩:=TK R;obtain⟨o',ho'⟩:=EE Q;rw[Q,s.uni i v o u o' R ho']
 have U:∀{c:Nat} {x:Bool},(c,x)∈B->c∈B.map (·.1):=fun h=>Qb.2 ⟨_,h,rfl⟩
 have src:∀l v b,hot (r_ E Ep l)=true->g' l=some v->eP v=some b->∃c,hot (blk c)=true/\g c=some v/\((c=l/\l < nx/\l∉B.map (·.1))\/(nx<=l/\(c,false)∈B/\(l,v,some c)∈G)):=by
  intro l v b hh k p;obtain⟨J,A,hh⟩:=jJ hh;unfold r_ at A;split at A
  ·rename_i qB Y;injection A with A
   subst A;rcases O l _ (qR Y)with⟨K,o,e,d,n,F,a⟩ | ⟨n,F,K,a,q4⟩
   ·rw[c2 l K o n]at k;injection k with k
    subst k;cases o with
    | none=>rw[a.1]at p;simp[eP]at p
    | some c=>exact⟨c,by rw[a.1];rfl,a.2.1, .inr ⟨(s.rng _ _ _ n).1,a.2.2,n⟩⟩
   ·obtain⟨I,H⟩:=Xg l n;rw[m l I]at k;exact⟨l,F,k, .inl ⟨rfl,I,H⟩⟩
  ·obtain⟨I,H,_,r4⟩:=hbb l J A;rw[m l I]at k;exact⟨l,by rw[H];exact hh,k, .inl ⟨rfl,I,r4⟩⟩
 have c3:∀b,aV N (r_ E Ep) g' b->aV N blk g b:=by
  rintro b (hn | ⟨l,v,h1,Z,L⟩)
  ·exact .inl hn
  ·obtain⟨c,n,F,_⟩:=src l v b h1 Z L;exact .inr ⟨c,v,n,F,L⟩
 have c4:∀c,(c,true)∈B->∀v b,g c=some v->eP v=some b->¬aV N (r_ E Ep) g' b:=by
  intro c T v b hgc p hM;have hhc:hot (blk c)=true:=hmv (c,true) T;rcases hM with hn | ⟨l,M,h1,Z,L⟩
  ·exact C.afj hhc hgc p hn
  ·obtain⟨c',n,F,a⟩:=src l M b h1 Z L;have:=C.sep c c' v M b hhc n hgc F p L;subst this;rcases a with⟨rfl,_,q⟩ | ⟨_,q,_⟩
   ·exact q (U T)
   ·exact absurd (an1 hnd T q) oI
 have T:KO N blk g G B g' (aV N (r_ E Ep) g'):=⟨c2,c3,c4⟩;refine⟨g',⟨C.below,C.hN,fun l J z=> ?_,?_,?_,?_,C.gl.mono c3⟩,fun t=> ?_,m⟩
 ·unfold r_ at z;split at z
  ·rename_i qB Y;injection z with z
   subst z;rcases O l _ (qR Y)with⟨K,o,e,d,n,rfl,a⟩ | ⟨n,F,K,a,q4⟩
   ·refine⟨K,c2 l K o n,?_⟩;cases o with
    | none=>rw[a.1];exact⟨⟨fun b p=>by simp[eP]at p,by have:=a.2.1;omega,a.2.2⟩,[],⟨by simp[a.2.1], .inl ⟨rfl,a.2.1⟩⟩,fun i j R=>by have:=a.2.1;omega⟩
    | some c=>
     obtain⟨M,P,CS,xs,hown,hcell⟩:=C.dn c _ a.1;rw[a.2.1]at P;injection P with P
     subst P;refine⟨CS,xs,hown,fun i j R hj=> ?_⟩;obtain⟨u,k1,k3,k4⟩:=hcell i j R hj;exact⟨u,k1,k3,TN k3 k4 c3⟩
   ·exact⟨K,(m l (Xg l n).1).trans a,q4 g' _ T⟩
  ·obtain⟨I,H,r3,r4⟩:=hbb l J z;obtain⟨v,hv,hok⟩:=C.dn l J H;refine⟨v,(m l I).trans hv,?_⟩;have:=hok.ren (g':=g') (M':=aV N (r_ E Ep) g') (f:=fun l=>l) (B':=w0) (fun l X u Q=>(m l (r3 l X)).trans Q) (fun _=>c3) (fun hh b p=>(hok.lt hh p).2);rwa [Bk.xw]at this
 ·intro l l' v M b h1 Z L h4 h5 h6;obtain⟨c,n,F,a⟩:=src l v b h1 L h5;obtain⟨c',q1',q2',q3'⟩:=src l' M b Z h4 h6;have:=C.sep c c' v M b n q1' F q2' h5 h6;subst this;rcases a with⟨e,I,H⟩ | ⟨I,H,r3⟩<;>rcases q3' with⟨e',s1,s2⟩ | ⟨s1,s2,s3⟩
  ·exact e.symm.trans e'
  ·subst e;exact absurd (U s2) H
  ·subst e';exact absurd (U H) s2
  ·exact s.inj hnd l v l' M c r3 s3
 ·intro l v k;have:=s.le;by_cases h:l < nx
  ·show l < nx';omega
  ·have k:lookA G l=some v:=by
    have:g' l=lookA G l:=lW h;rw[<-this];exact k
   obtain⟨o,ho⟩:=EE k;exact(s.rng l v o ho).2
 ·intro l v k;by_cases h:l < nx
  ·rw[m l h]at k;exact C.refs l v k
  ·have k:lookA G l=some v:=by
    have:g' l=lookA G l:=lW h;rw[<-this];exact k
   obtain⟨o,ho⟩:=EE k;obtain⟨e,d,q⟩:=s.ok l v o ho;cases o with
   | none=>rw[q.1];rfl
   | some c=>exact C.refs c v q.2.1
 ·unfold S9;split
  ·rename_i y hy;exact V t y (X4 hy) g' _ T
  ·rcases hbs t with p | ⟨p,hr⟩
   ·rw[p];trivial
   ·have:=(hs t).ren (g':=g') (M':=aV N (r_ E Ep) g') (f:=fun l=>l) (fun l X u Q=>(m l (hr l (p▸X))).trans Q) (fun _=>c3);rw[Sl.xw]at this;rw[<-p];exact this
end
end Go.Vc
