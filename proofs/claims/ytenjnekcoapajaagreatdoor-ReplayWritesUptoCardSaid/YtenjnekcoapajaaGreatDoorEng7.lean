/- Own engine: Vdl. -/
import Derived.Test.YtenjnekcoapajaaGreatDoorEng6
set_option linter.unusedVariables false
set_option linter.unusedSimpArgs false
namespace Go.Vc
open Go.RowKit
inductive It where
 | slot (t:Nat) (agg:Bool) (own:List (Option TypeId))
 | cells (l:Nat) (own:List (Option TypeId))
 | row (l:Nat) (e:TypeId)
 | iter (l:Nat)
 | tcs (l:Nat) (t:TypeId) (own:List (Option TypeId))
 | ada (l:Nat)
def Bq:Value->Bool
 | .slice none 0 0=>true
 | _=>false
def It.ids:It->List Nat
 | .slot _ _ _=>[]
 | .cells l _=>[l]
 | .row l _=>[l]
 | .iter l=>[l]
 | .tcs l _ _=>[l]
 | .ada l=>[l]
section
variable {D:Type}
def aeZ (a:Nat->Option (Bk D))(f:Option TypeId)(x:Lf D):Option (Lf D×List (Nat×Bool)):=
 match f with
 | none=>(match x with
  | .own c=>(match a c with
   | some (.row _ d)=>some (.dat d,[(c,true)])
   | some (.wY d)=>some (.dat d,[])
   | some (.map d)=>some (.dat d,[(c,true)])
   | _=>none)
  | .part c _ _ _ f=>(match a c with
   | some (.row _ d)=>(match f d with
    | some b=>some (.dat b,[(c,true)])
    | none=>none)
   | some (.wY d)=>(match f d with
    | some b=>some (.dat b,[])
    | none=>none)
   | _=>none)
  | x=>some (x,[]))
 | some e=>(match x with
  | .own c=>(match a c with
   | some (.row g d)=>if Nat.beq e g then some (.dat d,[(c,false)])else none
   | _=>none)
  | .val v=>if Bq v then some (.val v,[])else none
  | _=>none)
def rW (a:Nat->Option (Bk D)):List (Option TypeId)->List (Lf D)->Option (List (Lf D)×List (Nat×Bool))
 | [],[]=>some ([],[])
 | f::d,x::b=>
  (match aeZ a f x,rW a d b with
  | some (c,m),some (cs,e)=>some (c::cs,m++e)
  | _,_=>none)
 | _,_=>none
def Ah (f:Nat->Sl D)(a:Nat->Option (Bk D)):It->Option (List (Lf D)×List (Nat×Bool))
 | .slot t c own=>(match f t with
  | .one (.lf x)=>if c then none else rW a own [x]
  | .one (.agg b)=>if c then rW a own b else none
  | _=>none)
 | .cells l own=>(match a l with
  | some (.cells b)=>rW a own b
  | _=>none)
 | .row l e=>(match a l with
  | some (.row h d)=>if Nat.beq e h then some ([.dat d],[])else none
  | _=>none)
 | .iter l=>(match a l with
  | some (.iter s p)=>some ([.str s, .int .i64 p],[])
  | _=>none)
 | .tcs l t own=>(match a l with
  | some (.tc g b)=>if Nat.beq g t then rW a own b else none
  | _=>none)
 | .ada l=>(match a l with
  | some (.map d)=>some ([.dat d],[])
  | _=>none)
def DV (a:Nat->Sl D)(b:Nat->Option (Bk D)):List It->Option (List (List (Lf D))×List (Nat×Bool))
 | []=>some ([],[])
 | i::e=>
  (match Ah a b i,DV a b e with
  | some (c,m),some (cs,d)=>some (c::cs,m++d)
  | _,_=>none)
def Po (f:Option TypeId)(x:Lf D)(n:Nat):Lf D×List (Nat×Bk D)×Nat:=
 match f with
 | none=>(x,[],n)
 | some e=>(match x with
  | .dat d=>(.own n,[(n, .row e d)],n+1)
  | _=>(.any,[],n))
def kF:List (Option TypeId)->List (Lf D)->Nat->List (Lf D)×List (Nat×Bk D)×Nat
 | f::b,x::a,n=>
  let p:=Po f x n
  let q:=kF b a p.2.2
  (p.1::q.1,p.2.1++q.2.1,q.2.2)
 | _,_,n=>([],[],n)
def aBV:List (Lf D)->Sl D
 | [x]=> .one (.lf x)
 | _=> .one (.lf .any)
def acd:List (Lf D)->Option D
 | [.dat d]=>some d
 | _=>none
def dK:List It->List (List (Lf D))->Nat->List (Nat×Sl D)×List (Nat×Bk D)×Nat
 | .slot t b own::a,c::cs,n=>
  let p:=kF own c n
  let q:=dK a cs p.2.2
  ((t,if b then .one (.agg p.1)else aBV p.1)::q.1,p.2.1++q.2.1,q.2.2)
 | .cells l own::a,c::cs,n=>
  let p:=kF own c n
  let q:=dK a cs p.2.2
  (q.1,(l, .cells p.1)::p.2.1++q.2.1,q.2.2)
 | .row l e::a,c::cs,n=>
  let q:=dK a cs n
  (q.1,(match acd c with
   | some d=>(l, .row e d)::q.2.1
   | none=>q.2.1),q.2.2)
 | .iter l::a,c::cs,n=>
  let q:=dK a cs n
  (q.1,(match c with
   | [.str s, .int _ p]=>(l, .iter s p.toNat)::q.2.1
   | _=>q.2.1),q.2.2)
 | .tcs l t own::a,c::cs,n=>
  let p:=kF own c n
  let q:=dK a cs p.2.2
  (q.1,(l, .tc t p.1)::p.2.1++q.2.1,q.2.2)
 | .ada l::a,c::cs,n=>
  let q:=dK a cs n
  (q.1,(match acd c with
   | some d=>(l, .map d)::q.2.1
   | none=>q.2.1),q.2.2)
 | _,_,n=>([],[],n)
def XF (S:Sh D):List (Lf D)->List (Lf D)->Prop
 | [],[]=>True
 | x::a,y::b=>x.Le S y/\y.jr=true/\XF S a b
 | _,_=>False
def aij (S:Sh D):List (List (Lf D))->List (List (Lf D))->Prop
 | [],[]=>True
 | x::a,y::b=>XF S x y/\aij S a b
 | _,_=>False
end
section
variable {D:Type}{S:Sh D}{N:Nat->Prop}{w:World}{w0:Bs}{g:Nat->Option Value}{slot:Nat->Sl D}{blk:Nat->Option (Bk D)}{al:Nat->Prop}{val:Nat->Value}
abbrev Asg:=List (Nat×Value×Option Nat)
structure Mc (N:Nat->Prop)(blk:Nat->Option (Bk D))(g:Nat->Option Value)(wX:Asg)(mv:List (Nat×Bool))(g':Nat->Option Value)(M':Nat->Prop):Prop where
 c2:∀i v o,(i,v,o)∈wX->g' i=some v
 c3:∀b,M' b->aS N blk g b
 c4:∀c,(c,true)∈mv->∀v b,g c=some v->dE v=some b->¬M' b
theorem Mc.less {d a:Asg}{f b:List (Nat×Bool)}{j:Nat->Option Value}{e:Nat->Prop}(h:Mc N blk g d f j e)(k:∀x∈a,x∈d)(n:∀x∈b,x∈f):Mc N blk g a b j e:=
 ⟨fun i v o l=>h.c2 i v o (k _ l),h.c3,fun c m=>h.c4 c (n _ m)⟩
def Qj (S:Sh D)(a:Nat->Option (Bk D))(g:Nat->Option Value)(b:List (Nat×Bool))(e:TypeId)(d:D)(v:Value):Option Nat->Prop
 | some c=>a c=some (.row e d)/\g c=some v/\(c,false)∈b
 | none=>v= .slice none 0 0/\S.len d=0/\S.mp d=none
theorem Qj.more {b a:List (Nat×Bool)}{e:TypeId}{d:D}{v:Value}{o:Option Nat}(h:Qj S blk g b e d v o)(f:∀x∈b,x∈a):Qj S blk g a e d v o:=by
 cases o with
 | none=>exact h
 | some c=>exact⟨h.1,h.2.1,f _ h.2.2⟩
structure qg (S:Sh D)(blk:Nat->Option (Bk D))(g:Nat->Option Value)(mv:List (Nat×Bool))(wX:Asg)(rows:List (Nat×Bk D))(n n':Nat):Prop where
 le:n<=n'
 rng:∀i v o,(i,v,o)∈wX->n<=i/\i < n'
 uni:∀i v o v' o',(i,v,o)∈wX->(i,v',o')∈wX->v=v'
 ok:∀i v o,(i,v,o)∈wX->∃e d,Qj S blk g mv e d v o
 inj:(mv.map (·.1)).Nodup->∀i v i' v' c,(i,v,some c)∈wX->(i',v',some c)∈wX->i=i'
 rows:∀i bk,(i,bk)∈rows->∃v o e d,(i,v,o)∈wX/\bk= .row e d/\Qj S blk g mv e d v o
theorem qg.nil (n:Nat):qg S blk g [] [] [] n n:=⟨pJ _,fun _ _ _ h=>by simp at h,fun _ _ _ _ _ h=>by simp at h,fun _ _ _ h=>by simp at h,fun _ _ _ _ _ _ h=>by simp at h,fun _ _ h=>by simp at h⟩
theorem qg.app {p j:List (Nat×Bool)}{C u:Asg}{r m:List (Nat×Bk D)}{n B y:Nat}(h:qg S blk g p C r n B)(k:qg S blk g j u m B y):qg S blk g (p++j) (C++u) (r++m) n y:=by
 have l1:∀x∈p,x∈p++j:=fun x A=>Qcv _ A
 have I:∀x∈j,x∈p++j:=fun x A=>Qb9 _ A
 refine⟨Du h.le k.le,fun i v o f=> ?_,fun i v o l o' a b=> ?_,fun i v o f=> ?_,fun s i v t l c a b=> ?_,fun i J f=> ?_⟩
 ·rcases vO.1 f with f | f
  ·have:=h.rng i v o f;have:=k.le;omega
  ·have:=k.rng i v o f;have:=h.le;omega
 ·rcases vO.1 a with a | a<;>rcases vO.1 b with b | b
  ·exact h.uni i v o l o' a b
  ·have:=h.rng i v o a;have:=k.rng i l o' b;omega
  ·have:=k.rng i v o a;have:=h.rng i l o' b;omega
  ·exact k.uni i v o l o' a b
 ·rcases vO.1 f with f | f
  ·obtain⟨e,d,q⟩:=h.ok i v o f;exact⟨e,d,q.more l1⟩
  ·obtain⟨e,d,q⟩:=k.ok i v o f;exact⟨e,d,q.more I⟩
 ·rw[Qct,List.nodup_append]at s;have w:∀c,(c,false)∈p->(c,false)∈j->False:=fun c H F=>s.2.2 c (QH.2 ⟨_,H,rfl⟩) c (QH.2 ⟨_,F,rfl⟩) rfl
  rcases vO.1 a with a | a<;>rcases vO.1 b with b | b
  ·exact h.inj s.1 i v t l c a b
  ·obtain⟨e,d,q⟩:=h.ok i v _ a;obtain⟨G,E,z⟩:=k.ok t l _ b;exact(w c q.2.2 z.2.2).elim
  ·obtain⟨e,d,q⟩:=k.ok i v _ a;obtain⟨G,E,z⟩:=h.ok t l _ b;exact(w c z.2.2 q.2.2).elim
  ·exact k.inj s.2.1 i v t l c a b
 grind [qg.rows,Qj.more]
theorem WW {M a:Nat->Prop}{e:Nat->Option Value}{x:Lf D}{v:Value}(c:x.jr=true)(h:x.Rel S M w g v)(d:∀b,a b->M b):x.Rel S a w e v:=by
 cases x<;>first | (simp[Lf.jr]at c;done) | exact h | exact bW.mono h d
theorem adf {v:Value}(h:Bq v=true):v= .slice none 0 0:=by
 unfold Bq at h
 grind
theorem BI {d:D}{y:Lf D}(h:(Lf.dat d).Le S y):y= .dat d:=by
 rcases h with h | ⟨h,_⟩ | ⟨b,h,_⟩ | ⟨_,_,_,_,h,_⟩ | ⟨_,h,_⟩
 ·exact h.symm
 ·cases h
 ·cases h
 ·cases h
 ·cases h
theorem aFq {y:Lf D}(h:(Lf.val (.slice none 0 0)).Le S y)(a:y.jr=true):∃d,y= .dat d/\S.len d=0/\S.mp d=none:=by
 rcases h with h | ⟨_,h⟩ | ⟨b,h,_⟩ | ⟨_,_,_,_,h,_⟩ | ⟨_,h,_⟩
 ·subst h;simp[Lf.jr]at a
 ·exact h
 ·cases h
 ·cases h
 ·cases h
theorem aGN (W:ShOk S)(J:Hp S w0 N blk g al w){f:Option TypeId}{x c H:Lf D}{u:Value}{V:List (Nat×Bool)}{n:Nat}(l:x.Rel S (aS N blk g) w g u)(a:aeZ blk f x=some (c,V))(C:c.Le S H)(P:H.jr=true):
  ∃Z,qg S blk g V Z (Po f H n).2.1 n (Po f H n).2.2/\∀A s,Mc N blk g Z V A s->(Po f H n).1.Rel S s w A u:=by
 unfold aeZ at a;cases f with
 | none=>
  dsimp only at a;simp only[Po];cases x with
  | own k=>
   dsimp only at a;have l:g k=some u:=l;split at a
   ·rename_i e d z;injection a with a
    injection a with q r
    subst q r;refine⟨[],⟨pJ _,fun _ _ _ h=>by simp at h,fun _ _ _ _ _ h=>by simp at h,fun _ _ _ h=>by simp at h,fun _ _ _ _ _ _ h=>by simp at h,fun _ _ h=>by simp at h⟩,fun A s p=> ?_⟩;rw[BI C];exact JA J z l p.c3 fun b B=>p.c4 k jQ u b l B
   ·rename_i d z;injection a with a
    injection a with q r
    subst q r;refine⟨[],qg.nil _,fun A s p=> ?_⟩;rw[BI C];obtain⟨K,t,I⟩:=J.bY k _ z;rw[l]at t;injection t with t
    subst t;exact bW.mono I p.c3
   ·rename_i d z;injection a with a
    injection a with q r
    subst q r;refine⟨[],⟨pJ _,fun _ _ _ h=>by simp at h,fun _ _ _ _ _ h=>by simp at h,fun _ _ _ h=>by simp at h,fun _ _ _ _ _ _ h=>by simp at h,fun _ _ h=>by simp at h⟩,fun A s p=> ?_⟩;rw[BI C];exact akU (fun d m h=>⟨(W.x8 d m h).1,(W.x8 d m h).2.1⟩) J z l fun b B=>p.c4 k jQ u b l B
   ·cases a
  | part k i j Y f=>
   dsimp only at a;obtain⟨X,nn,M,Q,rfl,q,r,rfl⟩:=l;have L:∀(s:Nat->Prop) d F,bW S s w d (.slice X nn M)->aab S Y i j d=some F->bW S s w F (sliced X i j M Y):=by
    intro s d F P E;unfold aab at E;split at E
    ·rename_i G;have G:=Qa G
     grind [bW.slice',ShOk.EN,Gl]
    ·cases E
   split at a
   ·rename_i e d z;split at a
    ·rename_i F E;injection a with a
     injection a with T R
     subst T R;refine⟨[],⟨pJ _,fun _ _ _ h=>by simp at h,fun _ _ _ _ _ h=>by simp at h,fun _ _ _ h=>by simp at h,fun _ _ _ _ _ _ h=>by simp at h,fun _ _ h=>by simp at h⟩,fun A s p=> ?_⟩;rw[BI C];exact L s d F (JA J z Q p.c3 fun b B=>p.c4 k jQ _ b Q B) E
    ·cases a
   ·rename_i d z;split at a
    ·rename_i F E;injection a with a
     injection a with T R
     subst T R;refine⟨[],qg.nil _,fun A s p=> ?_⟩;rw[BI C];obtain⟨K,t,I⟩:=J.bY k _ z;rw[Q]at t;injection t with t
     subst t;exact L s d F (bW.mono I p.c3) E
    ·cases a
   ·cases a
  | _=>
   injection a with a
   injection a with q r
   subst q r;exact⟨[],qg.nil _,fun A s p=>WW P (Lf.Le.rel C l) p.c3⟩
 | some e=>
  dsimp only at a;cases x with
  | own k=>
   dsimp only at a;have l:g k=some u:=l;split at a
   ·rename_i e' d z;split at a
    ·rename_i O;have O:=Qa O;subst O;injection a with a
     injection a with q r
     subst q r;have:=BI C;subst this;simp only[Po];refine⟨[(n,u,some k)],⟨by omega,fun i v o y=> ?_,fun i v o K o' q r=> ?_,fun i v o y=> ?_,fun _ i v i' K c q r=> ?_,fun i bk y=> ?_⟩,fun A s p=>p.c2 n u (some k) jQ⟩
     ·grind
     ·grind
     ·simp only[QZ,Qbk]at y;obtain⟨rfl,rfl,rfl⟩:=y;exact⟨e,d,z,l,by simp⟩
     ·grind
     ·simp only[QZ,Qbk]at y;obtain⟨rfl,rfl⟩:=y;exact⟨u,some k,e,d,by simp,rfl,z,l,by simp⟩
    ·cases a
   ·cases a
  | val v=>
   dsimp only at a;split at a
   ·rename_i U;have U:=adf U;subst U;injection a with a
    injection a with q r
    subst q r;obtain⟨d,rfl,G⟩:=aFq C P;have l:u=_:=l;simp only[Po];refine⟨[(n,u,none)],⟨by omega,fun i v o y=> ?_,fun i v o K o' q r=> ?_,fun i v o y=> ?_,fun _ i v i' K c q r=> ?_,fun i bk y=> ?_⟩,fun A s p=>p.c2 n u none jQ⟩
    ·grind
    ·grind
    ·simp only[QZ,Qbk]at y;obtain⟨rfl,rfl,rfl⟩:=y;exact⟨e,d,l,G⟩
    ·grind
    ·simp only[QZ,Qbk]at y;obtain⟨rfl,rfl⟩:=y;exact⟨u,none,e,d,by simp,rfl,l,G⟩
   ·cases a
  | _=>cases a
theorem abE (t:ShOk S)(v:Hp S w0 N blk g al w):∀(i:List (Option TypeId)) (p cs a:List (Lf D)) (d:List Value) (o:List (Nat×Bool)) (n:Nat),aW S (aS N blk g) w g p d->rW blk i p=some (cs,o)->XF S cs a->
  ∃y,qg S blk g o y (kF i a n).2.1 n (kF i a n).2.2/\∀l k,Mc N blk g y o l k->aW S k w l (kF i a n).1 d
 | [],[],cs,a,d,o,n,j,b,h=>by
  injection b with b
  injection b with q r
  subst q r;cases a with
  | cons _ _=>exact h.elim
  | nil=>
   cases d with
   | cons _ _=>exact j.elim
   | nil=>exact⟨[],qg.nil _,fun _ _ _=>trivial⟩
 | [],_::_,_,_,_,_,_,_,b,_=>by simp[rW]at b
 | _::_,[],_,_,_,_,_,_,b,_=>by simp[rW]at b
 | f::i,x::p,cs,a,d,o,n,j,b,h=>by
  unfold rW at b;split at b
  ·rename_i c m s F q r;injection b with b
   injection b with C H
   subst C H;cases a with
   | nil=>exact h.elim
   | cons A a=>
    cases d with
    | nil=>exact j.elim
    | cons u d=>
     obtain⟨a1,I,E⟩:=aGN t v (n:=n) j.1 q h.1 h.2.1;obtain⟨a2,G,B⟩:=abE t v i p s a d F (Po f A n).2.2 j.2 r h.2.2;refine⟨a1++a2,I.app G,fun l k z=>⟨E l k (z.less (fun x e=>Qcv _ e) (fun x e=>Qcv _ e)),B l k (z.less (fun x e=>Qb9 _ e) (fun x e=>Qb9 _ e))⟩⟩
  ·cases b
def O3 (S:Sh D)(N:Nat->Prop)(h:Bs)(w:World)(a:Nat->Option (Bk D))(g:Nat->Option Value)(ids:List Nat)(c:Asg)(f:List (Nat×Bool))(i:List (Nat×Bk D)):Prop:=
 ∀l b,(l,b)∈i->(∃v o e d,(l,v,o)∈c/\b= .row e d/\Qj S a g f e d v o)\/
  (l∈ids/\hot (a l)=true/\∃v,g l=some v/\∀g' M',Mc N a g c f g' M'->vk S M' w g' h b v)
theorem ara (hS:ShOk S)(hp:Hp S w0 N blk g al w)(hs:∀t,(slot t).Rel S (aS N blk g) w g (val t)):∀(V:List It) (cs G:List (List (Lf D))) (O:List (Nat×Bool)) (n:Nat),DV slot blk V=some (cs,O)->aij S cs G->
  ∃Y,qg S blk g O Y [] n (dK V G n).2.2/\(∀t y,(t,y)∈(dK V G n).1->∀r q,Mc N blk g Y O r q->y.Rel S q w r (val t))/\
   O3 S N w0 w blk g (V.flatMap It.ids) Y O (dK V G n).2.1
 | [],cs,G,O,n,ha,H=>by
  injection ha with ha
  injection ha with f h2
  subst f h2;exact⟨[],by simpa[dK]using qg.nil n,fun t y h=>by simp[dK]at h,fun l Q h=>by simp[dK]at h⟩
 | i::V,cs,G,O,n,ha,H=>by
  unfold DV at ha;split at ha
  ·rename_i c m cs0 ms f h2;injection ha with ha
   injection ha with e1 e2
   subst e1 e2;cases G with
   | nil=>exact H.elim
   | cons F G=>
    have P:=fun n=>ara hS hp hs V cs0 G ms n h2 H.2
    have inl:∀{α:Type} {a b:List α},∀x∈a,x∈a++b:=fun x hx=>Qcv _ hx
    have J:∀{α:Type} {a b:List α},∀x∈b,x∈a++b:=fun x hx=>Qb9 _ hx
    have akt:∀{O:List (Nat×Bool)} {Y:Asg} {X:List (Nat×Bk D)} {n n':Nat},qg S blk g O Y X n n'->qg S blk g O Y [] n n':=fun k=>⟨k.le,k.rng,k.uni,k.ok,k.inj,fun _ _ h=>by simp at h⟩
    have lift:∀{ids:List Nat} {a1 a2:Asg} {bs:List (Nat×Bk D)},O3 S N w0 w blk g ids a2 ms bs->∀aF8,(∀x∈ids,x∈aF8)->O3 S N w0 w blk g aF8 (a1++a2) (m++ms) bs:=by
     intro ids a1 a2 bs h aF8 hi l Q H;rcases h l Q H with⟨v,o,e,d,L,K,q3⟩ | ⟨L,K,v,q3,q4⟩
     ·exact .inl ⟨v,o,e,d,J _ L,K,q3.more J⟩
     ·exact .inr ⟨hi _ L,K,v,q3,fun r q C=>q4 r q (C.less J J)⟩
    have akw:∀{ids:List Nat} {a1 a2:Asg} {X:List (Nat×Bk D)} {n n':Nat},qg S blk g m a1 X n n'->O3 S N w0 w blk g ids (a1++a2) (m++ms) X:=by
     intro ids a1 a2 X n n' k l Q H
     grind [qg.rows,Qj.more]
    have both:∀{ids:List Nat} {a:Asg} {O:List (Nat×Bool)} {b1 b2:List (Nat×Bk D)},O3 S N w0 w blk g ids a O b1->O3 S N w0 w blk g ids a O b2->O3 S N w0 w blk g ids a O (b1++b2):=by
     intro ids a O b1 b2 f h2 l Q H;rcases vO.1 H with H | H
     ·exact f l Q H
     ·exact h2 l Q H
    cases i with
    | slot t agg own=>
     simp only[Ah]at f;have key:∀R us,aW S (aS N blk g) w g R us->rW blk own R=some (c,m)->(∀r q,aW S q w r (kF own F n).1 us->(if agg=true then Sl.one (.agg (kF own F n).1)else aBV (kF own F n).1).Rel S q w r (val t))->
       ∃Y,qg S blk g (m++ms) Y [] n (dK (.slot t agg own::V) (F::G) n).2.2/\(∀I y,(I,y)∈(dK (.slot t agg own::V) (F::G) n).1->∀r q,Mc N blk g Y (m++ms) r q->y.Rel S q w r (val I))/\
        O3 S N w0 w blk g ((It.slot t agg own::V).flatMap It.ids) Y (m++ms) (dK (.slot t agg own::V) (F::G) n).2.1:=by
      intro R us hxu hab hfin;obtain⟨a1,Z,r1⟩:=abE hS hp own R c F us m n hxu hab H.1;obtain⟨a2,W,T,b2⟩:=P (kF own F n).2.2;simp only[dK];refine⟨a1++a2,by simpa using(akt Z).app W,fun I y B r q C=> ?_,both (akw Z) (lift b2 _ fun x hx=>by grind)⟩;rcases yw.1 B with B | B
      ·injection B with L K
       subst L K;exact hfin r q (r1 r q (C.less inl inl))
      ·exact T I y B r q (C.less J J)
     have ht:=hs t;split at f
     ·rename_i x hx;rw[hx]at ht;split at f
      ·cases f
      ·rename_i hagg;refine key [x] [val t] ⟨ht,trivial⟩ f fun r q h=> ?_;rw[uU hagg];generalize (kF own F n).1=ys at h;cases ys with
       | nil=>exact h.elim
       | cons y ys=>
        cases ys with
        | cons _ _=>exact h.2.elim
        | nil=>exact h.1
     ·rename_i R hx;rw[hx]at ht;split at f
      ·rename_i hagg;obtain⟨vs,U,hr⟩:=ht;refine key R vs hr f fun r q h=> ?_;rw[vJ hagg,U];exact⟨vs,rfl,h⟩
      ·cases f
     ·cases f
    | cells l own=>
     simp only[Ah]at f;split at f
     ·rename_i R M;obtain⟨v,U,b,vs,ty,rfl,hm,hh,hr⟩:=hp.bY l _ M;obtain⟨a1,Z,r1⟩:=abE hS hp own R c F vs m n hr f H.1;obtain⟨a2,W,T,b2⟩:=P (kF own F n).2.2;simp only[dK];refine⟨a1++a2,by simpa using(akt Z).app W,fun I y B r q C=>T I y B r q (C.less J J),?_⟩;refine both (b1:=(l, .cells (kF own F n).1)::(kF own F n).2.1) ?_ (lift b2 _ fun x hx=>by grind);intro l' Q A;rcases yw.1 A with A | A
      ·injection A with L K
       subst L K;exact .inr ⟨by simp[It.ids],by rw[M];rfl,_,U,fun r q C=>⟨b,vs,ty,rfl,hm,hh,r1 r q (C.less inl inl)⟩⟩
      ·exact akw (ids:=_) (a2:=a2) Z l' Q A
     ·cases f
    | tcs l t own=>
     simp only[Ah]at f;split at f
     ·rename_i I R M;split at f
      ·rename_i ht;have ht:=Qa ht;subst ht;obtain⟨v,U,b,vs,rfl,hm,hh,hr⟩:=hp.bY l _ M;obtain⟨a1,Z,r1⟩:=abE hS hp own R c F vs m n hr f H.1;obtain⟨a2,W,T,b2⟩:=P (kF own F n).2.2;simp only[dK];refine⟨a1++a2,by simpa using(akt Z).app W,fun I y B r q C=>T I y B r q (C.less J J),?_⟩;refine both (b1:=(l, .tc I (kF own F n).1)::(kF own F n).2.1) ?_ (lift b2 _ fun x hx=>by grind);intro l' Q A;rcases yw.1 A with A | A
       ·injection A with L K
        subst L K;exact .inr ⟨by simp[It.ids],by rw[M];rfl,_,U,fun r q C=>⟨b,vs,rfl,hm,hh,r1 r q (C.less inl inl)⟩⟩
       ·exact akw (ids:=_) (a2:=a2) Z l' Q A
      ·cases f
     ·cases f
    | row l e=>
     simp only[Ah]at f;split at f
     ·rename_i e' d M;split at f
      ·rename_i he;have he:=Qa he;subst he;injection f with f
       injection f with L K
       subst L K;obtain⟨E,hl2⟩:=H;cases F with
       | nil=>exact E.elim
       | cons y ys=>
        cases ys with
        | cons _ _=>exact E.2.2.elim
        | nil=>
         have:=BI E.1;subst this;obtain⟨a2,W,T,b2⟩:=P n;obtain⟨v,U,hok⟩:=hp.bY l _ M;simp only[dK,acd];refine⟨a2,by simpa using W,fun I y B r q C=>T I y B r q (by simpa using C),?_⟩;refine both (b1:=[(l, .row e d)]) (fun l' Q A=> ?_) qbd;simp only[QZ,Qbk]at A;obtain⟨rfl,rfl⟩:=A;refine .inr ⟨by simp[It.ids],by rw[M];rfl,v,U,fun r q C=> ?_⟩;obtain⟨MC,R,hown,hcell⟩:=hok;refine⟨MC,R,hown,fun i j hi hj=> ?_⟩;obtain⟨u,Z,k3,k4⟩:=hcell i j hi hj;exact⟨u,Z,k3,WW k3 k4 C.c3⟩
      ·cases f
     ·cases f
    | iter l=>
     simp only[Ah]at f;split at f
     ·rename_i s p M;injection f with f
      injection f with L K
      subst L K;obtain⟨E,hl2⟩:=H;cases F with
      | nil=>exact E.elim
      | cons y ys=>
       cases ys with
       | nil=>exact E.2.2.elim
       | cons z zs=>
        cases zs with
        | cons _ _=>exact E.2.2.2.2.elim
        | nil=>
         have e1:y= .str s:=by
          rcases E.1 with h | ⟨h,_⟩ | ⟨b,h,_⟩ | ⟨_,_,_,_,h,_⟩ | ⟨_,h,_⟩
          ·exact h.symm
          ·cases h
          ·cases h
          ·cases h
          ·cases h
         have e2:z= .int .i64 p:=by
          rcases E.2.2.1 with h | ⟨h,_⟩ | ⟨b,h,_⟩ | ⟨_,_,_,_,h,_⟩ | ⟨_,h,_⟩
          ·exact h.symm
          ·cases h
          ·cases h
          ·cases h
          ·cases h
         subst e1 e2;obtain⟨a2,W,T,b2⟩:=P n;obtain⟨v,U,hok⟩:=hp.bY l _ M;simp only[dK,qA];refine⟨a2,by simpa using W,fun I y B r q C=>T I y B r q (by simpa using C),?_⟩;refine both (b1:=[(l, .iter s p)]) (fun l' Q A=> ?_) qbd;simp only[QZ,Qbk]at A;obtain⟨rfl,rfl⟩:=A;exact .inr ⟨by simp[It.ids],by rw[M];rfl,v,U,fun r q C=>hok⟩
     ·cases f
    | ada l=>
     simp only[Ah]at f;split at f
     ·rename_i d M;injection f with f
      injection f with L K
      subst L K;obtain⟨E,hl2⟩:=H;cases F with
      | nil=>exact E.elim
      | cons y ys=>
       cases ys with
       | cons _ _=>exact E.2.2.elim
       | nil=>
        have:=BI E.1;subst this;obtain⟨a2,W,T,b2⟩:=P n;obtain⟨v,U,hok⟩:=hp.bY l _ M;simp only[dK,acd];refine⟨a2,by simpa using W,fun I y B r q C=>T I y B r q (by simpa using C),?_⟩;refine both (b1:=[(l, .map d)]) (fun l' Q A=> ?_) qbd;simp only[QZ,Qbk]at A;obtain⟨rfl,rfl⟩:=A;exact .inr ⟨by simp[It.ids],by rw[M];rfl,v,U,fun r q C=>hok⟩
     ·cases f
  ·cases ha
theorem at1 {f:Option TypeId}{x c:Lf D}{d:List (Nat×Bool)}(h:aeZ blk f x=some (c,d)):∀p∈d,hot (blk p.1)=true:=by
 unfold aeZ at h;split at h
 ·split at h
  ·split at h
   ·rename_i b;injection h with h;injection h with _ h;subst h
    intro p a;simp only[QZ]at a;subst a;rw[b];rfl
   ·grind
   ·rename_i b;injection h with h;injection h with _ h;subst h
    intro p a;simp only[QZ]at a;subst a;rw[b];rfl
   ·cases h
  ·split at h
   ·rename_i b;split at h
    ·injection h with h;injection h with _ h;subst h
     intro p a;simp only[QZ]at a;subst a;rw[b];rfl
    ·cases h
   ·split at h
    ·injection h with h;injection h with _ h;subst h;simp
    ·cases h
   ·cases h
  grind
 ·split at h
  ·split at h
   ·rename_i b;split at h
    ·injection h with h;injection h with _ h;subst h
     intro p a;simp only[QZ]at a;subst a;rw[b];rfl
    ·cases h
   ·cases h
  ·split at h
   ·injection h with h;injection h with _ h;subst h;simp
   ·cases h
  ·cases h
theorem FK:∀(e:List (Option TypeId)) (d cs:List (Lf D)) (b:List (Nat×Bool)),rW blk e d=some (cs,b)->∀p∈b,hot (blk p.1)=true
 | [],[],cs,b,h=>by injection h with h;grind
 | [],_::_,_,_,h=>by simp[rW]at h
 | _::_,[],_,_,h=>by simp[rW]at h
 | f::e,x::d,cs,b,h=>by
  unfold rW at h;split at h
  ·rename_i c m g j i k;injection h with h;injection h with _ h;subst h
   intro p a;rcases vO.1 a with a | a
   ·exact at1 i p a
   ·exact FK e d g j k p a
  ·cases h
theorem aah:∀(f:List It) (cs:List (List (Lf D))) (b:List (Nat×Bool)),DV slot blk f=some (cs,b)->∀p∈b,hot (blk p.1)=true
 | [],cs,b,h=>by injection h with h;grind
 | i::f,cs,b,h=>by
  unfold DV at h;split at h
  ·rename_i c m g j a k;injection h with h;injection h with _ h;subst h
   intro p d;rcases vO.1 d with d | d
   ·cases i with
    | slot t n own=>
     simp only[Ah]at a
     grind [FK]
    | cells l own=>
     simp only[Ah]at a
     grind [FK]
    | tcs l t own=>
     simp only[Ah]at a
     grind [FK]
    | row l e=>
     simp only[Ah]at a
     grind
    | iter l=>
     simp only[Ah]at a
     grind
    | ada l=>
     simp only[Ah]at a
     grind
   ·exact aah f g j k p d
  ·cases h
theorem Lf.x9 (y:Lf D):y.ren (fun l=>l)=y:=by cases y<;>simp[Lf.ren]
theorem Sv.x9 (y:Sv D):y.ren (fun l=>l)=y:=by
 cases y with
 | lf x=>simp[Sv.ren,Lf.x9]
 | agg a=>
  have:Lf.ren (fun l=>l)=(id:Lf D->Lf D):=funext fun x=>Lf.x9 x
  simp[Sv.ren,this]
theorem Sl.x9 (y:Sl D):y.ren (fun l=>l)=y:=by
 cases y with
 | one x=>simp[Sl.ren,Sv.x9]
 | Dh a=>
  have:Sv.ren (fun l=>l)=(id:Sv D->Sv D):=funext fun x=>Sv.x9 x
  simp[Sl.ren,this]
theorem Bk.x9 (y:Bk D):y.ren (fun l=>l)=y:=by
 cases y with
 | cells a=>
  have:Lf.ren (fun l=>l)=(id:Lf D->Lf D):=funext fun x=>Lf.x9 x
  simp[Bk.ren,this]
 | row e d=>rfl
 | wY d=>rfl
 | iter s p=>rfl
 | map b=>rfl
 | tc t a=>
  have:Lf.ren (fun l=>l)=(id:Lf D->Lf D):=funext fun x=>Lf.x9 x
  simp[Bk.ren,this]
def lookA:Asg->Nat->Option Value
 | [],_=>none
 | (i,v,_)::r,l=>if i=l then some v else lookA r l
theorem Fp:∀{a:Asg} {l:Nat} {v:Value},lookA a l=some v->∃o,(l,v,o)∈a
 | [],_,_,h=>by simp[lookA]at h
 | (i,u,o)::r,l,v,h=>by
  unfold lookA at h;split at h
  ·grind
  ·obtain⟨o',b⟩:=Fp h
   grind
theorem UZ:∀{a:Asg} {l:Nat} {v:Value} {o:Option Nat},(l,v,o)∈a->∃u,lookA a l=some u
 | [],_,_,_,h=>by simp at h
 | (i,u,o')::r,l,v,o,h=>by
  unfold lookA;split
  ·grind
  ·rename_i e;rcases yw.1 h with h | h
   ·grind
   ·exact UZ h
theorem aoj {a:List (Nat×Bool)}(h:(a.map (·.1)).Nodup){c:Nat}{x y:Bool}(b:(c,x)∈a)(e:(c,y)∈a):x=y:=by
 induction a with
 | nil=>simp at b
 | cons p r d=>
  grind
def OX:List (Nat×Sl D)->Nat->Option (Sl D)
 | [],_=>none
 | (k,v)::r,n=>if Nat.beq n k then some v else OX r n
theorem Z5:∀{l:List (Nat×Sl D)} {k:Nat} {v:Sl D},OX l k=some v->(k,v)∈l
 | [],_,_,h=>by simp[OX]at h
 | (a,b)::r,k,v,h=>by
  simp only[OX]at h;split at h
  ·simp_all
  ·exact Qax _ (Z5 h)
def rF (a:List (Nat×Bk D))(c:Nat->Option (Bk D))(l:Nat):Option (Bk D):=
 match jM a l with
 | some b=>some b
 | none=>c l
def UX (a:List (Nat×Sl D))(b:Nat->Sl D)(t:Nat):Sl D:=
 match OX a t with
 | some y=>y
 | none=>b t
theorem adn (hS:ShOk S)(C:Hp S w0 N blk g al w)(hs:∀t,(slot t).Rel S (aS N blk g) w g (val t)){R:List It}{cs V:List (List (Lf D))}{z:List (Nat×Bool)}{nx Y:Nat}{ss:List (Nat×Sl D)}{E:List (Nat×Bk D)}{Df:Nat->Sl D}{Gx:Nat->Option (Bk D)}
  (ha:DV slot blk R=some (cs,z)) (O:aij S cs V) (hcon:dK R V nx=(ss,E,Y)) (hnd:(z.map (·.1)).Nodup) (aIi:∀l∈R.flatMap It.ids,l < nx/\l∉z.map (·.1))
  (hbs:∀t,Df t= .one (.lf .any)\/(slot t=Df t/\∀l∈(Df t).refs,l < nx)) (hbb:∀l G,Gx l=some G->l < nx/\blk l=some G/\(∀r∈G.refs,r < nx)/\l∉z.map (·.1)):
  ∃g',Hp S w0 N (rF E Gx) g' (· < Y) w/\(∀t,(UX ss Df t).Rel S (aS N (rF E Gx) g') w g' (val t))/\(∀l,l < nx->g' l=g l):=by
 obtain⟨L,p,Q,J⟩:=ara hS C hs R cs V z nx ha O;rw[hcon]at p Q J;dsimp only at p Q J;have hmv:=aah R cs z ha;let g':Nat->Option Value:=fun l=>if l < nx then g l else lookA L l
 have B:∀l,l < nx->g' l=g l:=fun l h=>vJ h
 have c2:∀i v o,(i,v,o)∈L->g' i=some v:=fun i v o hi=>by
  have:=(p.rng i v o hi).1
  grind [qg.uni,Fp,UZ]
 have aJN:∀{c:Nat} {x:Bool},(c,x)∈z->c∈z.map (·.1):=fun h=>QH.2 ⟨_,h,rfl⟩
 have src:∀l v b,hot (rF E Gx l)=true->g' l=some v->dE v=some b->∃c,hot (blk c)=true/\g c=some v/\((c=l/\l < nx/\l∉z.map (·.1))\/(nx<=l/\(c,false)∈z/\(l,v,some c)∈L)):=by
  intro l v b X s n;obtain⟨G,A,X⟩:=iM X;unfold rF at A;split at A
  ·rename_i su U;injection A with A
   subst A;rcases J l _ (qU U)with⟨M,o,e,d,m,F,a⟩ | ⟨m,F,M,a,q4⟩
   ·rw[c2 l M o m]at s;injection s with s
    subst s;cases o with
    | none=>rw[a.1]at n;simp[dE]at n
    | some c=>exact⟨c,by rw[a.1];rfl,a.2.1, .inr ⟨(p.rng _ _ _ m).1,a.2.2,m⟩⟩
   grind
  grind
 have W:∀b,aS N (rF E Gx) g' b->aS N blk g b:=by
  rintro b (hn | ⟨l,v,T,P,I⟩)
  ·exact .inl hn
  ·obtain⟨c,m,F,_⟩:=src l v b T P I;exact .inr ⟨c,v,m,F,I⟩
 have c4:∀c,(c,true)∈z->∀v b,g c=some v->dE v=some b->¬aS N (rF E Gx) g' b:=by
  intro c hc v b aa n hM;have Z:hot (blk c)=true:=hmv (c,true) hc;rcases hM with hn | ⟨l,H,T,P,I⟩
  ·exact C.agY Z aa n hn
  ·obtain⟨c',m,F,a⟩:=src l H b T P I;have:=C.sep c c' v H b Z m aa F n I
   grind [aoj]
 have hc:Mc N blk g L z g' (aS N (rF E Gx) g'):=⟨c2,W,c4⟩;refine⟨g',⟨C.below,C.hN,fun l G k=> ?_,?_,?_,?_,C.gl.mono W⟩,fun t=> ?_,B⟩
 ·unfold rF at k;split at k
  ·rename_i su U;injection k with k
   subst k;rcases J l _ (qU U)with⟨M,o,e,d,m,rfl,a⟩ | ⟨m,F,M,a,q4⟩
   ·refine⟨M,c2 l M o m,?_⟩;cases o with
    | none=>rw[a.1];exact⟨⟨fun b n=>by simp[dE]at n,by have:=a.2.1;omega,a.2.2⟩,[],⟨by simp[a.2.1], .inl ⟨rfl,a.2.1⟩⟩,fun i j hi=>by have:=a.2.1;omega⟩
    | some c=>
     obtain⟨H,K,MC,xs,hown,hcell⟩:=C.bY c _ a.1;rw[a.2.1]at K;injection K with K
     subst K;refine⟨MC,xs,hown,fun i j hi hj=> ?_⟩
     grind [WW]
   grind
  ·obtain⟨r1,r2,r3,r4⟩:=hbb l G k;obtain⟨v,hv,ab⟩:=C.bY l G r2;refine⟨v,(B l r1).trans hv,?_⟩;have:=ab.ren (g':=g') (M':=aS N (rF E Gx) g') (f:=fun l=>l) (B':=w0) (fun l O u hu=>(B l (r3 l O)).trans hu) (fun _=>W) (fun X b n=>(ab.lt X n).2);rwa [Bk.x9]at this
 ·intro l l' v H b T P I h4 h5 h6;obtain⟨c,m,F,a⟩:=src l v b T I h5;obtain⟨c',q1',q2',q3'⟩:=src l' H b P h4 h6;have:=C.sep c c' v H b m q1' F q2' h5 h6;subst this;rcases a with⟨e,r1,r2⟩ | ⟨r1,r2,r3⟩<;>rcases q3' with⟨e',s1,s2⟩ | ⟨s1,s2,s3⟩
  ·omega
  ·grind
  ·grind
  ·exact p.inj hnd l v l' H c r3 s3
 ·intro l v s;have:=p.le;by_cases h:l < nx
  ·omega
  ·have s:lookA L l=some v:=by
    grind
   obtain⟨o,ho⟩:=Fp s;exact(p.rng l v o ho).2
 ·intro l v s;by_cases h:l < nx
  ·rw[B l h]at s;exact C.refs l v s
  ·have s:lookA L l=some v:=by
    grind
   obtain⟨o,ho⟩:=Fp s;obtain⟨e,d,q⟩:=p.ok l v o ho;cases o with
   | none=>rw[q.1];rfl
   | some c=>exact C.refs c v q.2.1
 ·unfold UX;split
  ·rename_i y hy;exact Q t y (Z5 hy) g' _ hc
  ·rcases hbs t with n | ⟨n,hr⟩
   ·rw[n];trivial
   ·have:=(hs t).ren (g':=g') (M':=aS N (rF E Gx) g') (f:=fun l=>l) (fun l O u hu=>(B l (hr l (n▸O))).trans hu) (fun _=>W);rw[Sl.x9]at this
    grind
end
end Go.Vc
