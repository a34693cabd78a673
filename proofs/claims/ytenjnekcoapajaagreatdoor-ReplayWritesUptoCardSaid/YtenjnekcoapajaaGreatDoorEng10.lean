/- Own engine: Vdn. -/
import Derived.Test.YtenjnekcoapajaaGreatDoorEng9
set_option linter.unusedVariables false
set_option linter.unusedSimpArgs false
namespace Go.Vc
open Go.RowKit
section
variable {D:Type}
def aj3 (T:TypeId->Option Ty)(S:Sh D)(b:Nat->Option (Bk D))(c:TypeId)(x:Sl D):Option (Sv D):=
 match WO T c with
 | none=>none
 | some (e,n,a)=>(match x with
  | .one (.lf (.opt l i j z))=>if Nat.beq i 0 && (Nat.beq j 0 && Nat.beq z a)then(match b l with
   | some (.row _ d)=>if Nat.beq a (S.size d) && Nat.beq (S.len d) n then some (.agg (Jk S d a 0 n))else none
   | _=>none)else none
  | _=>none)
def ai2 (T:TypeId->Option Ty)(S:Sh D)(a:Nat->Sl D)(b:Nat->Option (Bk D)):ResultVar->Option (Sv D)
 | .tmp t=>(match a t with
  | .one u=>some u
  | _=>none)
 | .cell t c=>(match PL T S b c (a t)with
  | some ⟨none, .one u,_⟩=>some u
  | _=>aj3 T S b c (a t))
def FZ (T:TypeId->Option Ty)(S:Sh D)(a:Nat->Sl D)(b:Nat->Option (Bk D)):List ResultVar->Option (List (Sv D))
 | []=>some []
 | r::d=>(match ai2 T S a b r,FZ T S a b d with
  | some u,some c=>some (u::c)
  | _,_=>none)
def adW:Nat->List (Sl D)->List (Nat×Sl D)
 | _,[]=>[]
 | i,x::a=>(i,x)::adW (i+1) a
def xg:Nat->List (Bk D)->List (Nat×Option (Bk D))
 | _,[]=>[]
 | i,x::a=>(i,some x)::xg (i+1) a
def St.init (args:List (Sl D))(a:List (Bk D)):St D:=⟨adW 0 args,xg 0 a,a.length+64⟩
def nos:Nat->Sl D:=fun _=> .one (.lf .any)
def arx (a:List (Sv D))(i:Nat):Sl D:=
 match a[i]? with
 | some u=> .one u
 | none=> .one (.lf .any)
def abB (d:List It)(a:Nat)(b:List Nat)(e:List (Sv D))(s:St D):Option (List (List (Lf D))):=
 match DV (arx e) s.blk d with
 | none=>none
 | some (cs,c)=>if V7 (c.map (·.1)) && (c.all fun p=> !rP p.1 (d.flatMap It.ids)) && ((d.flatMap It.ids).all fun l=>Nat.blt l a) &&
   (b.all fun i=>Nat.blt i a && !rP i ((s.blks.take (s.blks.length - a)).map (·.1)) && !rP i (c.map (·.1)))then some cs else none
def aei (S:Sh D)(a:List (Sv D))(s:St D):List (Sv D)×St D:=
 match a with
 | [.lf (.part q i j b _)]=>(match s.blk q with
  | some (.row e d)=>if Nat.beq i 0 && Nat.beq b (S.size d)then(match S.sub d 0 j with
   | some c=>([.lf (.own s.next)],⟨s.tmps,(s.next,some (.row e c))::(q,none)::s.blks,s.next+1⟩)
   | none=>(a,s))else(a,s)
  | _=>(a,s))
 | _=>(a,s)
def amO (S:Sh D)(d:List It)(c:Nat)(a:List Nat)(b:List (Sv D))(s:St D):Option (List (List (Lf D))):=
 match abB d c a b s with
 | some cs=>some cs
 | none=>abB d c a (aei S b s).1 (aei S b s).2
def av2 (T:TypeId->Option Ty)(S:Sh D)(e:List ResultVar)(b:Shp D)(d:Nat)(a:List Nat)(s:St D):Tr D b.X:=
 match FZ T S s.slot s.blk e with
 | none=> .halt 603 s
 | some c=>(match amO S (b.its nos) d a c s with
  | none=> .halt 602 s
  | some cs=>(match b.dec cs with
   | none=> .halt 601 s
   | some x=> .ret x))
def aGL (T:TypeId->Option Ty)(S:Sh D)(d:List ResultVar)(b:Shp D)(c:Nat)(a:List Nat):Ex->St D->Tr D b.X
 | .normal,s=>av2 T S d b c a s
 | .ret,s=>av2 T S d b c a s
 | .exit _,s=> .halt 604 s
def ar5 (a:List (Nat×Sl D))(i:Nat):Sv D:=
 match OX a i with
 | some (.one u)=>u
 | _=> .lf .any
def QM (a:List (Nat×Sl D)):Nat->Nat->List (Sv D)
 | _,0=>[]
 | i,k+1=>ar5 a i::QM a (i+1) k
def Td (a:List (Nat×Sl D))(k:Nat):Sl D:=
 match k with
 | 1=> .one (ar5 a 0)
 | k=> .Dh (QM a 0 k)
structure qF (D:Type):Type 1 where
 A:Type
 enc:A->List (Sl D)×List (Bk D)
 dec:List (Sl D)->List (Bk D)->Option A
def Lf.aqI:Lf D->Bool
 | .val _ | .xt _=>false
 | _=>true
def ark:Bk D->Bool
 | .cells cs=>cs.all Lf.aqI
 | _=>true
def wu (a:List (Bk D))(l:Nat):Bool:=
 match a[l]? with
 | some b=>ark b
 | none=>true
def amh (b:List (Bk D))(a:List Nat):List Nat:=a.filter fun l=>wu b l
def Ym (b a:List (Bk D)):List Nat->List (Nat×Bk D)
 | []=>[]
 | l::r=>(match wu b l,a[l]? with
  | false,some c=>(l,c)::Ym b a r
  | _,_=>Ym b a r)
def qQ (e:qF D)(d:Shp D)(k:Nat)(c:List Nat)(g:e.A->Option Prop)(f:e.A->d.X):Ct D:=fun args b=>
 match e.dec args b with
 | none=>none
 | some a=>some ((g a).map dq,Td (dK (d.its nos) (d.enc (f a)) b.length).1 k,(dK (d.its nos) (d.enc (f a)) b.length).2.1++Ym b (e.enc a).2 c,amh b c)
def Md (S:Sh D):List (Lf D)->List (Lf D)->Prop
 | [],[]=>True
 | x::a,y::b=>x.Le S y/\Md S a b
 | _,_=>False
def aw_ (S:Sh D):Sv D->Sv D->Prop
 | .lf x, .lf y=>x.Le S y
 | .agg a, .agg b=>Md S a b
 | _,_=>False
def aam (S:Sh D):List (Sl D)->List (Sl D)->Prop
 | [],[]=>True
 | .one x::a, .one y::b=>aw_ S x y/\aam S a b
 | _,_=>False
def X0 (S:Sh D):Bk D->Bk D->Prop
 | .cells c, .cells f=>Md S c f
 | .row e d, .row j g=>e=j/\d=g
 | .wY d, .wY g=>d=g
 | .iter s p, .iter k i=>s=k/\p=i
 | .map a, .map b=>a=b
 | .tc t c, .tc h f=>t=h/\c=f
 | _,_=>False
def He (S:Sh D):List (Bk D)->List (Bk D)->Prop
 | [],[]=>True
 | x::a,y::b=>X0 S x y/\He S a b
 | _,_=>False
structure Qi (S:Sh D)(AS:qF D)(eG n:Nat):Prop where
 ok:∀args bY a,AS.dec args bY=some a->aam S args (AS.enc a).1/\He S bY (AS.enc a).2
 eG:∀a,(AS.enc a).2.length=eG
 args:∀a,(AS.enc a).1.length<=n
end
section
variable {D:Type}{P:Program}{S:Sh D}{T:TypeId->Option Ty}{Γ:FuncId->Option (Ct D)}{N:Nat->Prop}{w w':World}{w0:Bs}{g0:Nat->Option Value}{n:Nat}
theorem eF.length {M:Nat->Prop}{g:Nat->Option Value}:∀{b:List (Sl D)} {a:List Value},eF S M w g b a->b.length=a.length
 | [],[],_=>rfl
 | _::_,_::_,h=>by simp[eF.length h.2]
theorem aeU {M:Nat->Prop}{g:Nat->Option Value}:∀(b:List (Sl D)) (a:List Value) (i:Nat) (f:Nat->Value),eF S M w g b a->(∀j v,a[j]? =some v->f (i+j)=v)->∀t,(look (.one (.lf .any)) (adW i b) t).Rel S M w g (f t)
 | [],_,_,_,_,_,_=>trivial
 | x::b,v::a,i,f,h,d,t=>by
  simp only[adW,look];split
  ·rename_i c;have c:=Qa c;subst c;have:=d 0 v rfl;simp only[XE]at this;rw[this];exact h.1
  ·exact aeU b a (i+1) f h.2 (fun j u hj=>by have:=d (j+1) u qbb;grind) t
theorem Uf:∀(a:List (Bk D)) (i l:Nat),look none (xg i a) l=if i<=l then a[l - i]? else none
 | [],i,l=>by simp[xg,look]
 | b::a,i,l=>by
  simp only[xg,look];by_cases h:l=i
  ·simp_all
  ·have:¬(l.beq i=true):=fun e=>h (Qa e)
   rw[uU this,Uf a (i+1) l]
   grind
theorem NH (a:List (Bk D)):look none (xg 0 a)=jD a:=by
 funext l;rw[Uf];simp[jD]
theorem BK {args:List Value}{b:List (Sl D)}{a:List (Bk D)}(g:Hp S w0 N (jD a) g0 (· < a.length) w)(c:eF S (aS N (jD a) g0) w g0 b args)(h:b.length<=n):
  HoldsSt S w0 g0 N n (St.init b a) {tmps:=args.toArray++Array.replicate (n - args.toArray.size) undef,defers:=[]} w:=by
 have e:=c.length;have d:(St.init b a).blk=jD a:=NH a;refine⟨g0,by rw[d];exact g.weaken fun l e=>by simp only[St.init];omega,fun t=> ?_,by simp;omega,rfl,More.refl _⟩;rw[d];refine aeU b args 0 (fun t=>(args.toArray++Array.replicate (n - args.toArray.size) undef).getD t undef) c (fun j v f=> ?_) t;have i:j < args.length:=(Qbc.1 f).1;have k:args[j]=v:=by grind
 simp only[Bc,Array.getD];have:j < (args.toArray++Array.replicate (n - args.toArray.size) undef).size:=by simp;omega
 simp_all
def Oj (b:Array Value):ResultVar->Sem Value
 | .tmp t=>pure (b.getD t undef)
 | .cell a t=>do loadVar t (<-asAddr (b.getD a undef))
theorem ai6 {s:St D}{g:Nat->Option Value}{c:TypeId}{x:Sl D}{C:Value}{u:Sv D}(y:∀t c,T t=some c->TyOk P t c)(H:Hp S w0 N s.blk g (· < s.next) w)(I:x.Rel S (aS N s.blk g) w g C)
  (h:aj3 T S s.blk c x=some u):∃ad v,C= .pointer (some ad)/\(loadVar c ad).run P w= .ok v w/\u.Rel S (aS N s.blk g) w g v:=by
 unfold aj3 at h;split at h
 ·cases h
 ·rename_i e n sz p;obtain⟨W,te,Q,V,R,Z,F,A,Y,m,IV⟩:=xU y p;have q:=wZ m w;have O:=kJ m w;split at h
  ·rename_i l i j z;obtain⟨b,n',X,J,K⟩:=I;split at h
   ·rename_i E;obtain⟨rfl,rfl,rfl⟩:=aFK E;split at h
    ·rename_i e' d L;split at h
     ·rename_i f;simp only[iZ]at f;have U:=Qa f.2;have f:=Qa f.1;injection h with h
      subst h;obtain⟨o,G,B,E⟩:=yM (S:=S) (M:=aS N s.blk g) (w:=w) (g:=g) (d:=d) (ad:=⟨b,0,none⟩) (sz:=z) n 0 (fun r B=>by
       obtain⟨o,h1,h2,h3⟩:=xJ H L J (i:=0+r) aj z 0 aj
       grind [lg])
      have a:=run_loadCells (P:=P) (w:=w) ⟨b,0,none⟩ o 0 #[] (fun k u hk=>by grind);rw[G,<-F]at a;refine⟨⟨b,0,none⟩, .agg o.toArray,by rw[K];simp,?_,⟨_,rfl,B⟩⟩;simp[loadVar,q,A,O,loadCells,a]
     ·cases h
    ·cases h
   ·cases h
  ·cases h
theorem Ed {s:St D}{a:Act}{g:Nat->Option Value}(d:∀t j,T t=some j->TyOk P t j)(q:Hp S w0 N s.blk g (· < s.next) w)(n:∀t,(s.slot t).Rel S (aS N s.blk g) w g (a.tmps.getD t undef)):
  ∀(o:List ResultVar) (l:List (Sv D)),FZ T S s.slot s.blk o=some l->∃i,(o.mapM (Oj a.tmps)).run P w= .ok i w/\fP S (aS N s.blk g) w g l i
 | [],l,h=>by
  injection h with h
  subst h;exact⟨[],rfl,trivial⟩
 | r::o,l,h=>by
  unfold FZ at h;split at h
  ·rename_i u A c z;injection h with h
   subst h;obtain⟨i,C,p⟩:=Ed d q n o A z;have:∃v,(Oj a.tmps r).run P w= .ok v w/\u.Rel S (aS N s.blk g) w g v:=by
    cases r with
    | tmp t=>
     simp only[ai2]at c;split at c
     ·rename_i x k;injection c with c
      subst c;have:=n t;rw[k]at this;exact⟨_,rfl,this⟩
     ·cases c
    | cell t j=>
     simp only[ai2]at c;split at c
     ·rename_i x b k;injection c with c
      subst c;cases f:T j with
      | none=>simp[PL,f]at k
      | some F=>
       obtain⟨E,v,m,y,e⟩:=an4 (d _ _ f) f q (n t) k trivial;exact⟨v,by simp only[Oj,m,asAddr,Sem.run_bind,Sem.run_pure,Result.andThen_ok];exact y,e⟩
     ·obtain⟨E,v,m,y,e⟩:=ai6 d q (n t) c;exact⟨v,by simp only[Oj,m,asAddr,Sem.run_bind,Sem.run_pure,Result.andThen_ok];exact y,e⟩
   obtain⟨v,m,B⟩:=this;refine⟨v::i,?_,B,p⟩;simp_all
  ·cases h
theorem PR {M:Nat->Prop}{g:Nat->Option Value}{b:List (Nat×Sl D)}{a:List Value}(h:∀i v,a[i]? =some v->(ar5 b i).Rel S M w g v):∀(k i:Nat),i+k=a.length->fP S M w g (QM b i k) (a.drop i)
 | 0,i,e=>by
  rw[List.drop_of_length_le aj];trivial
 | k+1,i,e=>by
  have c:i < a.length:=by omega
  rw[Qbq c];exact⟨h i _ (by simp[c]),PR h k (i+1) aj⟩
theorem Yb {M:Nat->Prop}{g:Nat->Option Value}:∀{a:List (Sv D)} {b:List Value},fP S M w g a b->∀i,(arx a i).Rel S M w g (b.getD i undef)
 | [],[],_,i=>trivial
 | u::a,v::b,h,0=>h.1
 | u::a,v::b,h,i+1=>Yb h.2 i
theorem atj (Q:ShOk S){s:St D}{g:Nat->Option Value}{p:List (Sv D)}{C:List Value}(G:Hp S w0 N s.blk g (· < s.next) w)(A:fP S (aS N s.blk g) w g p C):
  ∃o,Hp S w0 N (aei S p s).2.blk o (· < (aei S p s).2.next) w/\fP S (aS N (aei S p s).2.blk o) w o (aei S p s).1 C/\More g o/\∃z,(aei S p s).2.blks=z++s.blks:=by
 have m:∃o,Hp S w0 N s.blk o (· < s.next) w/\fP S (aS N s.blk o) w o p C/\More g o/\∃z,s.blks=z++s.blks:=⟨g,G,A,More.refl _,[],rfl⟩;unfold aei;split
 ·rename_i q i j sz f;split
  ·rename_i e d hb;split
   ·rename_i h;split
    ·rename_i H U;simp only[iZ]at h;have c1:=Qa h.1;have c2:=Qa h.2;subst c1 c2;match C,A with
     | [v],⟨B,_⟩=>
      obtain⟨a,n,t,X,B,hij,hjn,_⟩:=B;obtain⟨u,E,hm,Y,own,I⟩:=G.bY q _ hb;rw[X]at E;injection E with E
      subst E;have hn:n=S.len d:=by
       rcases own.2 with⟨r,h0⟩ | ⟨b,cp,K,r,_⟩
       ·injection r with _ F _;omega
       ·injection r
      obtain⟨Z,O,s3⟩:=Q.sub _ _ _ _ U (Gw _) aj;rw[Nat.sub_zero]at O s3;have x:(∀c,dE v=some c->dE (.slice a n t)=some c)/\w.ownsRow 0 e (S.size d) v j (Y.take (j*S.size d)):=by
       have hle:j*S.size d<=S.len d*S.size d:=Qce _ aj;have W:(Y.take (j*S.size d)).length=j*S.size d:=by rw[Iq,own.1];omega
       rcases own.2 with⟨r,h0⟩ | ⟨b,cp,K,r,_,hh,h1,h2,h3,h4⟩
       ·injection r with F e2 P
        subst F e2 P;have hj:j=0:=by omega
        subst hj;refine⟨fun c h=>by rw[B]at h;simp[sliced,dE]at h,W, .inl ⟨by rw[B];simp[sliced],rfl⟩⟩
       ·injection r with F e2 P
        subst F P;have M:v= .slice (some ⟨b,0,none⟩) j t:=by
         rw[B];unfold sliced;split<;>simp[Addr.add]
        refine⟨fun c h=>by rw[M]at h;exact h,W, .inr ⟨b,t,K,M,Gw _,hh,by omega,h2,h3,?_⟩⟩
        grind
      have hal:∀u,More g (upd g s.next (some u)):=by
       intro u T y R;have:T≠s.next:=fun e=>absurd (G.al T y R) (by subst e;simp)
       rw[bM _ _ _ _ this];exact R
      obtain⟨g1,g2,g3⟩:=G.move (l:=q) (fr:=s.next) (bk':= .row e H) (v:= .slice a n t) (v':=v) qbo X jQ rfl rfl rfl (pJ _) (fun _ _ _=>rfl) (fun c h=> .inl (x.1 c h))
       (fun M' hk _=>by
        refine⟨⟨fun c h=>hm.1 c (x.1 c h),by omega,(Q.EN _ _ _ _ U).2⟩,_,by rw[Z,O];exact x.2,fun k c V L=> ?_⟩;rw[O]at V;rw[Z]at L⊢;obtain⟨y,hy,hda,hr⟩:=I k c aj L
        grind [Lf.Rel.keep,D5])
      have J:(⟨s.tmps,(s.next,some (.row e H))::(q,none)::s.blks,s.next+1⟩:St D).blk=upd (upd s.blk q none) s.next (some (.row e H)):=by
       funext l;simp only[St.blk,look,upd];simp_all
      refine⟨upd g s.next (some v),?_,?_,g3,[(s.next,some (.row e H)),(q,none)],rfl⟩
      ·show Hp S w0 N (St.blk _) _ _ w
       rw[J];exact g1.weaken fun l hl=>by
        grind
      ·show fP S (aS N (St.blk _) _) w _ _ _
       rw[J];exact⟨upd_same _ _ _,trivial⟩
    ·exact m
   ·exact m
  ·exact m
 ·exact m
theorem aph (hS:ShOk S){s:St D}{a:Act}{E:Func}{d:Shp D}{e:Nat}{j:List Nat}{k:List (Bk D)}{x:d.X}(ab:∀t ty,T t=some ty->TyOk P t ty)(Z:ShpOk S d)(hlt:∀l v,g0 l=some v->l < e)(L:k.length=e)(hrf:∀(l:Nat) (F:Bk D),k[l]? =some F->∀r∈F.refs,r < e)(z:∃o,s.blks=o++xg 0 k)(h:HoldsSt S w0 g0 N n s a w){e0:d.X}(q:(av2 T S E.results.toList d e j s).run e0=some x):
  a.defers=[]/\∃v,(results E a.tmps).run P w= .ok v w/\∃B,More g0 B/\Hp S w0 N (rF (dK (d.its nos) (d.enc x) e).2.1 (fun l=>if l∈j then k[l]? else none)) B (fun _=>True) w/\
   (Td (dK (d.its nos) (d.enc x) e).1 E.results.toList.length).Rel S (aS N (rF (dK (d.its nos) (d.enc x) e).2.1 (fun l=>if l∈j then k[l]? else none)) B) w B v:=by
 obtain⟨g,J,hs,hn,hdf,hm⟩:=h;unfold av2 at q;split at q
 ·cases q
 rename_i C A;split at q
 ·cases q
 rename_i cs c;split at q
 ·cases q
 rename_i H Q;injection q with q
 subst q;obtain⟨f,R,p⟩:=Ed ab J hs _ C A;have ad:C.length=E.results.toList.length:=by
  clear R c Q p;generalize E.results.toList=rs at A;induction rs generalizing C with
  | nil=>injection A with A;subst A;rfl
  | cons r rs ih=>
   grind [FZ]
 have V:f.length=E.results.toList.length:=by rw[<-p.length];exact ad
 refine⟨hdf,if h:f.toArray.size=1 then f.toArray[0]else .tuple f.toArray,?_,?_⟩
 ·unfold results;rw[Sem.run_bind,Qdh,Sem.run_map];change (((Sem.run P (E.results.toList.mapM (Oj a.tmps)) w).andThen fun a w'=>Result.ok a.toArray w').andThen _)=_;simp_all
 have two:∃(O:List (Sv D)) (m:St D) (G:Nat->Option Value),abB (d.its nos) e j O m=some cs/\Hp S w0 N m.blk G (· < m.next) w/\fP S (aS N m.blk G) w G O f/\More g G/\∃o,m.blks=o++s.blks:=by
  unfold amO at c;split at c
  ·rename_i cs' h1;injection c with c
   subst c;exact⟨C,s,g,h1,J,p,More.refl _,[],rfl⟩
  grind [atj]
 obtain⟨C,m,G,c,J,p,aa,Y,aJL⟩:=two;unfold abB at c;split at c
 ·cases c
 rename_i cs0 mv al;split at c
 ·rename_i hc;injection c with c
  subst c;simp only[iZ]at hc;obtain⟨⟨⟨c1,c2⟩,c3⟩,X⟩:=hc;have X:∀i∈j,i < e/\i∉(m.blks.take (m.blks.length - e)).map (·.1)/\i∉mv.map (·.1):=fun i hi=>by
   have:=Qb.1 X i hi;simp only[iZ,Qbf]at this;exact⟨by simp_all,KL this.1.2,KL this.2⟩
  obtain⟨ag,hpre0⟩:=z;obtain⟨o,z⟩:∃o,m.blks=o++xg 0 k:=⟨Y++ag,by grind⟩;have hil:∀(k:List (Bk D)) (i:Nat),(xg i k).length=k.length:=fun k=>by
   induction k with
   | nil=>intro i;rfl
   | cons b r ih=>intro i;simp[xg,ih]
  have K:(m.blks.take (m.blks.length - e)).map (·.1)=o.map (·.1):=by
   rw[z];simp[hil,L]
  obtain⟨B,hp',hs',ac⟩:=adn (slot:=arx C) (val:=fun t=>f.getD t undef) (nx:=e) (Df:=fun _=> .one (.lf .any)) (Gx:=fun l=>if l∈j then k[l]? else none) hS J (Yb p) al (Z.ok _ _ Q) (Prod.eta _).symm (Nl c1)
   (fun l I=>⟨by have:=Qb.1 c3 l I;simp_all,fun hm'=>by
    grind [KL]⟩) (fun _=> .inl rfl) (fun l F M=>by
    split at M
    ·rename_i W;obtain⟨k1,k2,k3⟩:=X l W;refine⟨k1,?_,hrf l F M,k3⟩;rw[K]at k2;show look none m.blks l=some F
     rw[z,qJ,uU k2,NH];exact M
    ·cases M)
  refine⟨B,fun l v I=>(ac l (hlt l v I)).trans (aa l v (hm l v I)),hp'.weaken fun _ _=>trivial,?_⟩;have one:∀i v,f[i]? =some v->(ar5 (dK (d.its nos) (d.enc H) e).1 i).Rel S (aS N (rF (dK (d.its nos) (d.enc H) e).2.1 (fun l=>if l∈j then k[l]? else none)) B) w B v:=by
   intro i v hv;have:=hs' i;simp only[List.getD,hv,Qdg]at this;unfold UX at this;unfold ar5;split at this
   ·rename_i y U;rw[U];cases y with
    | one u=>exact this
    | Dh C=>trivial
   ·rename_i U;rw[U];trivial
  rw[<-V];by_cases h1:f.length=1
  ·rw[dif_pos qbt];cases f with
   | nil=>simp at h1
   | cons v f=>
    cases f with
    | cons _ _=>simp at h1
    | nil=>exact one 0 v rfl
  ·rw[dif_neg qbt];have W:Td (dK (d.its nos) (d.enc H) e).1 f.length= .Dh (QM (dK (d.its nos) (d.enc H) e).1 0 f.length):=by
    unfold Td
    grind
   rw[W];exact⟨f,rfl,by simpa using PR one f.length 0 aj⟩
 ·cases c
theorem Md.rel {M:Nat->Prop}{g:Nat->Option Value}:∀{b c:List (Lf D)} {a:List Value},Md S b c->aW S M w g b a->aW S M w g c a
 | [],[],[],_,_=>trivial
 | _::_,_::_,_::_,h,d=>⟨Lf.Le.rel h.1 d.1,Md.rel h.2 d.2⟩
theorem aw_.rel {M:Nat->Prop}{g:Nat->Option Value}{x y:Sv D}{v:Value}(h:aw_ S x y)(a:x.Rel S M w g v):y.Rel S M w g v:=by
 cases x with
 | lf x=>
  cases y with
  | lf y=>exact Lf.Le.rel h a
  | agg c=>exact h.elim
 | agg d=>
  cases y with
  | lf y=>exact h.elim
  | agg c=>obtain⟨b,e,a⟩:=a;exact⟨b,e,Md.rel h a⟩
theorem aam.rel {M:Nat->Prop}{g:Nat->Option Value}:∀{b c:List (Sl D)} {a:List Value},aam S b c->eF S M w g b a->eF S M w g c a
 | [],[],[],_,_=>trivial
 | .one x::b, .one y::c,v::a,h,d=>⟨aw_.rel h.1 d.1,aam.rel h.2 d.2⟩
theorem X0.hot {x y:Bk D}(h:X0 S x y):hot (some x)=hot (some y):=by cases x<;>cases y<;>first | rfl | exact h.elim
theorem X0.ok {M:Nat->Prop}{g:Nat->Option Value}{B:Bs}{x y:Bk D}{v:Value}(h:X0 S x y)(c:vk S M w g B x v):vk S M w g B y v:=by
 cases x with
 | cells o=>
  cases y with
  | cells l=>obtain⟨b,i,t,j,m,n,k⟩:=c;exact⟨b,i,t,j,m,n,Md.rel h k⟩
  | _=>exact h.elim
 | row e d=>
  cases y with
  | row r f=>obtain⟨rfl,rfl⟩:=h;exact c
  | _=>exact h.elim
 | wY d=>
  cases y with
  | wY f=>have h:d=f:=h;grind
  | _=>exact h.elim
 | iter s p=>
  cases y with
  | iter z u=>obtain⟨rfl,rfl⟩:=h;exact c
  | _=>exact h.elim
 | map a=>
  cases y with
  | map b=>have h:a=b:=h;grind
  | _=>exact h.elim
 | tc t o=>
  cases y with
  | tc q l=>obtain⟨rfl,rfl⟩:=h;exact c
  | _=>exact h.elim
theorem He.at:∀{a b:List (Bk D)},He S a b->a.length=b.length/\∀(i:Nat) (y:Bk D),b[i]? =some y->∃x,a[i]? =some x/\X0 S x y
 | [],[],_=>⟨rfl,fun i y h=>by simp at h⟩
 | x::a,y::b,h=>by
  obtain⟨d,f⟩:=He.at h.2;refine⟨by simp[d],fun i e c=> ?_⟩;cases i with
  | zero=>simp at c;subst c;exact⟨x,rfl,h.1⟩
  | succ i=>grind
theorem He.hp {g:Nat->Option Value}{m:Nat->Prop}{d c:List (Bk D)}(h:He S d c)(a:Hp S w0 N (jD d) g m w):Hp S w0 N (jD c) g m w/\aS N (jD c) g=aS N (jD d) g:=by
 obtain⟨u,f⟩:=h.at;have k:∀l,hot (jD c l)=hot (jD d l):=fun l=>by
  unfold jD
  grind [X0.hot]
 have e:aS N (jD c) g=aS N (jD d) g:=by
  funext b;simp only[aS,k]
 refine⟨⟨a.below,a.hN,fun l n q=> ?_,fun l s v r b t y=>a.sep l s v r b dm dm,a.al,a.refs,by rw[e];exact a.gl⟩,e⟩;obtain⟨x,o,j⟩:=f l n q;obtain⟨v,p,i⟩:=a.bY l x o;exact⟨v,p,by rw[e];exact j.ok i⟩
theorem Md.eq:∀{c d:List (Lf D)},Md S c d->c.all Lf.aqI=true->d=c
 | [],[],_,_=>rfl
 | x::c,y::d,h,a=>by
  simp only[Qcm,iZ]at a;have e:y=x:=by
   rcases h.1 with h | ⟨h,_⟩ | ⟨b,h,_⟩ | ⟨_,_,_,_,h,_⟩ | ⟨_,h,_⟩
   ·exact h.symm
   ·rw[h]at a;simp[Lf.aqI]at a
   ·rw[h]at a;simp[Lf.aqI]at a
   ·rw[h]at a;simp[Lf.aqI]at a
   ·rw[h]at a;simp[Lf.aqI]at a
  rw[e,Md.eq h.2 a.2]
theorem X0.eq {x y:Bk D}(h:X0 S x y)(i:ark x=true):y=x:=by
 cases x with
 | cells f=>
  cases y with
  | cells g=>rw[Md.eq h i]
  | _=>exact h.elim
 | row e d=>
  cases y with
  | row l c=>obtain⟨rfl,rfl⟩:=h;rfl
  | _=>exact h.elim
 | wY d=>
  cases y with
  | wY c=>have h:d=c:=h;rw[h]
  | _=>exact h.elim
 | iter s p=>
  cases y with
  | iter m k=>obtain⟨rfl,rfl⟩:=h;rfl
  | _=>exact h.elim
 | map a=>
  cases y with
  | map b=>have h:a=b:=h;rw[h]
  | _=>exact h.elim
 | tc t f=>
  cases y with
  | tc j g=>obtain⟨rfl,rfl⟩:=h;rfl
  | _=>exact h.elim
theorem acx (a b:List (Nat×Bk D))(l:Nat):jM (a++b) l=match jM a l with
  | some c=>some c
  | none=>jM b l:=by
 induction a with
 | nil=>rfl
 | cons p r d=>
  grind [jM]
theorem Tj {bY enc:List (Bk D)}{l:Nat}:∀{keep:List Nat},jM (Ym bY enc keep) l=if l∈keep/\wu bY l=false then enc[l]? else none
 | []=>by rfl
 | k::r=>by
  unfold Ym;have c:=Tj (bY:=bY) (enc:=enc) (l:=l) (keep:=r);by_cases b:k=l
  ·subst b;cases i:wu bY k with
   | true=>grind
   | false=>
    cases f:enc[k]? with
    | none=>grind
    | some h=>simp[jM,f]
  ·have a:¬l=k:=fun e=>b e.symm
   have g:Nat.beq k l=false:=by
    cases e:Nat.beq k l with
    | false=>rfl
    | true=>simp_all
   have d:(l∈k::r/\wu bY l=false) ↔ (l∈r/\wu bY l=false):=by simp[a]
   split
   ·simp only[jM,g,c,d];rfl
   grind
theorem asK {b d:List (Bk D)}{c:List (Nat×Bk D)}{a:List Nat}(h:He S b d):yf (c++Ym b d a) (amh b a) b=rF c (fun l=>if l∈a then d[l]? else none):=by
 funext l;obtain⟨o,k⟩:=h.at;unfold yf rF;rw[acx];cases p:jM c l with
 | some n=>rfl
 | none=>
  dsimp only;rw[Tj];have f:rP l (amh b a)=decide (l∈a/\wu b l=true):=by
   rw[Qc9,fC];simp[amh]
  rw[f];by_cases i:l∈a
  ·cases g:wu b l with
   | false=>
    grind
   | true=>
    simp only[i,true_and,if_true,Bool.true_eq_false,if_false,decide_true];cases m:d[l]? with
    | none=>
     grind
    | some y=>
     obtain⟨x,e,j⟩:=k l y m;rw[e];unfold wu at g;rw[e]at g;rw[j.eq g]
  ·simp[i]
theorem Hp.ang {d:List (Bk D)}{g:Nat->Option Value}(h:Hp S w0 N (jD d) g (· < d.length) w):∀(l:Nat) (c:Bk D),d[l]? =some c->∀r∈c.refs,r < d.length:=fun l c k r i=>by
 obtain⟨v,m,e⟩:=h.bY l c k;cases c with
 | cells cs=>
  obtain⟨b,j,t,_,_,_,a⟩:=e;obtain⟨u,f⟩:=aW.iU a r i;exact h.al r u f
 | tc t cs=>
  obtain⟨b,j,_,_,_,a⟩:=e;obtain⟨u,f⟩:=aW.iU a r i;exact h.al r u f
 | _=>simp[Bk.refs]at i
theorem aC_ {f:FuncId}{m:Func}{c:Code}{n:Nat}{K:List ResultVar}{J:Nat->Option (Shp D)}(hmx:P.follows .mixedOrders=true)(z:∀t ty,T t=some ty->TyOk P t ty)(hΓ:∀f Y,Γ f=some Y->CtOk P S f Y)(Q:ShOk S)(hJ:∀i M,J i=some M->ShpOk S M)
  (Z:P.funcs[f]? =some m) (hb:m.body=some c) (L:(m.name== "runtime.NumGoroutine")=false) (hn:m.ntmps=n) (R:m.results.toList=K) (O:drawsOk c=true)
  {d:qF D} {b:Shp D} {k:Nat} {h:List Nat} (o:Qi S d k n) (W:ShpOk S b) (y:d.A->Option Prop) (q:d.A->b.X)
  (E:∀a,rq (y a)->(evT T S Γ n J c b.X (St.init (d.enc a).1 (d.enc a).2) (aGL T S K b k h)).run (q a)=some (q a)):CtOk P S f (qQ d b K.length h y q):=by
 subst hn R;refine⟨fun args w=> ?_,fun X N g w args lq bY p r post kp hp F j I=> ?_⟩
 ·have G:¬m.name= "runtime.NumGoroutine" :=by simpa using L
  simp[callFunc,Z,G,hb]
 ·unfold qQ at j;split at j
  ·cases j
  rename_i a ha;injection j with j
  injection j with q1 j
  injection j with q2 j
  injection j with q3 q4
  subst q1 q2 q3 q4;obtain⟨l1,x⟩:=o.ok lq bY a ha;have s:bY.length=k:=by rw[x.at.1];exact o.eG a
  obtain⟨hp2,hM⟩:=x.hp hp;have B:=l1.rel F;rw[<-hM]at B;have hlt:∀l v,g l=some v->l < k:=fun l v H=>by rw[<-s];exact hp.al l v H
  have C:Hp S ⟨w,X⟩ N (jD (d.enc a).2) g (· < (d.enc a).2.length) w:=hp2.weaken fun l H=>by rw[<-x.at.1];exact H
  rw[s,asK x];refine calls_of_wp Z hb (evT_sound hJ hmx z hΓ Q (w0:=⟨w,X⟩) (N:=N) c _ _ _ _ _ _ _ w O (E a (Eb.1 I)) (BK C B (o.args a)) fun e s' a' w' h' V _ u=> ?_);have hrf:∀(l:Nat) (U:Bk D),(d.enc a).2[l]? =some U->∀r∈U.refs,r < k:=o.eG a▸C.ang;have A:(av2 T S m.results.toList b k h s').run (q a)=some (q a)->a'.defers=[]/\∃v,(results m a'.tmps).run P w'= .ok v w'/\∃v' g',Ending.returned v= .returned v'/\More g g'/\Hp S ⟨w,X⟩ N (rF (dK (b.its nos) (b.enc (q a)) k).2.1 (fun l=>if l∈h then(d.enc a).2[l]? else none)) g' (fun _=>True) w'/\
    (Td (dK (b.its nos) (b.enc (q a)) k).1 m.results.toList.length).Rel S (aS N (rF (dK (b.its nos) (b.enc (q a)) k).2.1 (fun l=>if l∈h then(d.enc a).2[l]? else none)) g') w' g' v':=by
   intro u;obtain⟨h1,v,h2,g',h3,h4,h5⟩:=aph Q z W hlt (o.eG a) hrf V h' u
   grind
  cases e with
  | normal=>exact A u
  | ret=>exact A u
  | exit i=>cases u
def as9 {D:Type}(a b:Ct D):Ct D:=fun args c=>BR (a args c) (b args c)
theorem acz {f:FuncId}{a b:Ct D}(m:CtOk P S f a)(n:CtOk P S f b):CtOk P S f (as9 a b):=by
 refine⟨m.enters,fun X N g w args l k p r i d o j c e=> ?_⟩;unfold as9 at c;cases h:a l k with
 | some x=>
  rw[h]at c;injection c with c
  grind [CtOk.calls]
 | none=>
  rw[h]at c;exact n.calls X N g w args l k p r i d o j c e
end
end Go.Vc
