/- Own engine: Vdn. -/
import Derived.Test.YtgdmjfkdbfafjaaGreatDoorEng8
set_option linter.unusedVariables false
set_option linter.unusedSimpArgs false
namespace Go.Vc
open Go.RowKit
section
variable {D:Type}
def ajF (T:TypeId->Option Ty)(S:Sh D)(s:St D)(b:TypeId)(x:Sl D):Option (Sv D):=
 match Xl T b with
 | none=>none
 | some (e,n,a)=>(match x with
  | .one (.lf (.opt l i j z))=>if Nat.beq i 0 && (Nat.beq j 0 && Nat.beq z a)then(match s.blk l with
   | some (.row _ d)=>if Nat.beq a (S.size d) && Nat.beq (S.len d) n then some (.agg (LY S d a 0 n))else none
   | _=>none)else none
  | _=>none)
def ajt (T:TypeId->Option Ty)(S:Sh D)(s:St D):ResultVar->Option (Sv D)
 | .tmp t=>(match s.slot t with
  | .one u=>some u
  | _=>none)
 | .cell t a=>(match F9 T S s.blk a (s.slot t)with
  | some ⟨none, .one u,_⟩=>some u
  | _=>ajF T S s a (s.slot t))
def H_ (T:TypeId->Option Ty)(S:Sh D)(s:St D):List ResultVar->Option (List (Sv D))
 | []=>some []
 | r::a=>(match ajt T S s r,H_ T S s a with
  | some u,some b=>some (u::b)
  | _,_=>none)
def anM:Nat->List (Sl D)->List (Nat×Sl D)
 | _,[]=>[]
 | i,x::a=>(i,x)::anM (i+1) a
def BZ:Nat->List (Bk D)->List (Nat×Option (Bk D))
 | _,[]=>[]
 | i,x::a=>(i,some x)::BZ (i+1) a
def St.init (args:List (Sl D))(a:List (Bk D)):St D:=⟨anM 0 args,BZ 0 a,a.length+64⟩
def nos:Nat->Sl D:=fun _=> .one (.lf .any)
def awX (a:List (Sv D))(i:Nat):Sl D:=
 match a[i]? with
 | some u=> .one u
 | none=> .one (.lf .any)
def aed (c:List It)(d:Nat)(a:List Nat)(e:List (Sv D))(s:St D):Option (List (List (Lf D))):=
 match Fp (awX e) s.blk c with
 | none=>none
 | some (cs,b)=>if WM (b.map (·.1)) && (b.all fun p=> !uZ p.1 (c.flatMap It.ids)) && ((c.flatMap It.ids).all fun l=>Nat.blt l d) &&
   (a.all fun i=>Nat.blt i d && !uZ i ((s.blks.take (s.blks.length - d)).map (·.1)) && !uZ i (b.map (·.1)))then some cs else none
def afp (S:Sh D)(a:List (Sv D))(s:St D):List (Sv D)×St D:=
 match a with
 | [.lf (.part q i j c _)]=>(match s.blk q with
  | some (.row e d)=>if Nat.beq i 0 && Nat.beq c (S.size d)then(match S.sub d 0 j with
   | some b=>([.lf (.own s.next)],⟨s.tmps,(s.next,some (.row e b))::(q,none)::s.blks,s.next+1⟩)
   | none=>(a,s))else(a,s)
  | _=>(a,s))
 | _=>(a,s)
def aon (S:Sh D)(c:List It)(d:Nat)(a:List Nat)(b:List (Sv D))(s:St D):Option (List (List (Lf D))):=
 match aed c d a b s with
 | some cs=>some cs
 | none=>aed c d a (afp S b s).1 (afp S b s).2
def auC (T:TypeId->Option Ty)(S:Sh D)(c:List ResultVar)(b:Iz D)(d:Nat)(a:List Nat)(s:St D):Tr D b.X:=
 match H_ T S s c with
 | none=> .halt 603 s
 | some e=>(match aon S (b.its nos) d a e s with
  | none=> .halt 602 s
  | some cs=>(match b.dec cs with
   | none=> .halt 601 s
   | some x=> .ret x))
def aLA (T:TypeId->Option Ty)(S:Sh D)(c:List ResultVar)(b:Iz D)(d:Nat)(a:List Nat):Ex->St D->Tr D b.X
 | .normal,s=>auC T S c b d a s
 | .ret,s=>auC T S c b d a s
 | .exit _,s=> .halt 604 s
def awC (a:List (Nat×Sl D))(i:Nat):Sv D:=
 match QJ a i with
 | some (.one u)=>u
 | _=> .lf .any
def Uo (a:List (Nat×Sl D)):Nat->Nat->List (Sv D)
 | _,0=>[]
 | i,k+1=>awC a i::Uo a (i+1) k
def XT (a:List (Nat×Sl D))(k:Nat):Sl D:=
 match k with
 | 1=> .one (awC a 0)
 | k=> .x8 (Uo a 0 k)
structure xk (D:Type):Type 1 where
 A:Type
 enc:A->List (Sl D)×List (Bk D)
 dec:List (Sl D)->List (Bk D)->Option A
def Lf.ar8:Lf D->Bool
 | .val _ | .xt _=>false
 | _=>true
def asO:Bk D->Bool
 | .cells cs=>cs.all Lf.ar8
 | _=>true
def xH (b:List (Bk D))(l:Nat):Bool:=
 match b[l]? with
 | some a=>asO a
 | none=>true
def amR (b:List (Bk D))(a:List Nat):List Nat:=a.filter fun l=>xH b l
def aaA (b a:List (Bk D)):List Nat->List (Nat×Bk D)
 | []=>[]
 | l::r=>(match xH b l,a[l]? with
  | false,some c=>(l,c)::aaA b a r
  | _,_=>aaA b a r)
def qj (e:xk D)(c:Iz D)(k:Nat)(b:List Nat)(g:e.A->Option Prop)(f:e.A->c.X):Ct D:=fun args d=>
 match e.dec args d with
 | none=>none
 | some a=>some ((g a).map dq,XT (gq (c.its nos) (c.enc (f a)) d.length).1 k,(gq (c.its nos) (c.enc (f a)) d.length).2.1++aaA d (e.enc a).2 b,amR d b)
def Om (S:Sh D):List (Lf D)->List (Lf D)->Prop
 | [],[]=>True
 | x::b,y::a=>x.Le S y/\Om S b a
 | _,_=>False
def azg (S:Sh D):Sv D->Sv D->Prop
 | .lf x, .lf y=>x.Le S y
 | .agg b, .agg a=>Om S b a
 | _,_=>False
def ab3 (S:Sh D):List (Sl D)->List (Sl D)->Prop
 | [],[]=>True
 | .one x::b, .one y::a=>azg S x y/\ab3 S b a
 | _,_=>False
def ae8 (S:Sh D):Bk D->Bk D->Prop
 | .cells g, .cells f=>Om S g f
 | .row e d, .row i c=>e=i/\d=c
 | .xZ d, .xZ c=>d=c
 | .iter s p, .iter j h=>s=j/\p=h
 | .map a, .map b=>a=b
 | .tc t g, .tc k f=>t=k/\g=f
 | _,_=>False
def I8 (S:Sh D):List (Bk D)->List (Bk D)->Prop
 | [],[]=>True
 | x::b,y::a=>ae8 S x y/\I8 S b a
 | _,_=>False
structure R_ (S:Sh D)(AS:xk D)(ji n:Nat):Prop where
 ok:∀args dW a,AS.dec args dW=some a->ab3 S args (AS.enc a).1/\I8 S dW (AS.enc a).2
 ji:∀a,(AS.enc a).2.length=ji
 args:∀a,(AS.enc a).1.length<=n
end
section
variable {D:Type}{P:Program}{S:Sh D}{T:TypeId->Option Ty}{Γ:FuncId->Option (Ct D)}{N:Nat->Prop}{w w':World}{w0:Bs}{g0:Nat->Option Value}{n:Nat}
theorem iY.length {M:Nat->Prop}{g:Nat->Option Value}:∀{a:List (Sl D)} {b:List Value},iY S M w g a b->a.length=b.length
 | [],[],_=>rfl
 | _::_,_::_,h=>by simp[iY.length h.2]
theorem ag0 {M:Nat->Prop}{g:Nat->Option Value}:∀(a:List (Sl D)) (b:List Value) (i:Nat) (f:Nat->Value),iY S M w g a b->(∀j v,b[j]? =some v->f (i+j)=v)->∀t,(look (.one (.lf .any)) (anM i a) t).Rel S M w g (f t)
 | [],_,_,_,_,_,_=>trivial
 | x::a,v::b,i,f,h,d,t=>by
  simp only[anM,look];split
  ·rename_i c;have c:=Qa c;subst c;have:=d 0 v rfl;simp only[UX]at this;rw[this];exact h.1
  ·exact ag0 a b (i+1) f h.2 (fun j u hj=>by have:=d (j+1) u qb9;grind) t
theorem XG:∀(a:List (Bk D)) (i l:Nat),look none (BZ i a) l=if i<=l then a[l - i]? else none
 | [],i,l=>by simp[BZ,look]
 | b::a,i,l=>by
  simp only[BZ,look];by_cases h:l=i
  ·simp_all
  ·have:¬(l.beq i=true):=fun e=>h (Qa e)
   rw[yc this,XG a (i+1) l]
   grind
theorem O_ (a:List (Bk D)):look none (BZ 0 a)=mQ a:=by
 funext l;rw[XG];simp[mQ]
theorem JW {args:List Value}{b:List (Sl D)}{a:List (Bk D)}(g:Hp S w0 N (mQ a) g0 (· < a.length) w)(d:iY S (bi N (mQ a) g0) w g0 b args)(h:b.length<=n):
  pU S w0 g0 N n (St.init b a) {tmps:=args.toArray++Array.replicate (n - args.toArray.size) undef,defers:=[]} w:=by
 have e:=d.length;have c:(St.init b a).blk=mQ a:=O_ a;refine⟨g0,by rw[c];exact g.weaken fun l e=>by simp only[St.init];omega,fun t=> ?_,by simp;omega,rfl,More.refl _⟩;rw[c];refine ag0 b args 0 (fun t=>(args.toArray++Array.replicate (n - args.toArray.size) undef).getD t undef) d (fun j v f=> ?_) t;have i:j < args.length:=(Qba.1 f).1;have k:args[j]=v:=by grind
 simp only[Dw,Array.getD];have:j < (args.toArray++Array.replicate (n - args.toArray.size) undef).size:=by simp;omega
 simp_all
def OD (b:Array Value):ResultVar->Sem Value
 | .tmp t=>pure (b.getD t undef)
 | .cell a t=>do loadVar t (<-asAddr (b.getD a undef))
theorem ajK {s:St D}{g:Nat->Option Value}{c:TypeId}{x:Sl D}{E:Value}{u:Sv D}(B:∀t c,T t=some c->gW P t c)(J:Hp S w0 N s.blk g (· < s.next) w)(Q:x.Rel S (bi N s.blk g) w g E)
  (h:ajF T S s c x=some u):∃ad v,E= .pointer (some ad)/\(loadVar c ad).run P w= .ok v w/\u.Rel S (bi N s.blk g) w g v:=by
 unfold ajF at h;split at h
 ·cases h
 ·rename_i e n sz p;obtain⟨ab,te,Z,aa,Y,h0,K,A,zk,o,J9⟩:=yl B p;have q:=yF o w;have G:=lG o w;split at h
  ·rename_i l i j z;obtain⟨b,n',W,U,I⟩:=Q;split at h
   ·rename_i C;obtain⟨rfl,rfl,rfl⟩:=aHe C;split at h
    ·rename_i e' d H;split at h
     ·rename_i f;simp only[kW]at f;have X:=Qa f.2;have f:=Qa f.1;injection h with h
      subst h;obtain⟨m,L,F,C⟩:=zU (S:=S) (M:=bi N s.blk g) (w:=w) (g:=g) (d:=d) (ad:=⟨b,0,none⟩) (sz:=z) n 0 (fun r F=>by
       obtain⟨m,R,V,O⟩:=yD J H U (i:=0+r) au z 0 au;refine⟨m,R,V,fun k u y=> ?_⟩;have:=O k u y;rw[l_]
       grind)
      have a:=run_loadCells (P:=P) (w:=w) ⟨b,0,none⟩ m 0 #[] (fun k u y=>by grind);rw[L,<-K]at a;refine⟨⟨b,0,none⟩, .agg m.toArray,by rw[I];simp,?_,⟨_,rfl,F⟩⟩;simp[loadVar,q,A,G,loadCells,a]
     ·cases h
    ·cases h
   ·cases h
  ·cases h
theorem Ff {s:St D}{a:Act}{g:Nat->Option Value}(e:∀t n,T t=some n->gW P t n)(q:Hp S w0 N s.blk g (· < s.next) w)(k:∀t,(s.slot t).Rel S (bi N s.blk g) w g (a.tmps.getD t undef)):
  ∀(m:List ResultVar) (j:List (Sv D)),H_ T S s m=some j->∃i,(m.mapM (OD a.tmps)).run P w= .ok i w/\jh S (bi N s.blk g) w g j i
 | [],j,h=>by
  injection h with h
  subst h;exact⟨[],rfl,trivial⟩
 | r::m,j,h=>by
  unfold H_ at h;split at h
  ·rename_i u z c B;injection h with h
   subst h;obtain⟨i,E,p⟩:=Ff e q k m z B;have:∃v,(OD a.tmps r).run P w= .ok v w/\u.Rel S (bi N s.blk g) w g v:=by
    cases r with
    | tmp t=>
     simp only[ajt]at c;split at c
     ·rename_i x o;injection c with c
      subst c;have:=k t;rw[o]at this;exact⟨_,rfl,this⟩
     ·cases c
    | cell t n=>
     simp only[ajt]at c;split at c
     ·rename_i x b o;injection c with c
      subst c;cases d:T n with
      | none=>simp[F9,d]at o
      | some F=>
       obtain⟨C,v,l,y,f⟩:=aqB (e _ _ d) d q (k t) o trivial;exact⟨v,by simp only[OD,l,asAddr,Sem.run_bind,Sem.run_pure,Result.andThen_ok];exact y,f⟩
     ·obtain⟨C,v,l,y,f⟩:=ajK e q (k t) c;exact⟨v,by simp only[OD,l,asAddr,Sem.run_bind,Sem.run_pure,Result.andThen_ok];exact y,f⟩
   obtain⟨v,l,A⟩:=this;refine⟨v::i,?_,A,p⟩;simp_all
  ·cases h
theorem QD {M:Nat->Prop}{g:Nat->Option Value}{c:List (Nat×Sl D)}{a:List Value}(h:∀i v,a[i]? =some v->(awC c i).Rel S M w g v):∀(k i:Nat),i+k=a.length->jh S M w g (Uo c i k) (a.drop i)
 | 0,i,e=>by
  rw[List.drop_of_length_le au];trivial
 | k+1,i,e=>by
  have b:i < a.length:=by omega
  rw[Qb b];exact⟨h i _ (by simp[b]),QD h k (i+1) au⟩
theorem abZ {M:Nat->Prop}{g:Nat->Option Value}:∀{b:List (Sv D)} {a:List Value},jh S M w g b a->∀i,(awX b i).Rel S M w g (a.getD i undef)
 | [],[],_,i=>trivial
 | u::b,v::a,h,0=>h.1
 | u::b,v::a,h,i+1=>abZ h.2 i
theorem avY (X:jE S){s:St D}{g:Nat->Option Value}{p:List (Sv D)}{H:List Value}(I:Hp S w0 N s.blk g (· < s.next) w)(A:jh S (bi N s.blk g) w g p H):
  ∃o,Hp S w0 N (afp S p s).2.blk o (· < (afp S p s).2.next) w/\jh S (bi N (afp S p s).2.blk o) w o (afp S p s).1 H/\More g o/\∃B,(afp S p s).2.blks=B++s.blks:=by
 have m:∃o,Hp S w0 N s.blk o (· < s.next) w/\jh S (bi N s.blk o) w o p H/\More g o/\∃B,s.blks=B++s.blks:=⟨g,I,A,More.refl _,[],rfl⟩;unfold afp;split
 ·rename_i q i j sz f;split
  ·rename_i e d hb;split
   ·rename_i h;split
    ·rename_i L Y;simp only[kW]at h;have c1:=Qa h.1;have c2:=Qa h.2;subst c1 c2;match H,A with
     | [v],⟨C,_⟩=>
      obtain⟨a,n,t,hg,C,hij,hjn,_⟩:=C;obtain⟨u,G,hm,U,own,K⟩:=I.dW q _ hb;rw[hg]at G;injection G with G
      subst G;have hn:n=S.len d:=by
       rcases own.2 with⟨r,h0⟩ | ⟨b,cp,P,r,_⟩
       ·injection r with _ J _;omega
       ·injection r
      obtain⟨V,Q,s3⟩:=X.sub _ _ _ _ Y (ve _) au;rw[Nat.sub_zero]at Q s3;have z:(∀c,fJ v=some c->fJ (.slice a n t)=some c)/\w.ownsRow 0 e (S.size d) v j (U.take (j*S.size d)):=by
       have hle:j*S.size d<=S.len d*S.size d:=Zh _ au;have Z:(U.take (j*S.size d)).length=j*S.size d:=by rw[QA,own.1];omega
       rcases own.2 with⟨r,h0⟩ | ⟨b,cp,P,r,_,hh,h1,h2,h3,h4⟩
       ·injection r with J e2 x
        subst J e2 x;have hj:j=0:=by omega
        subst hj;refine⟨fun c h=>by rw[C]at h;simp[sliced,fJ]at h,Z, .inl ⟨by rw[C];simp[sliced],rfl⟩⟩
       ·injection r with J e2 x
        subst J x;have M:v= .slice (some ⟨b,0,none⟩) j t:=by
         rw[C];unfold sliced;split<;>simp[Addr.add]
        refine⟨fun c h=>by rw[M]at h;exact h,Z, .inr ⟨b,t,P,M,ve _,hh,by omega,h2,h3,?_⟩⟩
        grind
      have R:∀u,More g (upd g s.next (some u)):=by
       intro u W y T;have:W≠s.next:=fun e=>absurd (I.al W y T) (by subst e;simp)
       rw[df _ _ _ _ this];exact T
      obtain⟨g1,g2,g3⟩:=I.move (l:=q) (fr:=s.next) (bk':= .row e L) (v:= .slice a n t) (v':=v) qck hg qb rfl rfl rfl (nO _) (fun _ _ _=>rfl) (fun c h=> .inl (z.1 c h))
       (fun M' hk _=>by
        refine⟨⟨fun c h=>hm.1 c (z.1 c h),by omega,(X.Jc _ _ _ _ Y).2⟩,_,by rw[V,Q];exact z.2,fun k c F E=> ?_⟩;rw[Q]at F;rw[V]at E⊢;obtain⟨y,hy,hda,hr⟩:=K k c au E;have x:=s3 k c F;rw[Dw]at x;refine⟨y,?_,by grind,by rw[x];exact hr.keep hk (R _)⟩;rw[Qcp,yY (tu F E)];exact hy)
      have O:(⟨s.tmps,(s.next,some (.row e L))::(q,none)::s.blks,s.next+1⟩:St D).blk=upd (upd s.blk q none) s.next (some (.row e L)):=by
       funext l;simp only[St.blk,look,upd];simp_all
      refine⟨upd g s.next (some v),?_,?_,g3,[(s.next,some (.row e L)),(q,none)],rfl⟩
      ·show Hp S w0 N (St.blk _) _ _ w
       rw[O];exact g1.weaken fun l hl=>by
        grind
      ·show jh S (bi N (St.blk _) _) w _ _ _
       rw[O];exact⟨upd_same _ _ _,trivial⟩
    ·exact m
   ·exact m
  ·exact m
 ·exact m
theorem apk (hS:jE S){s:St D}{a:Act}{F:Func}{d:Iz D}{e:Nat}{f:List Nat}{m:List (Bk D)}{x:d.X}(hTy:∀t ty,T t=some ty->gW P t ty)(ab:sF S d)(hlt:∀l v,g0 l=some v->l < e)(L:m.length=e)(hrf:∀(l:Nat) (I:Bk D),m[l]? =some I->∀r∈I.refs,r < e)(B:∃q,s.blks=q++BZ 0 m)(h:pU S w0 g0 N n s a w){e0:d.X}(z:(auC T S F.results.toList d e f s).run e0=some x):
  a.defers=[]/\∃v,(results F a.tmps).run P w= .ok v w/\∃C,More g0 C/\Hp S w0 N (uP (gq (d.its nos) (d.enc x) e).2.1 (fun l=>if l∈f then m[l]? else none)) C (fun _=>True) w/\
   (XT (gq (d.its nos) (d.enc x) e).1 F.results.toList.length).Rel S (bi N (uP (gq (d.its nos) (d.enc x) e).2.1 (fun l=>if l∈f then m[l]? else none)) C) w C v:=by
 obtain⟨g,J,hs,hn,hdf,hm⟩:=h;unfold auC at z;split at z
 ·cases z
 rename_i E A;split at z
 ·cases z
 rename_i cs c;split at z
 ·cases z
 rename_i O R;injection z with z
 subst z;obtain⟨j,aa,k⟩:=Ff hTy J hs _ E A;have aMI:E.length=F.results.toList.length:=by
  clear aa c R k;generalize F.results.toList=rs at A;induction rs generalizing E with
  | nil=>injection A with A;subst A;rfl
  | cons r rs ih=>
   unfold H_ at A
   grind
 have Z:j.length=F.results.toList.length:=by rw[<-k.length];exact aMI
 refine⟨hdf,if h:j.toArray.size=1 then j.toArray[0]else .tuple j.toArray,?_,?_⟩
 ·unfold results;rw[Sem.run_bind,Qdh,Sem.run_map];change (((Sem.run P (F.results.toList.mapM (OD a.tmps)) w).andThen fun a w'=>Result.ok a.toArray w').andThen _)=_;simp_all
 have two:∃(U:List (Sv D)) (o:St D) (G:Nat->Option Value),aed (d.its nos) e f U o=some cs/\Hp S w0 N o.blk G (· < o.next) w/\jh S (bi N o.blk G) w G U j/\More g G/\∃q,o.blks=q++s.blks:=by
  unfold aon at c;split at c
  ·rename_i cs' h1;injection c with c
   subst c;exact⟨E,s,g,h1,J,k,More.refl _,[],rfl⟩
  ·obtain⟨G,k1,X,k3,k4⟩:=avY hS J k
   grind
 obtain⟨E,o,G,c,J,k,hm1,aNY,aN5⟩:=two;unfold aed at c;split at c
 ·cases c
 rename_i cs0 mv ac;split at c
 ·rename_i hc;injection c with c
  subst c;simp only[kW]at hc;obtain⟨⟨⟨c1,c2⟩,c3⟩,V⟩:=hc;have V:∀i∈f,i < e/\i∉(o.blks.take (o.blks.length - e)).map (·.1)/\i∉mv.map (·.1):=fun i hi=>by
   have:=Qa2.1 V i hi;simp only[kW,Qa7]at this;exact⟨by simp_all,M_ this.1.2,M_ this.2⟩
  obtain⟨aNX,hpre0⟩:=B;obtain⟨q,B⟩:∃q,o.blks=q++BZ 0 m:=⟨aNY++aNX,by grind⟩;have hil:∀(m:List (Bk D)) (i:Nat),(BZ i m).length=m.length:=fun m=>by
   induction m with
   | nil=>intro i;rfl
   | cons b r ih=>intro i;simp[BZ,ih]
  have Q:(o.blks.take (o.blks.length - e)).map (·.1)=q.map (·.1):=by
   rw[B];simp[hil,L]
  obtain⟨C,H,hs',hg'⟩:=ahc (slot:=awX E) (val:=fun t=>j.getD t undef) (nx:=e) (Ci:=fun _=> .one (.lf .any)) (IA:=fun l=>if l∈f then m[l]? else none) hS J (abZ k) ac (ab.ok _ _ R) (Prod.eta _).symm (PN c1)
   (fun l K=>⟨by have:=Qa2.1 c3 l K;simp_all,fun hm'=>by
    obtain⟨p,H,rfl⟩:=MN.1 hm';have:=Qa2.1 c2 p H;simp only[Qa7]at this;exact M_ this K⟩) (fun _=> .inl rfl) (fun l I M=>by
    split at M
    ·rename_i Y;obtain⟨k1,X,k3⟩:=V l Y;refine⟨k1,?_,hrf l I M,k3⟩;rw[Q]at X;show look none o.blks l=some I
     rw[B,qY,yc X,O_];exact M
    ·cases M)
  refine⟨C,fun l v K=>(hg' l (hlt l v K)).trans (hm1 l v (hm l v K)),H.weaken fun _ _=>trivial,?_⟩;have one:∀i v,j[i]? =some v->(awC (gq (d.its nos) (d.enc O) e).1 i).Rel S (bi N (uP (gq (d.its nos) (d.enc O) e).2.1 (fun l=>if l∈f then m[l]? else none)) C) w C v:=by
   intro i v hv;have:=hs' i;simp only[List.getD,hv,Qdg]at this;unfold WS at this;unfold awC;split at this
   ·rename_i y W;rw[W];cases y with
    | one u=>exact this
    | x8 E=>trivial
   ·rename_i W;rw[W];trivial
  rw[<-Z];by_cases h1:j.length=1
  ·rw[dif_pos qcv];cases j with
   | nil=>simp at h1
   | cons v j=>
    cases j with
    | cons _ _=>simp at h1
    | nil=>exact one 0 v rfl
  ·rw[dif_neg qcv];have Y:XT (gq (d.its nos) (d.enc O) e).1 j.length= .x8 (Uo (gq (d.its nos) (d.enc O) e).1 0 j.length):=by
    unfold XT
    grind
   rw[Y];exact⟨j,rfl,by simpa using QD one j.length 0 au⟩
 ·cases c
theorem Om.rel {M:Nat->Prop}{g:Nat->Option Value}:∀{b a:List (Lf D)} {c:List Value},Om S b a->bu S M w g b c->bu S M w g a c
 | [],[],[],_,_=>trivial
 | _::_,_::_,_::_,h,d=>⟨Lf.Le.rel h.1 d.1,Om.rel h.2 d.2⟩
theorem azg.rel {M:Nat->Prop}{g:Nat->Option Value}{x y:Sv D}{v:Value}(h:azg S x y)(a:x.Rel S M w g v):y.Rel S M w g v:=by
 cases x with
 | lf x=>
  cases y with
  | lf y=>exact Lf.Le.rel h a
  | agg b=>exact h.elim
 | agg d=>
  cases y with
  | lf y=>exact h.elim
  | agg b=>obtain⟨c,e,a⟩:=a;exact⟨c,e,Om.rel h a⟩
theorem ab3.rel {M:Nat->Prop}{g:Nat->Option Value}:∀{b a:List (Sl D)} {c:List Value},ab3 S b a->iY S M w g b c->iY S M w g a c
 | [],[],[],_,_=>trivial
 | .one x::b, .one y::a,v::c,h,d=>⟨azg.rel h.1 d.1,ab3.rel h.2 d.2⟩
theorem ae8.hot {x y:Bk D}(h:ae8 S x y):hot (some x)=hot (some y):=by cases x<;>cases y<;>first | rfl | exact h.elim
theorem ae8.ok {M:Nat->Prop}{g:Nat->Option Value}{B:Bs}{x y:Bk D}{v:Value}(h:ae8 S x y)(c:zi S M w g B x v):zi S M w g B y v:=by
 cases x with
 | cells j=>
  cases y with
  | cells i=>obtain⟨b,n,t,m,o,l,k⟩:=c;exact⟨b,n,t,m,o,l,Om.rel h k⟩
  | _=>exact h.elim
 | row e d=>
  cases y with
  | row q f=>obtain⟨rfl,rfl⟩:=h;exact c
  | _=>exact h.elim
 | xZ d=>
  cases y with
  | xZ f=>have h:d=f:=h;grind
  | _=>exact h.elim
 | iter s p=>
  cases y with
  | iter u r=>obtain⟨rfl,rfl⟩:=h;exact c
  | _=>exact h.elim
 | map a=>
  cases y with
  | map b=>have h:a=b:=h;grind
  | _=>exact h.elim
 | tc t j=>
  cases y with
  | tc z i=>obtain⟨rfl,rfl⟩:=h;exact c
  | _=>exact h.elim
theorem I8.at:∀{b a:List (Bk D)},I8 S b a->b.length=a.length/\∀(i:Nat) (y:Bk D),a[i]? =some y->∃x,b[i]? =some x/\ae8 S x y
 | [],[],_=>⟨rfl,fun i y h=>by simp at h⟩
 | x::b,y::a,h=>by
  obtain⟨d,e⟩:=I8.at h.2;refine⟨by simp[d],fun i f c=> ?_⟩;cases i with
  | zero=>simp at c;subst c;exact⟨x,rfl,h.1⟩
  | succ i=>grind
theorem I8.hp {g:Nat->Option Value}{m:Nat->Prop}{e c:List (Bk D)}(h:I8 S e c)(a:Hp S w0 N (mQ e) g m w):Hp S w0 N (mQ c) g m w/\bi N (mQ c) g=bi N (mQ e) g:=by
 obtain⟨u,f⟩:=h.at;have k:∀l,hot (mQ c l)=hot (mQ e l):=fun l=>by
  unfold mQ;cases s:c[l]? with
  | none=>
   grind
  | some y=>
   obtain⟨x,j,d⟩:=f l y s;rw[j];exact d.hot.symm
 have i:bi N (mQ c) g=bi N (mQ e) g:=by
  funext b;simp only[bi,k]
 refine⟨⟨a.below,a.hN,fun l r o=> ?_,fun l t v p b z A=>a.sep l t v p b rf rf,a.al,a.refs,by rw[i];exact a.gl⟩,i⟩;obtain⟨x,j,d⟩:=f l r o;obtain⟨v,q,n⟩:=a.dW l x j;exact⟨v,q,by rw[i];exact d.ok n⟩
theorem Om.eq:∀{c d:List (Lf D)},Om S c d->c.all Lf.ar8=true->d=c
 | [],[],_,_=>rfl
 | x::c,y::d,h,a=>by
  simp only[Qc7,kW]at a;have e:y=x:=by
   rcases h.1 with h | ⟨h,_⟩ | ⟨b,h,_⟩ | ⟨_,_,_,_,h,_⟩ | ⟨_,h,_⟩
   ·exact h.symm
   ·rw[h]at a;simp[Lf.ar8]at a
   ·rw[h]at a;simp[Lf.ar8]at a
   ·rw[h]at a;simp[Lf.ar8]at a
   ·rw[h]at a;simp[Lf.ar8]at a
  rw[e,Om.eq h.2 a.2]
theorem ae8.eq {x y:Bk D}(h:ae8 S x y)(g:asO x=true):y=x:=by
 cases x with
 | cells i=>
  cases y with
  | cells f=>rw[Om.eq h g]
  | _=>exact h.elim
 | row e d=>
  cases y with
  | row k c=>obtain⟨rfl,rfl⟩:=h;rfl
  | _=>exact h.elim
 | xZ d=>
  cases y with
  | xZ c=>have h:d=c:=h;rw[h]
  | _=>exact h.elim
 | iter s p=>
  cases y with
  | iter l j=>obtain⟨rfl,rfl⟩:=h;rfl
  | _=>exact h.elim
 | map a=>
  cases y with
  | map b=>have h:a=b:=h;rw[h]
  | _=>exact h.elim
 | tc t i=>
  cases y with
  | tc m f=>obtain⟨rfl,rfl⟩:=h;rfl
  | _=>exact h.elim
theorem ae6 (a b:List (Nat×Bk D))(l:Nat):lW (a++b) l=match lW a l with
  | some c=>some c
  | none=>lW b l:=by
 induction a with
 | nil=>rfl
 | cons p r d=>
  obtain⟨k,v⟩:=p;simp only[Qbp,lW]
  grind
theorem WN {dW enc:List (Bk D)}{l:Nat}:∀{keep:List Nat},lW (aaA dW enc keep) l=if l∈keep/\xH dW l=false then enc[l]? else none
 | []=>by rfl
 | k::r=>by
  unfold aaA;have g:=WN (dW:=dW) (enc:=enc) (l:=l) (keep:=r);by_cases a:k=l
  ·subst a;cases i:xH dW k with
   | true=>grind
   | false=>
    cases c:enc[k]? with
    | none=>grind
    | some h=>simp[lW,c]
  ·have b:¬l=k:=fun e=>a e.symm
   have d:Nat.beq k l=false:=by
    cases e:Nat.beq k l with
    | false=>rfl
    | true=>simp_all
   have f:(l∈k::r/\xH dW l=false) ↔ (l∈r/\xH dW l=false):=by simp[b]
   split
   ·simp only[lW,d,g,f];rfl
   grind
theorem ax6 {b d:List (Bk D)}{c:List (Nat×Bk D)}{a:List Nat}(h:I8 S b d):yE (c++aaA b d a) (amR b a) b=uP c (fun l=>if l∈a then d[l]? else none):=by
 funext l;obtain⟨n,j⟩:=h.at;unfold yE uP;rw[ae6];cases p:lW c l with
 | some o=>rfl
 | none=>
  dsimp only;rw[WN];have g:uZ l (amR b a)=decide (l∈a/\xH b l=true):=by
   rw[Qbr,iL];simp[amR]
  rw[g];by_cases i:l∈a
  ·cases f:xH b l with
   | false=>
    grind
   | true=>
    simp only[i,true_and,if_true,Bool.true_eq_false,if_false,decide_true];cases m:d[l]? with
    | none=>
     grind
    | some y=>
     obtain⟨x,e,k⟩:=j l y m;rw[e];unfold xH at f;rw[e]at f;rw[k.eq f]
  ·simp[i]
theorem aHa {f:FuncId}{q:Func}{c:Code}{n:Nat}{W:List ResultVar}{J:Nat->Option (Iz D)}(hmx:P.follows .mixedOrders=true)(M:∀t ty,T t=some ty->gW P t ty)(hΓ:∀f ct,Γ f=some ct->gZ P S f ct)(hS:jE S)(hJ:∀i sh,J i=some sh->sF S sh)
  (hf:P.funcs[f]? =some q) (F:q.body=some c) (hnm:(q.name== "runtime.NumGoroutine")=false) (hn:q.ntmps=n) (hrs:q.results.toList=W) (hdr:sV c=true)
  {j:xk D} {h:Iz D} {o:Nat} {k:List Nat} (y:R_ S j o n) (Z:sF S h) (O:j.A->Option Prop) (x:j.A->h.X)
  (V:∀a,qW (O a)->(Vp T S Γ n J c h.X (St.init (j.enc a).1 (j.enc a).2) (aLA T S W h o k)).run (x a)=some (x a)):gZ P S f (qj j h W.length k O x):=by
 subst hn hrs;refine⟨fun args w=> ?_,fun X N g w args o_ dW p r post kp hp R m Q=> ?_⟩
 ·have Y:¬q.name= "runtime.NumGoroutine" :=by simpa using hnm
  simp[callFunc,hf,Y,F]
 ·unfold qj at m;split at m
  ·cases m
  rename_i a ha;injection m with m
  injection m with q1 m
  injection m with q2 m
  injection m with q3 q4
  subst q1 q2 q3 q4;obtain⟨l1,G⟩:=y.ok o_ dW a ha;have C:dW.length=o:=by rw[G.at.1];exact y.ji a
  obtain⟨hp2,hM⟩:=G.hp hp;have L:=l1.rel R;rw[<-hM]at L;have hlt:∀l v,g l=some v->l < o:=fun l v U=>by rw[<-C];exact hp.al l v U
  have H:Hp S ⟨w,X⟩ N (mQ (j.enc a).2) g (· < (j.enc a).2.length) w:=hp2.weaken fun l U=>by rw[<-G.at.1];exact U
  rw[C,ax6 G];refine calls_of_wp hf F (XP hJ hmx M hΓ hS (w0:=⟨w,X⟩) (N:=N) c _ _ _ _ _ _ _ w hdr (V a (F7.1 Q)) (JW H L (y.args a)) fun e s' a' w' h' hpb _ B=> ?_);have hrf:∀(l:Nat) (A:Bk D),(j.enc a).2[l]? =some A->∀r∈A.refs,r < o:=fun l A F r z=>by
   obtain⟨v,hv,K⟩:=H.dW l A F;cases A with
   | cells cs=>
    obtain⟨b,vs,t,_,_,_,E⟩:=K;obtain⟨u,hu⟩:=bu.jq E r z
    grind
   | row e d=>simp[Bk.refs]at z
   | xZ d=>simp[Bk.refs]at z
   | iter s p=>simp[Bk.refs]at z
   | map kvs=>simp[Bk.refs]at z
   | tc t cs=>
    obtain⟨b,vs,_,_,_,E⟩:=K;obtain⟨u,hu⟩:=bu.jq E r z
    grind
  have I:(auC T S q.results.toList h o k s').run (x a)=some (x a)->a'.defers=[]/\∃v,(results q a'.tmps).run P w'= .ok v w'/\∃v' g',Ending.returned v= .returned v'/\More g g'/\Hp S ⟨w,X⟩ N (uP (gq (h.its nos) (h.enc (x a)) o).2.1 (fun l=>if l∈k then(j.enc a).2[l]? else none)) g' (fun _=>True) w'/\
    (XT (gq (h.its nos) (h.enc (x a)) o).1 q.results.toList.length).Rel S (bi N (uP (gq (h.its nos) (h.enc (x a)) o).2.1 (fun l=>if l∈k then(j.enc a).2[l]? else none)) g') w' g' v':=by
   intro B;obtain⟨h1,v,h2,g',h3,h4,h5⟩:=apk hS M Z hlt (y.ji a) hrf hpb h' B
   grind
  cases e with
  | normal=>exact I B
  | ret=>exact I B
  | exit i=>cases B
def aHD {D:Type}(a b:Ct D):Ct D:=fun args c=>Dz (a args c) (b args c)
theorem aAv {f:FuncId}{a b:Ct D}(m:gZ P S f a)(o:gZ P S f b):gZ P S f (aHD a b):=by
 refine⟨m.enters,fun X N g w args k l p r i d n e c j=> ?_⟩;unfold aHD at c;cases h:a k l with
 | some x=>
  rw[h]at c;injection c with c
  subst c;exact m.calls X N g w args k l p r i d n e h j
 | none=>
  rw[h]at c;exact o.calls X N g w args k l p r i d n e c j
end
end Go.Vc
