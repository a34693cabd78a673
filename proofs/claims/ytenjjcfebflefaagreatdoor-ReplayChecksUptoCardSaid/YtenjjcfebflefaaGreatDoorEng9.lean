/- Own engine: Vdn. -/
import Derived.Test.YtenjjcfebflefaaGreatDoorEng8
set_option linter.unusedVariables false
set_option linter.unusedSimpArgs false
namespace Go.Vc
open Go.RowKit
section
variable {D:Type}
def ajA (T:TypeId->Option Ty)(S:Sh D)(s:St D)(b:TypeId)(x:Sl D):Option (Sv D):=
 match VW T b with
 | none=>none
 | some (e,n,a)=>(match x with
  | .one (.lf (.opt l i j z))=>if Nat.beq i 0 && (Nat.beq j 0 && Nat.beq z a)then(match s.blk l with
   | some (.row _ d)=>if Nat.beq a (S.size d) && Nat.beq (S.len d) n then some (.agg (Na S d a 0 n))else none
   | _=>none)else none
  | _=>none)
def YT (T:TypeId->Option Ty)(S:Sh D)(s:St D):ResultVar->Option (Sv D)
 | .tmp t=>(match s.slot t with
  | .one u=>some u
  | _=>none)
 | .cell t a=>(match BX T S s.blk a (s.slot t)with
  | some ⟨none, .one u,_⟩=>some u
  | _=>ajA T S s a (s.slot t))
def Am (T:TypeId->Option Ty)(S:Sh D)(s:St D):List ResultVar->Option (List (Sv D))
 | []=>some []
 | r::a=>(match YT T S s r,Am T S s a with
  | some u,some b=>some (u::b)
  | _,_=>none)
def SG:Nat->List (Sl D)->List (Nat×Sl D)
 | _,[]=>[]
 | i,x::a=>(i,x)::SG (i+1) a
def u_:Nat->List (Bk D)->List (Nat×Option (Bk D))
 | _,[]=>[]
 | i,x::a=>(i,some x)::u_ (i+1) a
def St.init (args:List (Sl D))(a:List (Bk D)):St D:=⟨SG 0 args,u_ 0 a,a.length+64⟩
def nos:Nat->Sl D:=fun _=> .one (.lf .any)
def ax5 (a:List (Sv D))(i:Nat):Sl D:=
 match a[i]? with
 | some u=> .one u
 | none=> .one (.lf .any)
def aea (d:List It)(a:Nat)(b:List Nat)(e:List (Sv D))(s:St D):Option (List (List (Lf D))):=
 match Hm (ax5 e) s.blk d with
 | none=>none
 | some (cs,c)=>if V8 (c.map (·.1)) && (c.all fun p=> !uP p.1 (d.flatMap It.ids)) && ((d.flatMap It.ids).all fun l=>Nat.blt l a) &&
   (b.all fun i=>Nat.blt i a && !uP i ((s.blks.take (s.blks.length - a)).map (·.1)) && !uP i (c.map (·.1)))then some cs else none
def ahg (S:Sh D)(a:List (Sv D))(s:St D):List (Sv D)×St D:=
 match a with
 | [.lf (.part q i j b _)]=>(match s.blk q with
  | some (.row e d)=>if Nat.beq i 0 && Nat.beq b (S.size d)then(match S.sub d 0 j with
   | some c=>([.lf (.own s.next)],⟨s.tmps,(s.next,some (.row e c))::(q,none)::s.blks,s.next+1⟩)
   | none=>(a,s))else(a,s)
  | _=>(a,s))
 | _=>(a,s)
def anD (S:Sh D)(d:List It)(c:Nat)(a:List Nat)(b:List (Sv D))(s:St D):Option (List (List (Lf D))):=
 match aea d c a b s with
 | some cs=>some cs
 | none=>aea d c a (ahg S b s).1 (ahg S b s).2
def auG (T:TypeId->Option Ty)(S:Sh D)(d:List ResultVar)(b:FT D)(c:Nat)(a:List Nat)(s:St D):Tr D b.X:=
 match Am T S s d with
 | none=> .halt 603 s
 | some e=>(match anD S (b.its nos) c a e s with
  | none=> .halt 602 s
  | some cs=>(match b.dec cs with
   | none=> .halt 601 s
   | some x=> .ret x))
def aHW (T:TypeId->Option Ty)(S:Sh D)(d:List ResultVar)(b:FT D)(c:Nat)(a:List Nat):Ex->St D->Tr D b.X
 | .normal,s=>auG T S d b c a s
 | .ret,s=>auG T S d b c a s
 | .exit _,s=> .halt 604 s
def atO (a:List (Nat×Sl D))(i:Nat):Sv D:=
 match Ri a i with
 | some (.one u)=>u
 | _=> .lf .any
def UJ (a:List (Nat×Sl D)):Nat->Nat->List (Sv D)
 | _,0=>[]
 | i,k+1=>atO a i::UJ a (i+1) k
def X4 (a:List (Nat×Sl D))(k:Nat):Sl D:=
 match k with
 | 1=> .one (atO a 0)
 | k=> .wU (UJ a 0 k)
structure uV (D:Type):Type 1 where
 A:Type
 enc:A->List (Sl D)×List (Bk D)
 dec:List (Sl D)->List (Bk D)->Option A
def Lf.asL:Lf D->Bool
 | .val _ | .xt _=>false
 | _=>true
def awH:Bk D->Bool
 | .cells cs=>cs.all Lf.asL
 | _=>true
def yh (a:List (Bk D))(l:Nat):Bool:=
 match a[l]? with
 | some b=>awH b
 | none=>true
def an0 (b:List (Bk D))(a:List Nat):List Nat:=a.filter fun l=>yh b l
def aa2 (b a:List (Bk D)):List Nat->List (Nat×Bk D)
 | []=>[]
 | l::r=>(match yh b l,a[l]? with
  | false,some c=>(l,c)::aa2 b a r
  | _,_=>aa2 b a r)
def xK (e:uV D)(d:FT D)(k:Nat)(c:List Nat)(g:e.A->Option Prop)(f:e.A->d.X):Ct D:=fun args b=>
 match e.dec args b with
 | none=>none
 | some a=>some ((g a).map dq,X4 (eU (d.its nos) (d.enc (f a)) b.length).1 k,(eU (d.its nos) (d.enc (f a)) b.length).2.1++aa2 b (e.enc a).2 c,an0 b c)
def Pm (S:Sh D):List (Lf D)->List (Lf D)->Prop
 | [],[]=>True
 | x::a,y::b=>x.Le S y/\Pm S a b
 | _,_=>False
def ayE (S:Sh D):Sv D->Sv D->Prop
 | .lf x, .lf y=>x.Le S y
 | .agg a, .agg b=>Pm S a b
 | _,_=>False
def acp (S:Sh D):List (Sl D)->List (Sl D)->Prop
 | [],[]=>True
 | .one x::a, .one y::b=>ayE S x y/\acp S a b
 | _,_=>False
def afC (S:Sh D):Bk D->Bk D->Prop
 | .cells c, .cells f=>Pm S c f
 | .row e d, .row k g=>e=k/\d=g
 | .xZ d, .xZ g=>d=g
 | .iter s p, .iter i h=>s=i/\p=h
 | .map a, .map b=>a=b
 | .tc t c, .tc j f=>t=j/\c=f
 | _,_=>False
def JH (S:Sh D):List (Bk D)->List (Bk D)->Prop
 | [],[]=>True
 | x::a,y::b=>afC S x y/\JH S a b
 | _,_=>False
structure Tn (S:Sh D)(AS:uV D)(fU n:Nat):Prop where
 ok:∀args dD a,AS.dec args dD=some a->acp S args (AS.enc a).1/\JH S dD (AS.enc a).2
 fU:∀a,(AS.enc a).2.length=fU
 args:∀a,(AS.enc a).1.length<=n
end
section
variable {D:Type}{P:Program}{S:Sh D}{T:TypeId->Option Ty}{Γ:FuncId->Option (Ct D)}{N:Nat->Prop}{w w':World}{w0:Bs}{g0:Nat->Option Value}{n:Nat}
theorem ik.length {M:Nat->Prop}{g:Nat->Option Value}:∀{b:List (Sl D)} {a:List Value},ik S M w g b a->b.length=a.length
 | [],[],_=>rfl
 | _::_,_::_,h=>by simp[ik.length h.2]
theorem agY {M:Nat->Prop}{g:Nat->Option Value}:∀(b:List (Sl D)) (a:List Value) (i:Nat) (f:Nat->Value),ik S M w g b a->(∀j v,a[j]? =some v->f (i+j)=v)->∀t,(look (.one (.lf .any)) (SG i b) t).Rel S M w g (f t)
 | [],_,_,_,_,_,_=>trivial
 | x::b,v::a,i,f,h,d,t=>by
  simp only[SG,look];split
  ·rename_i c;have c:=Qa c;subst c;have:=d 0 v rfl;simp only[Qb]at this;rw[this];exact h.1
  ·exact agY b a (i+1) f h.2 (fun j u hj=>by have:=d (j+1) u qb0;grind) t
theorem KJ:∀(a:List (Bk D)) (i l:Nat),look none (u_ i a) l=if i<=l then a[l - i]? else none
 | [],i,l=>by simp[u_,look]
 | b::a,i,l=>by
  simp only[u_,look];by_cases h:l=i
  ·simp_all
  ·have:¬(l.beq i=true):=fun e=>h (Qa e)
   rw[kT this,KJ a (i+1) l]
   grind
theorem QP (a:List (Bk D)):look none (u_ 0 a)=lQ a:=by
 funext l;rw[KJ];simp[lQ]
theorem KY {args:List Value}{b:List (Sl D)}{a:List (Bk D)}(e:Hp S w0 N (lQ a) g0 (· < a.length) w)(d:ik S (aY N (lQ a) g0) w g0 b args)(i:b.length<=n):
  pq S w0 g0 N n (St.init b a) {tmps:=args.toArray++Array.replicate (n - args.toArray.size) undef,defers:=[]} w:=by
 have g:=d.length;have c:(St.init b a).blk=lQ a:=QP a;refine⟨g0,by rw[c];exact e.weaken fun l g=>by simp only[St.init];omega,fun t=> ?_,by simp;omega,rfl,More.refl _⟩;rw[c];refine agY b args 0 (fun t=>(args.toArray++Array.replicate (n - args.toArray.size) undef).getD t undef) d (fun j v f=> ?_) t;have h:j < args.length:=(Qbn.1 f).1;have k:args[j]=v:=by grind
 simp only[zM,Array.getD];have:j < (args.toArray++Array.replicate (n - args.toArray.size) undef).size:=by simp;omega
 simp_all
def PT (b:Array Value):ResultVar->Sem Value
 | .tmp t=>pure (b.getD t undef)
 | .cell a t=>do loadVar t (<-asAddr (b.getD a undef))
theorem alX {s:St D}{g:Nat->Option Value}{a:TypeId}{x:Sl D}{A:Value}{u:Sv D}(C:∀t a,T t=some a->eP P t a)(L:Hp S w0 N s.blk g (· < s.next) w)(J:x.Rel S (aY N s.blk g) w g A)
  (h:ajA T S s a x=some u):∃ad v,A= .pointer (some ad)/\(loadVar a ad).run P w= .ok v w/\u.Rel S (aY N s.blk g) w g v:=by
 unfold ajA at h;split at h
 ·cases h
 ·rename_i e n sz q;obtain⟨ab,te,X,Z,aa,h0,y,B,zU,o,Ld⟩:=yM C q;have p:=zB o w;have U:=mg o w;split at h
  ·rename_i l i j z;obtain⟨b,n',W,O,H⟩:=J;split at h
   ·rename_i E;obtain⟨rfl,rfl,rfl⟩:=aFD E;split at h
    ·rename_i e' d I;split at h
     ·rename_i f;simp only[jA]at f;have Y:=Qa f.2;have f:=Qa f.1;injection h with h
      subst h;obtain⟨m,R,G,E⟩:=Ai (S:=S) (M:=aY N s.blk g) (w:=w) (g:=g) (d:=d) (ad:=⟨b,0,none⟩) (sz:=z) n 0 (fun r G=>by
       obtain⟨m,Q,K,V⟩:=zq L I O (i:=0+r) au z 0 au;refine⟨m,Q,K,fun k u F=> ?_⟩;have:=V k u F;rw[m_]
       grind)
      have c:=run_loadCells (P:=P) (w:=w) ⟨b,0,none⟩ m 0 #[] (fun k u F=>by grind);rw[R,<-y]at c;refine⟨⟨b,0,none⟩, .agg m.toArray,by rw[H];simp,?_,⟨_,rfl,G⟩⟩;simp[loadVar,p,B,U,loadCells,c]
     ·cases h
    ·cases h
   ·cases h
  ·cases h
theorem Gl {s:St D}{a:Act}{g:Nat->Option Value}(e:∀t i,T t=some i->eP P t i)(p:Hp S w0 N s.blk g (· < s.next) w)(n:∀t,(s.slot t).Rel S (aY N s.blk g) w g (a.tmps.getD t undef)):
  ∀(k:List ResultVar) (l:List (Sv D)),Am T S s k=some l->∃o,(k.mapM (PT a.tmps)).run P w= .ok o w/\iE S (aY N s.blk g) w g l o
 | [],l,h=>by
  injection h with h
  subst h;exact⟨[],rfl,trivial⟩
 | r::k,l,h=>by
  unfold Am at h;split at h
  ·rename_i u z c B;injection h with h
   subst h;obtain⟨o,C,q⟩:=Gl e p n k z B;have:∃v,(PT a.tmps r).run P w= .ok v w/\u.Rel S (aY N s.blk g) w g v:=by
    cases r with
    | tmp t=>
     simp only[YT]at c;split at c
     ·rename_i x m;injection c with c
      subst c;have:=n t;rw[m]at this;exact⟨_,rfl,this⟩
     ·cases c
    | cell t i=>
     simp only[YT]at c;split at c
     ·rename_i x b m;injection c with c
      subst c;cases f:T i with
      | none=>simp[BX,f]at m
      | some F=>
       obtain⟨E,v,j,y,d⟩:=aqF (e _ _ f) f p (n t) m trivial;exact⟨v,by simp only[PT,j,asAddr,Sem.run_bind,Sem.run_pure,Result.andThen_ok];exact y,d⟩
     ·obtain⟨E,v,j,y,d⟩:=alX e p (n t) c;exact⟨v,by simp only[PT,j,asAddr,Sem.run_bind,Sem.run_pure,Result.andThen_ok];exact y,d⟩
   obtain⟨v,j,A⟩:=this;refine⟨v::o,?_,A,q⟩;simp_all
  ·cases h
theorem SN {M:Nat->Prop}{g:Nat->Option Value}{c:List (Nat×Sl D)}{a:List Value}(h:∀i v,a[i]? =some v->(atO c i).Rel S M w g v):∀(k i:Nat),i+k=a.length->iE S M w g (UJ c i k) (a.drop i)
 | 0,i,e=>by
  rw[List.drop_of_length_le au];trivial
 | k+1,i,e=>by
  have b:i < a.length:=by omega
  rw[Qbc b];exact⟨h i _ (by simp[b]),SN h k (i+1) au⟩
theorem ab8 {M:Nat->Prop}{g:Nat->Option Value}:∀{b:List (Sv D)} {a:List Value},iE S M w g b a->∀i,(ax5 b i).Rel S M w g (a.getD i undef)
 | [],[],_,i=>trivial
 | u::b,v::a,h,0=>h.1
 | u::b,v::a,h,i+1=>ab8 h.2 i
theorem av_ (Z:iZ S){s:St D}{g:Nat->Option Value}{p:List (Sv D)}{L:List Value}(I:Hp S w0 N s.blk g (· < s.next) w)(B:iE S (aY N s.blk g) w g p L):
  ∃m,Hp S w0 N (ahg S p s).2.blk m (· < (ahg S p s).2.next) w/\iE S (aY N (ahg S p s).2.blk m) w m (ahg S p s).1 L/\More g m/\∃A,(ahg S p s).2.blks=A++s.blks:=by
 have o:∃m,Hp S w0 N s.blk m (· < s.next) w/\iE S (aY N s.blk m) w m p L/\More g m/\∃A,s.blks=A++s.blks:=⟨g,I,B,More.refl _,[],rfl⟩;unfold ahg;split
 ·rename_i q i j sz f;split
  ·rename_i e d hb;split
   ·rename_i h;split
    ·rename_i G hd;simp only[jA]at h;have c1:=Qa h.1;have c2:=Qa h.2;subst c1 c2;match L,B with
     | [v],⟨z,_⟩=>
      obtain⟨a,n,t,hg,z,hij,hjn,_⟩:=z;obtain⟨u,K,hm,X,own,H⟩:=I.dD q _ hb;rw[hg]at K;injection K with K
      subst K;have hn:n=S.len d:=by
       rcases own.2 with⟨r,h0⟩ | ⟨b,cp,M,r,_⟩
       ·injection r with _ J _;omega
       ·injection r
      obtain⟨Y,Q,R⟩:=Z.sub _ _ _ _ hd (Jd _) au;rw[Nat.sub_zero]at Q R;have F:(∀c,eH v=some c->eH (.slice a n t)=some c)/\w.ownsRow 0 e (S.size d) v j (X.take (j*S.size d)):=by
       have hle:j*S.size d<=S.len d*S.size d:=Qbu _ au;have W:(X.take (j*S.size d)).length=j*S.size d:=by rw[C9,own.1];omega
       rcases own.2 with⟨r,h0⟩ | ⟨b,cp,M,r,_,hh,h1,h2,h3,h4⟩
       ·injection r with J T x
        subst J T x;have hj:j=0:=by omega
        subst hj;refine⟨fun c h=>by rw[z]at h;simp[sliced,eH]at h,W, .inl ⟨by rw[z];simp[sliced],rfl⟩⟩
       ·injection r with J T x
        subst J x;have P:v= .slice (some ⟨b,0,none⟩) j t:=by
         rw[z];unfold sliced;split<;>simp[Addr.add]
        refine⟨fun c h=>by rw[P]at h;exact h,W, .inr ⟨b,t,M,P,Jd _,hh,by omega,h2,h3,?_⟩⟩
        grind
      have U:∀u,More g (upd g s.next (some u)):=by
       intro u q' y V;have:q'≠s.next:=fun e=>absurd (I.al q' y V) (by subst e;simp)
       rw[bU _ _ _ _ this];exact V
      obtain⟨g1,g2,g3⟩:=I.move (l:=q) (fr:=s.next) (bk':= .row e G) (v:= .slice a n t) (v':=v) qc hg kM rfl rfl rfl (rC _) (fun _ _ _=>rfl) (fun c h=> .inl (F.1 c h))
       (fun M' hk _=>by
        refine⟨⟨fun c h=>hm.1 c (F.1 c h),by omega,(Z.Ht _ _ _ _ hd).2⟩,_,by rw[Y,Q];exact F.2,fun k c E C=> ?_⟩;rw[Q]at E;rw[Y]at C⊢;obtain⟨y,hy,hda,hr⟩:=H k c au C;have x:=R k c E;rw[zM]at x;refine⟨y,?_,by grind,by rw[x];exact hr.keep hk (U _)⟩;rw[Qcr,nI (vH E C)];exact hy)
      have O:(⟨s.tmps,(s.next,some (.row e G))::(q,none)::s.blks,s.next+1⟩:St D).blk=upd (upd s.blk q none) s.next (some (.row e G)):=by
       funext l;simp only[St.blk,look,upd];simp_all
      refine⟨upd g s.next (some v),?_,?_,g3,[(s.next,some (.row e G)),(q,none)],rfl⟩
      ·show Hp S w0 N (St.blk _) _ _ w
       rw[O];exact g1.weaken fun l hl=>by
        grind
      ·show iE S (aY N (St.blk _) _) w _ _ _
       rw[O];exact⟨upd_same _ _ _,trivial⟩
    ·exact o
   ·exact o
  ·exact o
 ·exact o
theorem arS (hS:iZ S){s:St D}{a:Act}{E:Func}{d:FT D}{e:Nat}{f:List Nat}{m:List (Bk D)}{x:d.X}(hTy:∀t ty,T t=some ty->eP P t ty)(hRS:rD S d)(hlt:∀l v,g0 l=some v->l < e)(O:m.length=e)(hrf:∀(l:Nat) (H:Bk D),m[l]? =some H->∀r∈H.refs,r < e)(B:∃q,s.blks=q++u_ 0 m)(h:pq S w0 g0 N n s a w){e0:d.X}(z:(auG T S E.results.toList d e f s).run e0=some x):
  a.defers=[]/\∃v,(results E a.tmps).run P w= .ok v w/\∃C,More g0 C/\Hp S w0 N (uT (eU (d.its nos) (d.enc x) e).2.1 (fun l=>if l∈f then m[l]? else none)) C (fun _=>True) w/\
   (X4 (eU (d.its nos) (d.enc x) e).1 E.results.toList.length).Rel S (aY N (uT (eU (d.its nos) (d.enc x) e).2.1 (fun l=>if l∈f then m[l]? else none)) C) w C v:=by
 obtain⟨g,J,hs,hn,hdf,hm⟩:=h;unfold auG at z;split at z
 ·cases z
 rename_i F A;split at z
 ·cases z
 rename_i cs c;split at z
 ·cases z
 rename_i M U;injection z with z
 subst z;obtain⟨j,X,k⟩:=Gl hTy J hs _ F A;have aIq:F.length=E.results.toList.length:=by
  clear X c U k;generalize E.results.toList=rs at A;induction rs generalizing F with
  | nil=>injection A with A;subst A;rfl
  | cons r rs ih=>
   unfold Am at A
   grind
 have aa:j.length=E.results.toList.length:=by rw[<-k.length];exact aIq
 refine⟨hdf,if h:j.toArray.size=1 then j.toArray[0]else .tuple j.toArray,?_,?_⟩
 ·unfold results;rw[Sem.run_bind,Qdq,Sem.run_map];change (((Sem.run P (E.results.toList.mapM (PT a.tmps)) w).andThen fun a w'=>Result.ok a.toArray w').andThen _)=_;simp_all
 have two:∃(R:List (Sv D)) (o:St D) (G:Nat->Option Value),aea (d.its nos) e f R o=some cs/\Hp S w0 N o.blk G (· < o.next) w/\iE S (aY N o.blk G) w G R j/\More g G/\∃q,o.blks=q++s.blks:=by
  unfold anD at c;split at c
  ·rename_i cs' h1;injection c with c
   subst c;exact⟨F,s,g,h1,J,k,More.refl _,[],rfl⟩
  ·obtain⟨G,k1,V,k3,k4⟩:=av_ hS J k
   grind
 obtain⟨F,o,G,c,J,k,ac,aJK,aJQ⟩:=two;unfold aea at c;split at c
 ·cases c
 rename_i cs0 mv hab;split at c
 ·rename_i hc;injection c with c
  subst c;simp only[jA]at hc;obtain⟨⟨⟨c1,c2⟩,c3⟩,Y⟩:=hc;have Y:∀i∈f,i < e/\i∉(o.blks.take (o.blks.length - e)).map (·.1)/\i∉mv.map (·.1):=fun i hi=>by
   have:=Qbd.1 Y i hi;simp only[jA,Qbg]at this;exact⟨by simp_all,O0 this.1.2,O0 this.2⟩
  obtain⟨aJJ,hpre0⟩:=B;obtain⟨q,B⟩:∃q,o.blks=q++u_ 0 m:=⟨aJK++aJJ,by grind⟩;have hil:∀(m:List (Bk D)) (i:Nat),(u_ i m).length=m.length:=fun m=>by
   induction m with
   | nil=>intro i;rfl
   | cons b r ih=>intro i;simp[u_,ih]
  have Q:(o.blks.take (o.blks.length - e)).map (·.1)=q.map (·.1):=by
   rw[B];simp[hil,O]
  obtain⟨C,I,ab,hg'⟩:=ag1 (slot:=ax5 F) (val:=fun t=>j.getD t undef) (nx:=e) (DJ:=fun _=> .one (.lf .any)) (Ji:=fun l=>if l∈f then m[l]? else none) hS J (ab8 k) hab (hRS.ok _ _ U) (Prod.eta _).symm (QQ c1)
   (fun l K=>⟨by have:=Qbd.1 c3 l K;simp_all,fun hm'=>by
    obtain⟨p,I,rfl⟩:=JC.1 hm';have:=Qbd.1 c2 p I;simp only[Qbg]at this;exact O0 this K⟩) (fun _=> .inl rfl) (fun l H L=>by
    split at L
    ·rename_i Z;obtain⟨k1,V,k3⟩:=Y l Z;refine⟨k1,?_,hrf l H L,k3⟩;rw[Q]at V;show look none o.blks l=some H
     rw[B,qB,kT V,QP];exact L
    ·cases L)
  refine⟨C,fun l v K=>(hg' l (hlt l v K)).trans (ac l v (hm l v K)),I.weaken fun _ _=>trivial,?_⟩;have one:∀i v,j[i]? =some v->(atO (eU (d.its nos) (d.enc M) e).1 i).Rel S (aY N (uT (eU (d.its nos) (d.enc M) e).2.1 (fun l=>if l∈f then m[l]? else none)) C) w C v:=by
   intro i v hv;have:=ab i;simp only[List.getD,hv,Qdb]at this;unfold WY at this;unfold atO;split at this
   ·rename_i y W;rw[W];cases y with
    | one u=>exact this
    | wU F=>trivial
   ·rename_i W;rw[W];trivial
  rw[<-aa];by_cases h1:j.length=1
  ·rw[dif_pos qcg];cases j with
   | nil=>simp at h1
   | cons v j=>
    cases j with
    | cons _ _=>simp at h1
    | nil=>exact one 0 v rfl
  ·rw[dif_neg qcg];have Z:X4 (eU (d.its nos) (d.enc M) e).1 j.length= .wU (UJ (eU (d.its nos) (d.enc M) e).1 0 j.length):=by
    unfold X4
    grind
   rw[Z];exact⟨j,rfl,by simpa using SN one j.length 0 au⟩
 ·cases c
theorem Pm.rel {M:Nat->Prop}{g:Nat->Option Value}:∀{b c:List (Lf D)} {a:List Value},Pm S b c->bf S M w g b a->bf S M w g c a
 | [],[],[],_,_=>trivial
 | _::_,_::_,_::_,h,d=>⟨Lf.Le.rel h.1 d.1,Pm.rel h.2 d.2⟩
theorem ayE.rel {M:Nat->Prop}{g:Nat->Option Value}{x y:Sv D}{v:Value}(h:ayE S x y)(a:x.Rel S M w g v):y.Rel S M w g v:=by
 cases x with
 | lf x=>
  cases y with
  | lf y=>exact Lf.Le.rel h a
  | agg c=>exact h.elim
 | agg d=>
  cases y with
  | lf y=>exact h.elim
  | agg c=>obtain⟨b,e,a⟩:=a;exact⟨b,e,Pm.rel h a⟩
theorem acp.rel {M:Nat->Prop}{g:Nat->Option Value}:∀{b c:List (Sl D)} {a:List Value},acp S b c->ik S M w g b a->ik S M w g c a
 | [],[],[],_,_=>trivial
 | .one x::b, .one y::c,v::a,h,d=>⟨ayE.rel h.1 d.1,acp.rel h.2 d.2⟩
theorem afC.hot {x y:Bk D}(h:afC S x y):hot (some x)=hot (some y):=by cases x<;>cases y<;>first | rfl | exact h.elim
theorem afC.ok {M:Nat->Prop}{g:Nat->Option Value}{B:Bs}{x y:Bk D}{v:Value}(h:afC S x y)(c:zS S M w g B x v):zS S M w g B y v:=by
 cases x with
 | cells k=>
  cases y with
  | cells l=>obtain⟨b,o,t,m,i,n,j⟩:=c;exact⟨b,o,t,m,i,n,Pm.rel h j⟩
  | _=>exact h.elim
 | row e d=>
  cases y with
  | row z f=>obtain⟨rfl,rfl⟩:=h;exact c
  | _=>exact h.elim
 | xZ d=>
  cases y with
  | xZ f=>have h:d=f:=h;grind
  | _=>exact h.elim
 | iter s p=>
  cases y with
  | iter r q=>obtain⟨rfl,rfl⟩:=h;exact c
  | _=>exact h.elim
 | map a=>
  cases y with
  | map b=>have h:a=b:=h;grind
  | _=>exact h.elim
 | tc t k=>
  cases y with
  | tc u l=>obtain⟨rfl,rfl⟩:=h;exact c
  | _=>exact h.elim
theorem JH.at:∀{a b:List (Bk D)},JH S a b->a.length=b.length/\∀(i:Nat) (y:Bk D),b[i]? =some y->∃x,a[i]? =some x/\afC S x y
 | [],[],_=>⟨rfl,fun i y h=>by simp at h⟩
 | x::a,y::b,h=>by
  obtain⟨d,e⟩:=JH.at h.2;refine⟨by simp[d],fun i f c=> ?_⟩;cases i with
  | zero=>simp at c;subst c;exact⟨x,rfl,h.1⟩
  | succ i=>grind
theorem JH.hp {g:Nat->Option Value}{m:Nat->Prop}{d c:List (Bk D)}(h:JH S d c)(a:Hp S w0 N (lQ d) g m w):Hp S w0 N (lQ c) g m w/\aY N (lQ c) g=aY N (lQ d) g:=by
 obtain⟨A,f⟩:=h.at;have k:∀l,hot (lQ c l)=hot (lQ d l):=fun l=>by
  unfold lQ;cases q:c[l]? with
  | none=>
   grind
  | some y=>
   obtain⟨x,i,e⟩:=f l y q;rw[i];exact e.hot.symm
 have j:aY N (lQ c) g=aY N (lQ d) g:=by
  funext b;simp only[aY,k]
 refine⟨⟨a.below,a.hN,fun l r p=> ?_,fun l t v s b z u=>a.sep l t v s b qg qg,a.al,a.refs,by rw[j];exact a.gl⟩,j⟩;obtain⟨x,i,e⟩:=f l r p;obtain⟨v,o,n⟩:=a.dD l x i;exact⟨v,o,by rw[j];exact e.ok n⟩
theorem Pm.eq:∀{c d:List (Lf D)},Pm S c d->c.all Lf.asL=true->d=c
 | [],[],_,_=>rfl
 | x::c,y::d,h,a=>by
  simp only[Qcj,jA]at a;have e:y=x:=by
   rcases h.1 with h | ⟨h,_⟩ | ⟨b,h,_⟩ | ⟨_,_,_,_,h,_⟩ | ⟨_,h,_⟩
   ·exact h.symm
   ·rw[h]at a;simp[Lf.asL]at a
   ·rw[h]at a;simp[Lf.asL]at a
   ·rw[h]at a;simp[Lf.asL]at a
   ·rw[h]at a;simp[Lf.asL]at a
  rw[e,Pm.eq h.2 a.2]
theorem afC.eq {x y:Bk D}(h:afC S x y)(f:awH x=true):y=x:=by
 cases x with
 | cells g=>
  cases y with
  | cells i=>rw[Pm.eq h f]
  | _=>exact h.elim
 | row e d=>
  cases y with
  | row m c=>obtain⟨rfl,rfl⟩:=h;rfl
  | _=>exact h.elim
 | xZ d=>
  cases y with
  | xZ c=>have h:d=c:=h;rw[h]
  | _=>exact h.elim
 | iter s p=>
  cases y with
  | iter k j=>obtain⟨rfl,rfl⟩:=h;rfl
  | _=>exact h.elim
 | map a=>
  cases y with
  | map b=>have h:a=b:=h;rw[h]
  | _=>exact h.elim
 | tc t g=>
  cases y with
  | tc l i=>obtain⟨rfl,rfl⟩:=h;rfl
  | _=>exact h.elim
theorem afi (a b:List (Nat×Bk D))(l:Nat):kX (a++b) l=match kX a l with
  | some c=>some c
  | none=>kX b l:=by
 induction a with
 | nil=>rfl
 | cons p r d=>
  obtain⟨k,v⟩:=p;simp only[Qb1,kX]
  grind
theorem Xx {dD enc:List (Bk D)}{l:Nat}:∀{keep:List Nat},kX (aa2 dD enc keep) l=if l∈keep/\yh dD l=false then enc[l]? else none
 | []=>by rfl
 | k::r=>by
  unfold aa2;have g:=Xx (dD:=dD) (enc:=enc) (l:=l) (keep:=r);by_cases b:k=l
  ·subst b;cases h:yh dD k with
   | true=>grind
   | false=>
    cases c:enc[k]? with
    | none=>grind
    | some i=>simp[kX,c]
  ·have a:¬l=k:=fun e=>b e.symm
   have d:Nat.beq k l=false:=by
    cases e:Nat.beq k l with
    | false=>rfl
    | true=>simp_all
   have f:(l∈k::r/\yh dD l=false) ↔ (l∈r/\yh dD l=false):=by simp[a]
   split
   ·simp only[kX,d,g,f];rfl
   grind
theorem au8 {b d:List (Bk D)}{c:List (Nat×Bk D)}{a:List Nat}(h:JH S b d):xR (c++aa2 b d a) (an0 b a) b=uT c (fun l=>if l∈a then d[l]? else none):=by
 funext l;obtain⟨o,k⟩:=h.at;unfold xR uT;rw[afi];cases n:kX c l with
 | some p=>rfl
 | none=>
  dsimp only;rw[Xx];have g:uP l (an0 b a)=decide (l∈a/\yh b l=true):=by
   rw[Qba,gJ];simp[an0]
  rw[g];by_cases i:l∈a
  ·cases f:yh b l with
   | false=>
    grind
   | true=>
    simp only[i,true_and,if_true,Bool.true_eq_false,if_false,decide_true];cases m:d[l]? with
    | none=>
     grind
    | some y=>
     obtain⟨x,e,j⟩:=k l y m;rw[e];unfold yh at f;rw[e]at f;rw[j.eq f]
  ·simp[i]
theorem aFj {f:FuncId}{o:Func}{c:Code}{n:Nat}{Y:List ResultVar}{J:Nat->Option (FT D)}(hmx:P.follows .mixedOrders=true)(O:∀t ty,T t=some ty->eP P t ty)(hΓ:∀f ct,Γ f=some ct->fK P S f ct)(hS:iZ S)(hJ:∀i sh,J i=some sh->rD S sh)
  (hf:P.funcs[f]? =some o) (G:o.body=some c) (hnm:(o.name== "runtime.NumGoroutine")=false) (hn:o.ntmps=n) (hrs:o.results.toList=Y) (aa:sG c=true)
  {k:uV D} {h:FT D} {q:Nat} {j:List Nat} (y:Tn S k q n) (hRS:rD S h) (M:k.A->Option Prop) (x:k.A->h.X)
  (Q:∀a,tN (M a)->(MQ T S Γ n J c h.X (St.init (k.enc a).1 (k.enc a).2) (aHW T S Y h q j)).run (x a)=some (x a)):fK P S f (xK k h Y.length j M x):=by
 subst hn hrs;refine⟨fun args w=> ?_,fun X N g w args oU dD p r post kp hp U m R=> ?_⟩
 ·have V:¬o.name= "runtime.NumGoroutine" :=by simpa using hnm
  simp[callFunc,hf,V,G]
 ·unfold xK at m;split at m
  ·cases m
  rename_i a ha;injection m with m
  injection m with q1 m
  injection m with q2 m
  injection m with q3 q4
  subst q1 q2 q3 q4;obtain⟨l1,F⟩:=y.ok oU dD a ha;have E:dD.length=q:=by rw[F.at.1];exact y.fU a
  obtain⟨hp2,hM⟩:=F.hp hp;have K:=l1.rel U;rw[<-hM]at K;have hlt:∀l v,g l=some v->l < q:=fun l v W=>by rw[<-E];exact hp.al l v W
  have L:Hp S ⟨w,X⟩ N (lQ (k.enc a).2) g (· < (k.enc a).2.length) w:=hp2.weaken fun l W=>by rw[<-F.at.1];exact W
  rw[E,au8 F];refine calls_of_wp hf G (Xd hJ hmx O hΓ hS (w0:=⟨w,X⟩) (N:=N) c _ _ _ _ _ _ _ w aa (Q a (Gj.1 R)) (KY L K (y.args a)) fun e s' Z w' h' hpb _ A=> ?_);have hrf:∀(l:Nat) (C:Bk D),(k.enc a).2[l]? =some C->∀r∈C.refs,r < q:=fun l C G r z=>by
   obtain⟨v,hv,H⟩:=L.dD l C G;cases C with
   | cells cs=>
    obtain⟨b,vs,t,_,_,_,B⟩:=H;obtain⟨u,hu⟩:=bf.iO B r z
    grind
   | row e d=>simp[Bk.refs]at z
   | xZ d=>simp[Bk.refs]at z
   | iter s p=>simp[Bk.refs]at z
   | map kvs=>simp[Bk.refs]at z
   | tc t cs=>
    obtain⟨b,vs,_,_,_,B⟩:=H;obtain⟨u,hu⟩:=bf.iO B r z
    grind
  have I:(auG T S o.results.toList h q j s').run (x a)=some (x a)->Z.defers=[]/\∃v,(results o Z.tmps).run P w'= .ok v w'/\∃v' g',Ending.returned v= .returned v'/\More g g'/\Hp S ⟨w,X⟩ N (uT (eU (h.its nos) (h.enc (x a)) q).2.1 (fun l=>if l∈j then(k.enc a).2[l]? else none)) g' (fun _=>True) w'/\
    (X4 (eU (h.its nos) (h.enc (x a)) q).1 o.results.toList.length).Rel S (aY N (uT (eU (h.its nos) (h.enc (x a)) q).2.1 (fun l=>if l∈j then(k.enc a).2[l]? else none)) g') w' g' v':=by
   intro A;obtain⟨h1,v,h2,g',h3,h4,h5⟩:=arS hS O hRS hlt (y.fU a) hrf hpb h' A
   grind
  cases e with
  | normal=>exact I A
  | ret=>exact I A
  | exit i=>cases A
def auu {D:Type}(a b:Ct D):Ct D:=fun args c=>z_ (a args c) (b args c)
theorem ae1 {f:FuncId}{a b:Ct D}(n:fK P S f a)(o:fK P S f b):fK P S f (auu a b):=by
 refine⟨n.enters,fun X N g w args k l p r j i m e c d=> ?_⟩;unfold auu at c;cases h:a k l with
 | some x=>
  rw[h]at c;injection c with c
  subst c;exact n.calls X N g w args k l p r j i m e h d
 | none=>
  rw[h]at c;exact o.calls X N g w args k l p r j i m e c d
end
end Go.Vc
