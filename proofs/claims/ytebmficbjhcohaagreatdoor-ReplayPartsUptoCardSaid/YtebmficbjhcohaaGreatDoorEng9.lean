/- Own engine: Vdn. -/
import Derived.Test.YtebmficbjhcohaaGreatDoorEng8
set_option linter.unusedVariables false
set_option linter.unusedSimpArgs false
namespace Go.Vc
open Go.RowKit
section
variable {D:Type}
def agO (T:TypeId->Option Ty)(S:Sh D)(s:St D)(b:TypeId)(x:Sl D):Option (Sv D):=
 match U4 T b with
 | none=>none
 | some (e,n,a)=>(match x with
  | .one (.lf (.opt l i j z))=>if Nat.beq i 0 && (Nat.beq j 0 && Nat.beq z a)then(match s.blk l with
   | some (.row _ d)=>if Nat.beq a (S.size d) && Nat.beq (S.len d) n then some (.agg (KF S d a 0 n))else none
   | _=>none)else none
  | _=>none)
def Tz (T:TypeId->Option Ty)(S:Sh D)(s:St D):ResultVar->Option (Sv D)
 | .tmp t=>(match s.slot t with
  | .one u=>some u
  | _=>none)
 | .cell t a=>(match xO T S s.blk a (s.slot t)with
  | some ⟨none, .one u,_⟩=>some u
  | _=>agO T S s a (s.slot t))
def yK (T:TypeId->Option Ty)(S:Sh D)(s:St D):List ResultVar->Option (List (Sv D))
 | []=>some []
 | r::b=>(match Tz T S s r,yK T S s b with
  | some u,some a=>some (u::a)
  | _,_=>none)
def NF:Nat->List (Sl D)->List (Nat×Sl D)
 | _,[]=>[]
 | i,x::a=>(i,x)::NF (i+1) a
def sW:Nat->List (Bk D)->List (Nat×Option (Bk D))
 | _,[]=>[]
 | i,x::a=>(i,some x)::sW (i+1) a
def St.init (args:List (Sl D))(a:List (Bk D)):St D:=⟨NF 0 args,sW 0 a,a.length+64⟩
def nos:Nat->Sl D:=fun _=> .one (.lf .any)
def at1 (a:List (Sv D))(i:Nat):Sl D:=
 match a[i]? with
 | some u=> .one u
 | none=> .one (.lf .any)
def ZK (d:List It)(a:Nat)(b:List Nat)(e:List (Sv D))(s:St D):Option (List (List (Lf D))):=
 match Em (at1 e) s.blk d with
 | none=>none
 | some (cs,c)=>if Ti (c.map (·.1)) && (c.all fun p=> !qK p.1 (d.flatMap It.ids)) && ((d.flatMap It.ids).all fun l=>Nat.blt l a) &&
   (b.all fun i=>Nat.blt i a && !qK i ((s.blks.take (s.blks.length - a)).map (·.1)) && !qK i (c.map (·.1)))then some cs else none
def acS (S:Sh D)(a:List (Sv D))(s:St D):List (Sv D)×St D:=
 match a with
 | [.lf (.part q i j c _)]=>(match s.blk q with
  | some (.row e d)=>if Nat.beq i 0 && Nat.beq c (S.size d)then(match S.sub d 0 j with
   | some b=>([.lf (.own s.next)],⟨s.tmps,(s.next,some (.row e b))::(q,none)::s.blks,s.next+1⟩)
   | none=>(a,s))else(a,s)
  | _=>(a,s))
 | _=>(a,s)
def ai8 (S:Sh D)(d:List It)(c:Nat)(a:List Nat)(b:List (Sv D))(s:St D):Option (List (List (Lf D))):=
 match ZK d c a b s with
 | some cs=>some cs
 | none=>ZK d c a (acS S b s).1 (acS S b s).2
def asH (T:TypeId->Option Ty)(S:Sh D)(e:List ResultVar)(b:CQ D)(d:Nat)(a:List Nat)(s:St D):Tr D b.X:=
 match yK T S s e with
 | none=> .halt 603 s
 | some c=>(match ai8 S (b.its nos) d a c s with
  | none=> .halt 602 s
  | some cs=>(match b.dec cs with
   | none=> .halt 601 s
   | some x=> .ret x))
def aH4 (T:TypeId->Option Ty)(S:Sh D)(d:List ResultVar)(b:CQ D)(c:Nat)(a:List Nat):Ex->St D->Tr D b.X
 | .normal,s=>asH T S d b c a s
 | .ret,s=>asH T S d b c a s
 | .exit _,s=> .halt 604 s
def auj (a:List (Nat×Sl D))(i:Nat):Sv D:=
 match NM a i with
 | some (.one u)=>u
 | _=> .lf .any
def Qj (a:List (Nat×Sl D)):Nat->Nat->List (Sv D)
 | _,0=>[]
 | i,k+1=>auj a i::Qj a (i+1) k
def SG (a:List (Nat×Sl D))(k:Nat):Sl D:=
 match k with
 | 1=> .one (auj a 0)
 | k=> .sO (Qj a 0 k)
structure qQ (D:Type):Type 1 where
 A:Type
 enc:A->List (Sl D)×List (Bk D)
 dec:List (Sl D)->List (Bk D)->Option A
def Lf.aof:Lf D->Bool
 | .val _ | .xt _=>false
 | _=>true
def avf:Bk D->Bool
 | .cells cs=>cs.all Lf.aof
 | _=>true
def vI (a:List (Bk D))(l:Nat):Bool:=
 match a[l]? with
 | some b=>avf b
 | none=>true
def alA (b:List (Bk D))(a:List Nat):List Nat:=a.filter fun l=>vI b l
def U7 (b a:List (Bk D)):List Nat->List (Nat×Bk D)
 | []=>[]
 | l::r=>(match vI b l,a[l]? with
  | false,some c=>(l,c)::U7 b a r
  | _,_=>U7 b a r)
def mi (e:qQ D)(d:CQ D)(k:Nat)(c:List Nat)(g:e.A->Option Prop)(f:e.A->d.X):Ct D:=fun args b=>
 match e.dec args b with
 | none=>none
 | some a=>some ((g a).map dq,SG (fD (d.its nos) (d.enc (f a)) b.length).1 k,(fD (d.its nos) (d.enc (f a)) b.length).2.1++U7 b (e.enc a).2 c,alA b c)
def KP (S:Sh D):List (Lf D)->List (Lf D)->Prop
 | [],[]=>True
 | x::a,y::b=>x.Le S y/\KP S a b
 | _,_=>False
def avp (S:Sh D):Sv D->Sv D->Prop
 | .lf x, .lf y=>x.Le S y
 | .agg a, .agg b=>KP S a b
 | _,_=>False
def YY (S:Sh D):List (Sl D)->List (Sl D)->Prop
 | [],[]=>True
 | .one x::a, .one y::b=>avp S x y/\YY S a b
 | _,_=>False
def ab4 (S:Sh D):Bk D->Bk D->Prop
 | .cells f, .cells g=>KP S f g
 | .row e d, .row k c=>e=k/\d=c
 | .uZ d, .uZ c=>d=c
 | .iter s p, .iter j i=>s=j/\p=i
 | .map a, .map b=>a=b
 | .tc t f, .tc h g=>t=h/\f=g
 | _,_=>False
def Gl (S:Sh D):List (Bk D)->List (Bk D)->Prop
 | [],[]=>True
 | x::a,y::b=>ab4 S x y/\Gl S a b
 | _,_=>False
structure O5 (S:Sh D)(AS:qQ D)(fQ n:Nat):Prop where
 ok:∀args dn a,AS.dec args dn=some a->YY S args (AS.enc a).1/\Gl S dn (AS.enc a).2
 fQ:∀a,(AS.enc a).2.length=fQ
 args:∀a,(AS.enc a).1.length<=n
end
section
variable {D:Type}{P:Program}{S:Sh D}{T:TypeId->Option Ty}{Γ:FuncId->Option (Ct D)}{N:Nat->Prop}{w w':World}{w0:Bs}{g0:Nat->Option Value}{n:Nat}
theorem g_.length {M:Nat->Prop}{g:Nat->Option Value}:∀{b:List (Sl D)} {a:List Value},g_ S M w g b a->b.length=a.length
 | [],[],_=>rfl
 | _::_,_::_,h=>by simp[g_.length h.2]
theorem adG {M:Nat->Prop}{g:Nat->Option Value}:∀(b:List (Sl D)) (a:List Value) (i:Nat) (f:Nat->Value),g_ S M w g b a->(∀j v,a[j]? =some v->f (i+j)=v)->∀t,(look (.one (.lf .any)) (NF i b) t).Rel S M w g (f t)
 | [],_,_,_,_,_,_=>trivial
 | x::b,v::a,i,f,h,d,t=>by
  simp only[NF,look];split
  ·rename_i c;have c:=Qa c;subst c;have:=d 0 v rfl;simp only[Pj]at this;rw[this];exact h.1
  ·exact adG b a (i+1) f h.2 (fun j u hj=>by have:=d (j+1) u qca;rwa [show i+(j+1)=i+1+j by omega]at this) t
theorem G5:∀(a:List (Bk D)) (i l:Nat),look none (sW i a) l=if i<=l then a[l - i]? else none
 | [],i,l=>by simp[sW,look]
 | b::a,i,l=>by
  simp only[sW,look];by_cases h:l=i
  ·subst h;simp
  ·have:¬(l.beq i=true):=fun e=>h (Qa e)
   rw[lW this,G5 a (i+1) l];by_cases c:i<=l
   ·rw[mV c,mV au,show l - i=(l - (i+1))+1 by omega];rfl
   ·rw[lW c,lW au]
theorem LD (a:List (Bk D)):look none (sW 0 a)=jT a:=by
 funext l;rw[G5];simp[jT]
theorem BN {args:List Value}{b:List (Sl D)}{a:List (Bk D)}(h:Hp S w0 N (jT a) g0 (· < a.length) w)(e:g_ S (aV N (jT a) g0) w g0 b args)(k:b.length<=n):
  nR S w0 g0 N n (St.init b a) {tmps:=args.toArray++Array.replicate (n - args.toArray.size) undef,defers:=[]} w:=by
 have i:=e.length;have d:(St.init b a).blk=jT a:=LD a;refine⟨g0,by rw[d];exact h.weaken fun l i=>by simp only[St.init];omega,fun t=> ?_,by simp;omega,rfl,More.refl _⟩;rw[d];refine adG b args 0 (fun t=>(args.toArray++Array.replicate (n - args.toArray.size) undef).getD t undef) e (fun j v f=> ?_) t;have c:j < args.length:=(Qa1.1 f).1;have g:args[j]=v:=by simpa[Ph c]using f
 simp only[FQ,Array.getD];have:j < (args.toArray++Array.replicate (n - args.toArray.size) undef).size:=by simp;omega
 rw[dif_pos this];show(args.toArray++Array.replicate (n - args.toArray.size) undef)[j]=v
 rw[Array.getElem_append_left (by simpa using c)];simpa using g
def Ls (b:Array Value):ResultVar->Sem Value
 | .tmp t=>pure (b.getD t undef)
 | .cell a t=>do loadVar t (<-asAddr (b.getD a undef))
theorem agx {s:St D}{g:Nat->Option Value}{c:TypeId}{x:Sl D}{E:Value}{u:Sv D}(C:∀t c,T t=some c->fB P t c)(L:Hp S w0 N s.blk g (· < s.next) w)(R:x.Rel S (aV N s.blk g) w g E)
  (h:agO T S s c x=some u):∃ad v,E= .pointer (some ad)/\(loadVar c ad).run P w= .ok v w/\u.Rel S (aV N s.blk g) w g v:=by
 unfold agO at h;split at h
 ·cases h
 ·rename_i e n sz y;obtain⟨Y,te,aa,Z,X,h0,U,F,xG,o,HY⟩:=xe C y;have p:=wz o w;have H:=kU o w;split at h
  ·rename_i l i j z;obtain⟨b,n',ab,V,I⟩:=R;split at h
   ·rename_i A;obtain⟨rfl,rfl,rfl⟩:=aCi A;split at h
    ·rename_i e' d J;split at h
     ·rename_i f;simp only[iT]at f;have W:=Qa f.2;have f:=Qa f.1;injection h with h
      subst h;obtain⟨m,G,B,A⟩:=xM (S:=S) (M:=aV N s.blk g) (w:=w) (g:=g) (d:=d) (ad:=⟨b,0,none⟩) (sz:=z) n 0 (fun r B=>by
       obtain⟨m,O,K,Q⟩:=wo L J V (i:=0+r) au z 0 au;refine⟨m,O,K,fun k u q=> ?_⟩;have:=Q k u q;rw[lM];rw[<-f]at this;simpa using this)
      have a:=run_loadCells (P:=P) (w:=w) ⟨b,0,none⟩ m 0 #[] (fun k u q=>by have:=A k u q;simpa using this);rw[G,<-U]at a;refine⟨⟨b,0,none⟩, .agg m.toArray,by rw[I];simp,?_,⟨_,rfl,B⟩⟩;simp[loadVar,p,F,H,loadCells,a]
     ·cases h
    ·cases h
   ·cases h
  ·cases h
theorem DY {s:St D}{a:Act}{g:Nat->Option Value}(f:∀t l,T t=some l->fB P t l)(y:Hp S w0 N s.blk g (· < s.next) w)(n:∀t,(s.slot t).Rel S (aV N s.blk g) w g (a.tmps.getD t undef)):
  ∀(j:List ResultVar) (m:List (Sv D)),yK T S s j=some m->∃k,(j.mapM (Ls a.tmps)).run P w= .ok k w/\iF S (aV N s.blk g) w g m k
 | [],m,h=>by
  injection h with h
  subst h;exact⟨[],rfl,trivial⟩
 | r::j,m,h=>by
  unfold yK at h;split at h
  ·rename_i u A c B;injection h with h
   subst h;obtain⟨k,p,z⟩:=DY f y n j A B;have:∃v,(Ls a.tmps r).run P w= .ok v w/\u.Rel S (aV N s.blk g) w g v:=by
    cases r with
    | tmp t=>
     simp only[Tz]at c;split at c
     ·rename_i x o;injection c with c
      subst c;have:=n t;rw[o]at this;exact⟨_,rfl,this⟩
     ·cases c
    | cell t l=>
     simp only[Tz]at c;split at c
     ·rename_i x b o;injection c with c
      subst c;cases d:T l with
      | none=>simp[xO,d]at o
      | some F=>
       obtain⟨E,v,e,q,i⟩:=anS (f _ _ d) d y (n t) o trivial;exact⟨v,by simp only[Ls,e,asAddr,Sem.run_bind,Sem.run_pure,Result.andThen_ok];exact q,i⟩
     ·obtain⟨E,v,e,q,i⟩:=agx f y (n t) c;exact⟨v,by simp only[Ls,e,asAddr,Sem.run_bind,Sem.run_pure,Result.andThen_ok];exact q,i⟩
   obtain⟨v,e,C⟩:=this;refine⟨v::k,?_,C,z⟩;simp only[List.mapM_cons,Sem.run_bind,e,Result.andThen_ok,p,Sem.run_pure]
  ·cases h
theorem OZ {M:Nat->Prop}{g:Nat->Option Value}{c:List (Nat×Sl D)}{a:List Value}(h:∀i v,a[i]? =some v->(auj c i).Rel S M w g v):∀(k i:Nat),i+k=a.length->iF S M w g (Qj c i k) (a.drop i)
 | 0,i,e=>by
  rw[List.drop_of_length_le au];trivial
 | k+1,i,e=>by
  have b:i < a.length:=by omega
  rw[Qbo b];exact⟨h i _ (by simp[b]),OZ h k (i+1) au⟩
theorem Ye {M:Nat->Prop}{g:Nat->Option Value}:∀{a:List (Sv D)} {b:List Value},iF S M w g a b->∀i,(at1 a i).Rel S M w g (b.getD i undef)
 | [],[],_,i=>trivial
 | u::a,v::b,h,0=>h.1
 | u::a,v::b,h,i+1=>Ye h.2 i
theorem aoN (W:iL S){s:St D}{g:Nat->Option Value}{r:List (Sv D)}{K:List Value}(P:Hp S w0 N s.blk g (· < s.next) w)(A:iF S (aV N s.blk g) w g r K):
  ∃m,Hp S w0 N (acS S r s).2.blk m (· < (acS S r s).2.next) w/\iF S (aV N (acS S r s).2.blk m) w m (acS S r s).1 K/\More g m/\∃E,(acS S r s).2.blks=E++s.blks:=by
 have o:∃m,Hp S w0 N s.blk m (· < s.next) w/\iF S (aV N s.blk m) w m r K/\More g m/\∃E,s.blks=E++s.blks:=⟨g,P,A,More.refl _,[],rfl⟩;unfold acS;split
 ·rename_i q i j sz f;split
  ·rename_i e d hb;split
   ·rename_i h;split
    ·rename_i L hd;simp only[iT]at h;have c1:=Qa h.1;have c2:=Qa h.2;subst c1 c2;match K,A with
     | [v],⟨C,_⟩=>
      obtain⟨a,n,x,hg,C,hij,hjn,_⟩:=C;obtain⟨u,I,hm,xs,own,M⟩:=P.dn q _ hb;rw[hg]at I;injection I with I
      subst I;have hn:n=S.len d:=by
       rcases own.2 with⟨p,h0⟩ | ⟨b,cp,U,p,_⟩
       ·injection p with _ O _;omega
       ·injection p
      obtain⟨Z,J,s3⟩:=W.sub _ _ _ _ hd (vP _) au;rw[Nat.sub_zero]at J s3;have B:(∀c,eP v=some c->eP (.slice a n x)=some c)/\w.ownsRow 0 e (S.size d) v j (xs.take (j*S.size d)):=by
       have hle:j*S.size d<=S.len d*S.size d:=Qba _ au;have hx:(xs.take (j*S.size d)).length=j*S.size d:=by rw[zC,own.1];omega
       rcases own.2 with⟨p,h0⟩ | ⟨b,cp,U,p,_,hh,H,G,h3,h4⟩
       ·injection p with O e2 t
        subst O e2 t;have hj:j=0:=by omega
        subst hj;refine⟨fun c h=>by rw[C]at h;simp[sliced,eP]at h,hx, .inl ⟨by rw[C];simp[sliced],rfl⟩⟩
       ·injection p with O e2 t
        subst O t;have Q:v= .slice (some ⟨b,0,none⟩) j x:=by
         rw[C];unfold sliced;split<;>simp[Addr.add]
        refine⟨fun c h=>by rw[Q]at h;exact h,hx, .inr ⟨b,x,U,Q,vP _,hh,by omega,G,h3,?_⟩⟩;rw[<-h4,Qd9];congr 1;omega
      have hal:∀u,More g (upd g s.next (some u)):=by
       intro u Y y hq;have:Y≠s.next:=fun e=>absurd (P.al Y y hq) (by subst e;simp)
       rw[bM _ _ _ _ this];exact hq
      obtain⟨g1,g2,g3⟩:=P.move (l:=q) (fr:=s.next) (bk':= .row e L) (v:= .slice a n x) (v':=v) qck hg oI rfl rfl rfl (oC _) (fun _ _ _=>rfl) (fun c h=> .inl (B.1 c h))
       (fun M' hk _=>by
        refine⟨⟨fun c h=>hm.1 c (B.1 c h),by rw[J];have:=hm.2.1;omega,(W.Et _ _ _ _ hd).2⟩,_,by rw[Z,J];exact B.2,fun k c z F=> ?_⟩;rw[J]at z;rw[Z]at F⊢;obtain⟨y,hy,X,hr⟩:=M k c au F;have t:=s3 k c z;rw[FQ]at t;refine⟨y,?_,by rw[t];exact X,by rw[t];exact hr.keep hk (hal _)⟩;rw[Zp,mV (oQ z F)];exact hy)
      have R:(⟨s.tmps,(s.next,some (.row e L))::(q,none)::s.blks,s.next+1⟩:St D).blk=upd (upd s.blk q none) s.next (some (.row e L)):=by
       funext l;simp only[St.blk,look,upd];by_cases H:l=s.next
       ·subst H;simp
       ·have T:¬(l.beq s.next=true):=fun e=>H (Qa e)
        by_cases G:l=q
        ·subst G;simp[H,T]
        ·have h2':¬(l.beq q=true):=fun e=>G (Qa e)
         simp[H,G,T,h2']
      refine⟨upd g s.next (some v),?_,?_,g3,[(s.next,some (.row e L)),(q,none)],rfl⟩
      ·show Hp S w0 N (St.blk _) _ _ w
       rw[R];exact g1.weaken fun l V=>by
        show l < s.next+1
        rcases V with V | V<;>omega
      ·show iF S (aV N (St.blk _) _) w _ _ _
       rw[R];exact⟨upd_same _ _ _,trivial⟩
    ·exact o
   ·exact o
  ·exact o
 ·exact o
theorem aoc (hS:iL S){s:St D}{a:Act}{G:Func}{d:CQ D}{j:Nat}{m:List Nat}{o:List (Bk D)}{x:d.X}(hTy:∀t ty,T t=some ty->fB P t ty)(hRS:pY S d)(hlt:∀l v,g0 l=some v->l < j)(Q:o.length=j)(hrf:∀(l:Nat) (M:Bk D),o[l]? =some M->∀r∈M.refs,r < j)(C:∃A,s.blks=A++sW 0 o)(h:nR S w0 g0 N n s a w){e0:d.X}(B:(asH T S G.results.toList d j m s).run e0=some x):
  a.defers=[]/\∃v,(results G a.tmps).run P w= .ok v w/\∃E,More g0 E/\Hp S w0 N (r_ (fD (d.its nos) (d.enc x) j).2.1 (fun l=>if l∈m then o[l]? else none)) E (fun _=>True) w/\
   (SG (fD (d.its nos) (d.enc x) j).1 G.results.toList.length).Rel S (aV N (r_ (fD (d.its nos) (d.enc x) j).2.1 (fun l=>if l∈m then o[l]? else none)) E) w E v:=by
 obtain⟨g,K,hs,hn,hdf,hm⟩:=h;unfold asH at B;split at B
 ·cases B
 rename_i F f;split at B
 ·cases B
 rename_i cs c;split at B
 ·cases B
 rename_i W Y;injection B with B
 subst B;obtain⟨k,J,q⟩:=DY hTy K hs _ F f;have aJd:F.length=G.results.toList.length:=by
  clear J c Y q;generalize G.results.toList=rs at f;induction rs generalizing F with
  | nil=>injection f with f;subst f;rfl
  | cons r rs ih=>
   unfold yK at f;split at f
   ·rename_i u us' _ h2;injection f with f
    subst f;simp[ih us' h2]
   ·cases f
 have Z:k.length=G.results.toList.length:=by rw[<-q.length];exact aJd
 refine⟨hdf,if h:k.toArray.size=1 then k.toArray[0]else .tuple k.toArray,?_,?_⟩
 ·unfold results;rw[Sem.run_bind,Qda,Sem.run_map];change (((Sem.run P (G.results.toList.mapM (Ls a.tmps)) w).andThen fun a w'=>Result.ok a.toArray w').andThen _)=_;rw[J];rfl
 have two:∃(X:List (Sv D)) (z:St D) (H:Nat->Option Value),ZK (d.its nos) j m X z=some cs/\Hp S w0 N z.blk H (· < z.next) w/\iF S (aV N z.blk H) w H X k/\More g H/\∃A,z.blks=A++s.blks:=by
  unfold ai8 at c;split at c
  ·rename_i cs' h1;injection c with c
   subst c;exact⟨F,s,g,h1,K,q,More.refl _,[],rfl⟩
  ·obtain⟨H,k1,V,k3,k4⟩:=aoN hS K q;exact⟨_,_,H,c,k1,V,k3,k4⟩
 obtain⟨F,z,H,c,K,q,hm1,aKw,aJh⟩:=two;unfold ZK at c;split at c
 ·cases c
 rename_i cs0 mv hab;split at c
 ·rename_i hc;injection c with c
  subst c;simp only[iT]at hc;obtain⟨⟨⟨c1,c2⟩,c3⟩,c4⟩:=hc;have c4:∀i∈m,i < j/\i∉(z.blks.take (z.blks.length - j)).map (·.1)/\i∉mv.map (·.1):=fun i hi=>by
   have:=Rf.1 c4 i hi;simp only[iT,Qbi]at this;exact⟨by simpa[CE]using this.1.1,J8 this.1.2,J8 this.2⟩
  obtain⟨aKv,R⟩:=C;obtain⟨A,C⟩:∃A,z.blks=A++sW 0 o:=⟨aKw++aKv,by rw[aJh,R,Qb2]⟩;have hil:∀(o:List (Bk D)) (i:Nat),(sW i o).length=o.length:=fun o=>by
   induction o with
   | nil=>intro i;rfl
   | cons b r ih=>intro i;simp[sW,ih]
  have U:(z.blks.take (z.blks.length - j)).map (·.1)=A.map (·.1):=by
   rw[C];simp[hil,Q]
  obtain⟨E,L,hs',hg'⟩:=acz (slot:=at1 F) (val:=fun t=>k.getD t undef) (nx:=j) (Ar:=fun _=> .one (.lf .any)) (Ep:=fun l=>if l∈m then o[l]? else none) hS K (Ye q) hab (hRS.ok _ _ Y) (Prod.eta _).symm (L_ c1)
   (fun l I=>⟨by have:=Rf.1 c3 l I;simpa[CE]using this,fun hm'=>by
    obtain⟨p,L,rfl⟩:=Qb.1 hm';have:=Rf.1 c2 p L;simp only[Qbi]at this;exact J8 this I⟩) (fun _=> .inl rfl) (fun l M O=>by
    split at O
    ·rename_i hk;obtain⟨k1,V,k3⟩:=c4 l hk;refine⟨k1,?_,hrf l M O,k3⟩;rw[U]at V;show look none z.blks l=some M
     rw[C,pG,lW V,LD];exact O
    ·cases O)
  refine⟨E,fun l v I=>(hg' l (hlt l v I)).trans (hm1 l v (hm l v I)),L.weaken fun _ _=>trivial,?_⟩;have one:∀i v,k[i]? =some v->(auj (fD (d.its nos) (d.enc W) j).1 i).Rel S (aV N (r_ (fD (d.its nos) (d.enc W) j).2.1 (fun l=>if l∈m then o[l]? else none)) E) w E v:=by
   intro i v hv;have:=hs' i;simp only[List.getD,hv,Qcv]at this;unfold S9 at this;unfold auj;split at this
   ·rename_i y hy;rw[hy];cases y with
    | one u=>exact this
    | sO F=>trivial
   ·rename_i hy;rw[hy];trivial
  rw[<-Z];by_cases h1:k.length=1
  ·rw[dif_pos qcx];cases k with
   | nil=>simp at h1
   | cons v k=>
    cases k with
    | cons _ _=>simp at h1
    | nil=>exact one 0 v rfl
  ·rw[dif_neg qcx];have hk:SG (fD (d.its nos) (d.enc W) j).1 k.length= .sO (Qj (fD (d.its nos) (d.enc W) j).1 0 k.length):=by
    unfold SG;split
    ·rename_i e;exact absurd e h1
    ·rfl
   rw[hk];exact⟨k,rfl,by simpa using OZ one k.length 0 au⟩
 ·cases c
theorem KP.rel {M:Nat->Prop}{g:Nat->Option Value}:∀{b c:List (Lf D)} {a:List Value},KP S b c->aZ S M w g b a->aZ S M w g c a
 | [],[],[],_,_=>trivial
 | _::_,_::_,_::_,h,d=>⟨Lf.Le.rel h.1 d.1,KP.rel h.2 d.2⟩
theorem avp.rel {M:Nat->Prop}{g:Nat->Option Value}{x y:Sv D}{v:Value}(h:avp S x y)(a:x.Rel S M w g v):y.Rel S M w g v:=by
 cases x with
 | lf x=>
  cases y with
  | lf y=>exact Lf.Le.rel h a
  | agg c=>exact h.elim
 | agg d=>
  cases y with
  | lf y=>exact h.elim
  | agg c=>obtain⟨b,e,a⟩:=a;exact⟨b,e,KP.rel h a⟩
theorem YY.rel {M:Nat->Prop}{g:Nat->Option Value}:∀{b c:List (Sl D)} {a:List Value},YY S b c->g_ S M w g b a->g_ S M w g c a
 | [],[],[],_,_=>trivial
 | .one x::b, .one y::c,v::a,h,d=>⟨avp.rel h.1 d.1,YY.rel h.2 d.2⟩
theorem ab4.hot {x y:Bk D}(h:ab4 S x y):hot (some x)=hot (some y):=by cases x<;>cases y<;>first | rfl | exact h.elim
theorem ab4.ok {M:Nat->Prop}{g:Nat->Option Value}{B:Bs}{x y:Bk D}{v:Value}(h:ab4 S x y)(c:xC S M w g B x v):xC S M w g B y v:=by
 cases x with
 | cells o=>
  cases y with
  | cells j=>obtain⟨b,i,t,m,k,n,l⟩:=c;exact⟨b,i,t,m,k,n,KP.rel h l⟩
  | _=>exact h.elim
 | row e d=>
  cases y with
  | row q f=>obtain⟨rfl,rfl⟩:=h;exact c
  | _=>exact h.elim
 | uZ d=>
  cases y with
  | uZ f=>have h:d=f:=h;subst h;exact c
  | _=>exact h.elim
 | iter s p=>
  cases y with
  | iter z u=>obtain⟨rfl,rfl⟩:=h;exact c
  | _=>exact h.elim
 | map a=>
  cases y with
  | map b=>have h:a=b:=h;subst h;exact c
  | _=>exact h.elim
 | tc t o=>
  cases y with
  | tc r j=>obtain⟨rfl,rfl⟩:=h;exact c
  | _=>exact h.elim
theorem Gl.at:∀{a b:List (Bk D)},Gl S a b->a.length=b.length/\∀(i:Nat) (y:Bk D),b[i]? =some y->∃x,a[i]? =some x/\ab4 S x y
 | [],[],_=>⟨rfl,fun i y h=>by simp at h⟩
 | x::a,y::b,h=>by
  obtain⟨d,c⟩:=Gl.at h.2;refine⟨by simp[d],fun i e hi=> ?_⟩;cases i with
  | zero=>simp at hi;subst hi;exact⟨x,rfl,h.1⟩
  | succ i=>simpa using c i e qct
theorem Gl.hp {g:Nat->Option Value}{n:Nat->Prop}{d c:List (Bk D)}(h:Gl S d c)(a:Hp S w0 N (jT d) g n w):Hp S w0 N (jT c) g n w/\aV N (jT c) g=aV N (jT d) g:=by
 obtain⟨A,i⟩:=h.at;have f:∀l,hot (jT c l)=hot (jT d l):=fun l=>by
  unfold jT;cases m:c[l]? with
  | none=>
   have:d[l]? =none:=by
    rw[List.getElem?_eq_none_iff]at m⊢;omega
   rw[this]
  | some y=>
   obtain⟨x,k,e⟩:=i l y m;rw[k];exact e.hot.symm
 have j:aV N (jT c) g=aV N (jT d) g:=by
  funext b;simp only[aV,f]
 refine⟨⟨a.below,a.hN,fun l z s=> ?_,fun l q v p b u t=>a.sep l q v p b (by rw[<-f];exact u) (by rw[<-f];exact t),a.al,a.refs,by rw[j];exact a.gl⟩,j⟩;obtain⟨x,k,e⟩:=i l z s;obtain⟨v,r,o⟩:=a.dn l x k;exact⟨v,r,by rw[j];exact e.ok o⟩
theorem KP.eq:∀{c d:List (Lf D)},KP S c d->c.all Lf.aof=true->d=c
 | [],[],_,_=>rfl
 | x::c,y::d,h,a=>by
  simp only[Qci,iT]at a;have e:y=x:=by
   rcases h.1 with h | ⟨h,_⟩ | ⟨b,h,_⟩ | ⟨_,_,_,_,h,_⟩ | ⟨_,h,_⟩
   ·exact h.symm
   ·rw[h]at a;simp[Lf.aof]at a
   ·rw[h]at a;simp[Lf.aof]at a
   ·rw[h]at a;simp[Lf.aof]at a
   ·rw[h]at a;simp[Lf.aof]at a
  rw[e,KP.eq h.2 a.2]
theorem ab4.eq {x y:Bk D}(h:ab4 S x y)(f:avf x=true):y=x:=by
 cases x with
 | cells g=>
  cases y with
  | cells i=>rw[KP.eq h f]
  | _=>exact h.elim
 | row e d=>
  cases y with
  | row m c=>obtain⟨rfl,rfl⟩:=h;rfl
  | _=>exact h.elim
 | uZ d=>
  cases y with
  | uZ c=>have h:d=c:=h;rw[h]
  | _=>exact h.elim
 | iter s p=>
  cases y with
  | iter l k=>obtain⟨rfl,rfl⟩:=h;rfl
  | _=>exact h.elim
 | map a=>
  cases y with
  | map b=>have h:a=b:=h;rw[h]
  | _=>exact h.elim
 | tc t g=>
  cases y with
  | tc j i=>obtain⟨rfl,rfl⟩:=h;rfl
  | _=>exact h.elim
theorem aab (a b:List (Nat×Bk D))(l:Nat):jM (a++b) l=match jM a l with
  | some d=>some d
  | none=>jM b l:=by
 induction a with
 | nil=>rfl
 | cons p r c=>
  obtain⟨k,v⟩:=p;simp only[Qck,jM];split
  ·rfl
  ·exact c
theorem VN {dn enc:List (Bk D)}{l:Nat}:∀{keep:List Nat},jM (U7 dn enc keep) l=if l∈keep/\vI dn l=false then enc[l]? else none
 | []=>by simp[U7,jM]
 | k::r=>by
  unfold U7;have a:=VN (dn:=dn) (enc:=enc) (l:=l) (keep:=r);by_cases b:k=l
  ·subst b;cases c:vI dn k with
   | true=>simp only[c]at a⊢;simpa using a
   | false=>
    cases f:enc[k]? with
    | none=>simp only[f,c]at a⊢;rw[a];simp
    | some i=>simp[jM,f]
  ·have d:¬l=k:=fun e=>b e.symm
   have h:Nat.beq k l=false:=by
    cases e:Nat.beq k l with
    | false=>rfl
    | true=>exact absurd (Qa e) b
   have g:(l∈k::r/\vI dn l=false) ↔ (l∈r/\vI dn l=false):=by simp[d]
   split
   ·simp only[jM,h,a,g];rfl
   ·simp only[a,g]
theorem aru {c b:List (Bk D)}{d:List (Nat×Bk D)}{a:List Nat}(h:Gl S c b):rC (d++U7 c b a) (alA c a) c=r_ d (fun l=>if l∈a then b[l]? else none):=by
 funext l;obtain⟨p,k⟩:=h.at;unfold rC r_;rw[aab];cases o:jM d l with
 | some n=>rfl
 | none=>
  dsimp only;rw[VN];have j:qK l (alA c a)=decide (l∈a/\vI c l=true):=by
   rw[Qcn,gz];simp[alA]
  rw[j];by_cases g:l∈a
  ·cases i:vI c l with
   | false=>
    simp only[g,true_and,if_true];cases f:b[l]? with
    | some n=>rfl
    | none=>simp
   | true=>
    simp only[g,true_and,if_true,Bool.true_eq_false,if_false,decide_true];cases f:b[l]? with
    | none=>
     rw[List.getElem?_eq_none_iff]at f⊢;omega
    | some y=>
     obtain⟨x,e,m⟩:=k l y f;rw[e];unfold vI at i;rw[e]at i;rw[m.eq i]
  ·simp[g]
theorem aEk {f:FuncId}{o:Func}{c:Code}{n:Nat}{R:List ResultVar}{J:Nat->Option (CQ D)}(hmx:P.follows .mixedOrders=true)(L:∀t ty,T t=some ty->fB P t ty)(hΓ:∀f ct,Γ f=some ct->dJ P S f ct)(hS:iL S)(hJ:∀i sh,J i=some sh->pY S sh)
  (hf:P.funcs[f]? =some o) (G:o.body=some c) (hnm:(o.name== "runtime.NumGoroutine")=false) (hn:o.ntmps=n) (hrs:o.results.toList=R) (hdr:qE c=true)
  {k:qQ D} {h:CQ D} {q:Nat} {j:List Nat} (y:O5 S k q n) (hRS:pY S h) (Q:k.A->Option Prop) (x:k.A->h.X)
  (aa:∀a,o_ (Q a)->(H9 T S Γ n J c h.X (St.init (k.enc a).1 (k.enc a).2) (aH4 T S R h q j)).run (x a)=some (x a)):dJ P S f (mi k h R.length j Q x):=by
 subst hn hrs;refine⟨fun args w=> ?_,fun X N g w args lq dn p r post kp hp Y m U=> ?_⟩
 ·have Z:¬o.name= "runtime.NumGoroutine" :=by simpa using hnm
  simp[callFunc,hf,Z,G]
 ·unfold mi at m;split at m
  ·cases m
  rename_i a ha;injection m with m
  injection m with q1 m
  injection m with q2 m
  injection m with q3 q4
  subst q1 q2 q3 q4;obtain⟨l1,H⟩:=y.ok lq dn a ha;have A:dn.length=q:=by rw[H.at.1];exact y.fQ a
  obtain⟨hp2,hM⟩:=H.hp hp;have K:=l1.rel Y;rw[<-hM]at K;have F:∀l v,g l=some v->l < q:=fun l v W=>by rw[<-A];exact hp.al l v W
  have O:Hp S ⟨w,X⟩ N (jT (k.enc a).2) g (· < (k.enc a).2.length) w:=hp2.weaken fun l W=>by rw[<-H.at.1];exact W
  rw[A,aru H];refine calls_of_wp hf G (IW hJ hmx L hΓ hS (w0:=⟨w,X⟩) (N:=N) c _ _ _ _ _ _ _ w hdr (aa a (Dw.1 U)) (BN O K (y.args a)) fun e s' a' w' h' ab _ B=> ?_);have hrf:∀(l:Nat) (E:Bk D),(k.enc a).2[l]? =some E->∀r∈E.refs,r < q:=fun l E G r z=>by
   obtain⟨v,hv,M⟩:=O.dn l E G;cases E with
   | cells cs=>
    obtain⟨b,vs,t,_,_,_,C⟩:=M;obtain⟨u,V⟩:=aZ.gY C r z;exact F r u V
   | row e d=>simp[Bk.refs]at z
   | uZ d=>simp[Bk.refs]at z
   | iter s p=>simp[Bk.refs]at z
   | map kvs=>simp[Bk.refs]at z
   | tc t cs=>
    obtain⟨b,vs,_,_,_,C⟩:=M;obtain⟨u,V⟩:=aZ.gY C r z;exact F r u V
  have I:(asH T S o.results.toList h q j s').run (x a)=some (x a)->a'.defers=[]/\∃v,(results o a'.tmps).run P w'= .ok v w'/\∃v' g',Ending.returned v= .returned v'/\More g g'/\Hp S ⟨w,X⟩ N (r_ (fD (h.its nos) (h.enc (x a)) q).2.1 (fun l=>if l∈j then(k.enc a).2[l]? else none)) g' (fun _=>True) w'/\
    (SG (fD (h.its nos) (h.enc (x a)) q).1 o.results.toList.length).Rel S (aV N (r_ (fD (h.its nos) (h.enc (x a)) q).2.1 (fun l=>if l∈j then(k.enc a).2[l]? else none)) g') w' g' v':=by
   intro B;obtain⟨h1,v,h2,g',h3,h4,h5⟩:=aoc hS L hRS F (y.fQ a) hrf ab h' B;exact⟨h1,v,h2,v,g',rfl,h3,h4,h5⟩
  cases e with
  | normal=>exact I B
  | ret=>exact I B
  | exit i=>cases B
def aoq {D:Type}(a b:Ct D):Ct D:=fun args c=>vJ (a args c) (b args c)
theorem Zl {f:FuncId}{a b:Ct D}(m:dJ P S f a)(o:dJ P S f b):dJ P S f (aoq a b):=by
 refine⟨m.enters,fun X N g w args l k p r e d n i c j=> ?_⟩;unfold aoq at c;cases h:a l k with
 | some x=>
  rw[h]at c;injection c with c
  subst c;exact m.calls X N g w args l k p r e d n i h j
 | none=>
  rw[h]at c;exact o.calls X N g w args l k p r e d n i c j
end
end Go.Vc
