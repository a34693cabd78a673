/- Own engine: Vdn. -/
import Derived.Test.YtjojefbphdmnjaaGreatDoorEng9
set_option linter.unusedVariables false
set_option linter.unusedSimpArgs false
namespace Go.Vc
open Go.RowKit
section
variable {D:Type}
def aga (T:TypeId->Option Ty)(S:Sh D)(c:Nat->Option (Bk D))(b:TypeId)(x:Sl D):Option (Sv D):=
 match Qg T b with
 | none=>none
 | some (e,n,a)=>(match x with
  | .one (.lf (.opt l i j z))=>if Nat.beq i 0 && (Nat.beq j 0 && Nat.beq z a)then(match c l with
   | some (.row _ d)=>if Nat.beq a (S.size d) && Nat.beq (S.len d) n then some (.agg (Ir S d a 0 n))else none
   | _=>none)else none
  | _=>none)
def agt (T:TypeId->Option Ty)(S:Sh D)(a:Nat->Sl D)(c:Nat->Option (Bk D)):ResultVar->Option (Sv D)
 | .tmp t=>(match a t with
  | .one u=>some u
  | _=>none)
 | .cell t b=>(match LH T S c b (a t)with
  | some ⟨none, .one u,_⟩=>some u
  | _=>aga T S c b (a t))
def Cc (T:TypeId->Option Ty)(S:Sh D)(a:Nat->Sl D)(b:Nat->Option (Bk D)):List ResultVar->Option (List (Sv D))
 | []=>some []
 | r::d=>(match agt T S a b r,Cc T S a b d with
  | some u,some c=>some (u::c)
  | _,_=>none)
def aig:Nat->List (Sl D)->List (Nat×Sl D)
 | _,[]=>[]
 | i,x::a=>(i,x)::aig (i+1) a
def wM:Nat->List (Bk D)->List (Nat×Option (Bk D))
 | _,[]=>[]
 | i,x::a=>(i,some x)::wM (i+1) a
def St.init (args:List (Sl D))(a:List (Bk D)):St D:=⟨aig 0 args,wM 0 a,a.length+64⟩
def nos:Nat->Sl D:=fun _=> .one (.lf .any)
def apw (a:List (Sv D))(i:Nat):Sl D:=
 match a[i]? with
 | some u=> .one u
 | none=> .one (.lf .any)
def Z8 (d:List It)(a:Nat)(c:List Nat)(e:List (Sv D))(s:St D):Option (List (List (Lf D))):=
 match Bv (apw e) s.blk d with
 | none=>none
 | some (cs,b)=>if SK (b.map (·.1)) && (b.all fun p=> !ql p.1 (d.flatMap It.ids)) && ((d.flatMap It.ids).all fun l=>Nat.blt l a) &&
   (c.all fun i=>Nat.blt i a && !ql i ((s.blks.take (s.blks.length - a)).map (·.1)) && !ql i (b.map (·.1)))then some cs else none
def abN (S:Sh D)(a:List (Sv D))(s:St D):List (Sv D)×St D:=
 match a with
 | [.lf (.part q i j c _)]=>(match s.blk q with
  | some (.row e d)=>if Nat.beq i 0 && Nat.beq c (S.size d)then(match S.sub d 0 j with
   | some b=>([.lf (.own s.next)],⟨s.tmps,(s.next,some (.row e b))::(q,none)::s.blks,s.next+1⟩)
   | none=>(a,s))else(a,s)
  | _=>(a,s))
 | _=>(a,s)
def ah_ (S:Sh D)(d:List It)(c:Nat)(a:List Nat)(b:List (Sv D))(s:St D):Option (List (List (Lf D))):=
 match Z8 d c a b s with
 | some cs=>some cs
 | none=>Z8 d c a (abN S b s).1 (abN S b s).2
def aro (T:TypeId->Option Ty)(S:Sh D)(e:List ResultVar)(b:Shp D)(c:Nat)(a:List Nat)(s:St D):Tr D b.X:=
 match Cc T S s.slot s.blk e with
 | none=> .halt 603 s
 | some d=>(match ah_ S (b.its nos) c a d s with
  | none=> .halt 602 s
  | some cs=>(match b.dec cs with
   | none=> .halt 601 s
   | some x=> .ret x))
def aGA (T:TypeId->Option Ty)(S:Sh D)(d:List ResultVar)(b:Shp D)(c:Nat)(a:List Nat):Ex->St D->Tr D b.X
 | .normal,s=>aro T S d b c a s
 | .ret,s=>aro T S d b c a s
 | .exit _,s=> .halt 604 s
def aql (a:List (Nat×Sl D))(i:Nat):Sv D:=
 match KO a i with
 | some (.one u)=>u
 | _=> .lf .any
def Oc (a:List (Nat×Sl D)):Nat->Nat->List (Sv D)
 | _,0=>[]
 | i,k+1=>aql a i::Oc a (i+1) k
def OW (a:List (Nat×Sl D))(k:Nat):Sl D:=
 match k with
 | 1=> .one (aql a 0)
 | k=> .tup (Oc a 0 k)
structure sU (D:Type):Type 1 where
 A:Type
 enc:A->List (Sl D)×List (Bk D)
 dec:List (Sl D)->List (Bk D)->Option A
def Lf.anj:Lf D->Bool
 | .val _ | .xt _=>false
 | _=>true
def asn:Bk D->Bool
 | .cells cs=>cs.all Lf.anj
 | _=>true
def tq (a:List (Bk D))(l:Nat):Bool:=
 match a[l]? with
 | some b=>asn b
 | none=>true
def ajT (b:List (Bk D))(a:List Nat):List Nat:=a.filter fun l=>tq b l
def WZ (b a:List (Bk D)):List Nat->List (Nat×Bk D)
 | []=>[]
 | l::r=>(match tq b l,a[l]? with
  | false,some c=>(l,c)::WZ b a r
  | _,_=>WZ b a r)
def ctN (e:sU D)(d:Shp D)(k:Nat)(c:List Nat)(g:e.A->Option Prop)(f:e.A->d.X):Ct D:=fun args b=>
 match e.dec args b with
 | none=>none
 | some a=>some ((g a).map dq,OW (dM (d.its nos) (d.enc (f a)) b.length).1 k,(dM (d.its nos) (d.enc (f a)) b.length).2.1++WZ b (e.enc a).2 c,ajT b c)
def IC (S:Sh D):List (Lf D)->List (Lf D)->Prop
 | [],[]=>True
 | x::b,y::a=>x.Le S y/\IC S b a
 | _,_=>False
def auU (S:Sh D):Sv D->Sv D->Prop
 | .lf x, .lf y=>x.Le S y
 | .agg b, .agg a=>IC S b a
 | _,_=>False
def Xe (S:Sh D):List (Sl D)->List (Sl D)->Prop
 | [],[]=>True
 | .one x::b, .one y::a=>auU S x y/\Xe S b a
 | _,_=>False
def UQ (S:Sh D):Bk D->Bk D->Prop
 | .cells f, .cells g=>IC S f g
 | .row e d, .row h c=>e=h/\d=c
 | .ve d, .ve c=>d=c
 | .iter s p, .iter k j=>s=k/\p=j
 | .map a, .map b=>a=b
 | .tc t f, .tc i g=>t=i/\f=g
 | _,_=>False
def DY (S:Sh D):List (Bk D)->List (Bk D)->Prop
 | [],[]=>True
 | x::b,y::a=>UQ S x y/\DY S b a
 | _,_=>False
structure MF (S:Sh D)(AS:sU D)(eU n:Nat):Prop where
 ok:∀args bY a,AS.dec args bY=some a->Xe S args (AS.enc a).1/\DY S bY (AS.enc a).2
 eU:∀a,(AS.enc a).2.length=eU
 args:∀a,(AS.enc a).1.length<=n
end
section
variable {D:Type}{P:Program}{S:Sh D}{T:TypeId->Option Ty}{Γ:FuncId->Option (Ct D)}{N:Nat->Prop}{w w':World}{w0:Bs}{g0:Nat->Option Value}{n:Nat}
theorem d_.length {M:Nat->Prop}{g:Nat->Option Value}:∀{a:List (Sl D)} {b:List Value},d_ S M w g a b->a.length=b.length
 | [],[],_=>rfl
 | _::_,_::_,h=>by simp[d_.length h.2]
theorem aaK {M:Nat->Prop}{g:Nat->Option Value}:∀(a:List (Sl D)) (b:List Value) (i:Nat) (f:Nat->Value),d_ S M w g a b->(∀j v,b[j]? =some v->f (i+j)=v)->∀t,(look (.one (.lf .any)) (aig i a) t).Rel S M w g (f t)
 | [],_,_,_,_,_,_=>trivial
 | x::a,v::b,i,f,h,d,t=>by
  simp only[aig,look];split
  ·rename_i c;have c:=Qa c;subst c;have:=d 0 v rfl;simp only[Qba]at this;rw[this];exact h.1
  ·exact aaK a b (i+1) f h.2 (fun j u hj=>by have:=d (j+1) u qb2;grind) t
theorem QL:∀(a:List (Bk D)) (i l:Nat),look none (wM i a) l=if i<=l then a[l - i]? else none
 | [],i,l=>by simp[wM,look]
 | b::a,i,l=>by
  simp only[wM,look];by_cases h:l=i
  ·simp_all
  ·have:¬(l.beq i=true):=fun e=>h (Qa e)
   rw[vF this,QL a (i+1) l]
   grind
theorem J3 (a:List (Bk D)):look none (wM 0 a)=jC a:=by
 funext l;rw[QL];simp[jC]
theorem ER {args:List Value}{b:List (Sl D)}{a:List (Bk D)}(g:Hp S w0 N (jC a) g0 (· < a.length) w)(d:d_ S (aJ N (jC a) g0) w g0 b args)(h:b.length<=n):
  HoldsSt S w0 g0 N n (St.init b a) {tmps:=args.toArray++Array.replicate (n - args.toArray.size) undef,defers:=[]} w:=by
 have f:=d.length;have c:(St.init b a).blk=jC a:=J3 a;refine⟨g0,by rw[c];exact g.weaken fun l f=>by simp only[St.init];omega,fun t=> ?_,by simp;omega,rfl,More.refl _⟩;rw[c];refine aaK b args 0 (fun t=>(args.toArray++Array.replicate (n - args.toArray.size) undef).getD t undef) d (fun j v e=> ?_) t;have i:j < args.length:=(Qa8.1 e).1;have k:args[j]=v:=by grind
 simp only[JH,Array.getD];have:j < (args.toArray++Array.replicate (n - args.toArray.size) undef).size:=by simp;omega
 simp_all
def JV (b:Array Value):ResultVar->Sem Value
 | .tmp t=>pure (b.getD t undef)
 | .cell a t=>do loadVar t (<-asAddr (b.getD a undef))
theorem af7 {s:St D}{g:Nat->Option Value}{c:TypeId}{x:Sl D}{y:Value}{u:Sv D}(E:∀t c,T t=some c->TyOk P t c)(I:Hp S w0 N s.blk g (· < s.next) w)(L:x.Rel S (aJ N s.blk g) w g y)
  (h:aga T S s.blk c x=some u):∃ad v,y= .pointer (some ad)/\(loadVar c ad).run P w= .ok v w/\u.Rel S (aJ N s.blk g) w g v:=by
 unfold aga at h;split at h
 ·cases h
 ·rename_i e n sz o;obtain⟨X,te,V,Q,U,h0,G,C,vJ,m,Fa⟩:=uQ E o;have q:=uK m w;have K:=jG m w;split at h
  ·rename_i l i j z;obtain⟨b,Y,W,O,J⟩:=L;split at h
   ·rename_i A;obtain⟨rfl,rfl,rfl⟩:=aBG A;split at h
    ·rename_i e' d H;split at h
     ·rename_i f;simp only[iW]at f;have R:=Qa f.2;have f:=Qa f.1;injection h with h
      subst h;obtain⟨p,F,B,A⟩:=vZ (S:=S) (M:=aJ N s.blk g) (w:=w) (g:=g) (d:=d) (ad:=⟨b,0,none⟩) (sz:=z) n 0 (fun r B=>by
       obtain⟨p,h1,Z,h3⟩:=ut I H O (i:=0+r) ah z 0 ah
       grind [jY])
      have a:=run_loadCells (P:=P) (w:=w) ⟨b,0,none⟩ p 0 #[] (fun k u hk=>by grind);rw[F,<-G]at a;refine⟨⟨b,0,none⟩, .agg p.toArray,by rw[J];simp,?_,⟨_,rfl,B⟩⟩;simp[loadVar,q,C,K,loadCells,a]
     ·cases h
    ·cases h
   ·cases h
  ·cases h
theorem BB {s:St D}{a:Act}{g:Nat->Option Value}(f:∀t i,T t=some i->TyOk P t i)(p:Hp S w0 N s.blk g (· < s.next) w)(j:∀t,(s.slot t).Rel S (aJ N s.blk g) w g (a.tmps.getD t undef)):
  ∀(k:List ResultVar) (n:List (Sv D)),Cc T S s.slot s.blk k=some n->∃m,(k.mapM (JV a.tmps)).run P w= .ok m w/\fQ S (aJ N s.blk g) w g n m
 | [],n,h=>by
  injection h with h
  subst h;exact⟨[],rfl,trivial⟩
 | r::k,n,h=>by
  unfold Cc at h;split at h
  ·rename_i u A c z;injection h with h
   subst h;obtain⟨m,C,y⟩:=BB f p j k A z;have:∃v,(JV a.tmps r).run P w= .ok v w/\u.Rel S (aJ N s.blk g) w g v:=by
    cases r with
    | tmp t=>
     simp only[agt]at c;split at c
     ·rename_i x o;injection c with c
      subst c;have:=j t;rw[o]at this;exact⟨_,rfl,this⟩
     ·cases c
    | cell t i=>
     simp only[agt]at c;split at c
     ·rename_i x b o;injection c with c
      subst c;cases d:T i with
      | none=>simp[LH,d]at o
      | some F=>
       obtain⟨E,v,l,q,e⟩:=amU (f _ _ d) d p (j t) o trivial;exact⟨v,by simp only[JV,l,asAddr,Sem.run_bind,Sem.run_pure,Result.andThen_ok];exact q,e⟩
     ·obtain⟨E,v,l,q,e⟩:=af7 f p (j t) c;exact⟨v,by simp only[JV,l,asAddr,Sem.run_bind,Sem.run_pure,Result.andThen_ok];exact q,e⟩
   obtain⟨v,l,B⟩:=this;refine⟨v::m,?_,B,y⟩;simp_all
  ·cases h
theorem KF {M:Nat->Prop}{g:Nat->Option Value}{b:List (Nat×Sl D)}{a:List Value}(h:∀i v,a[i]? =some v->(aql b i).Rel S M w g v):∀(k i:Nat),i+k=a.length->fQ S M w g (Oc b i k) (a.drop i)
 | 0,i,e=>by
  rw[List.drop_of_length_le ah];trivial
 | k+1,i,e=>by
  have c:i < a.length:=by omega
  rw[Qa7 c];exact⟨h i _ (by simp[c]),KF h k (i+1) ah⟩
theorem Vy {M:Nat->Prop}{g:Nat->Option Value}:∀{b:List (Sv D)} {a:List Value},fQ S M w g b a->∀i,(apw b i).Rel S M w g (a.getD i undef)
 | [],[],_,i=>trivial
 | u::b,v::a,h,0=>h.1
 | u::b,v::a,h,i+1=>Vy h.2 i
theorem aqC (W:ShOk S){s:St D}{g:Nat->Option Value}{r:List (Sv D)}{H:List Value}(G:Hp S w0 N s.blk g (· < s.next) w)(A:fQ S (aJ N s.blk g) w g r H):
  ∃o,Hp S w0 N (abN S r s).2.blk o (· < (abN S r s).2.next) w/\fQ S (aJ N (abN S r s).2.blk o) w o (abN S r s).1 H/\More g o/\∃B,(abN S r s).2.blks=B++s.blks:=by
 have m:∃o,Hp S w0 N s.blk o (· < s.next) w/\fQ S (aJ N s.blk o) w o r H/\More g o/\∃B,s.blks=B++s.blks:=⟨g,G,A,More.refl _,[],rfl⟩;unfold abN;split
 ·rename_i q i j sz f;split
  ·rename_i e d hb;split
   ·rename_i h;split
    ·rename_i C Q;simp only[iW]at h;have c1:=Qa h.1;have c2:=Qa h.2;subst c1 c2;match H,A with
     | [v],⟨z,_⟩=>
      obtain⟨a,n,t,Z,z,hij,hjn,_⟩:=z;obtain⟨u,E,hm,U,own,I⟩:=G.bY q _ hb;rw[Z]at E;injection E with E
      subst E;have hn:n=S.len d:=by
       rcases own.2 with⟨p,h0⟩ | ⟨b,cp,M,p,_⟩
       ·injection p with _ F _;omega
       ·injection p
      obtain⟨V,O,s3⟩:=W.sub _ _ _ _ Q (qR _) ah;rw[Nat.sub_zero]at O s3;have x:(∀c,dB v=some c->dB (.slice a n t)=some c)/\w.ownsRow 0 e (S.size d) v j (U.take (j*S.size d)):=by
       have hle:j*S.size d<=S.len d*S.size d:=Qbb _ ah;have hx:(U.take (j*S.size d)).length=j*S.size d:=by rw[zU,own.1];omega
       rcases own.2 with⟨p,h0⟩ | ⟨b,cp,M,p,_,hh,h1,h2,h3,h4⟩
       ·injection p with F X P
        subst F X P;have hj:j=0:=by omega
        subst hj;refine⟨fun c h=>by rw[z]at h;simp[sliced,dB]at h,hx, .inl ⟨by rw[z];simp[sliced],rfl⟩⟩
       ·injection p with F X P
        subst F P;have J:v= .slice (some ⟨b,0,none⟩) j t:=by
         rw[z];unfold sliced;split<;>simp[Addr.add]
        refine⟨fun c h=>by rw[J]at h;exact h,hx, .inr ⟨b,t,M,J,qR _,hh,by omega,h2,h3,?_⟩⟩
        grind
      have hal:∀u,More g (upd g s.next (some u)):=by
       intro u T y R;have:T≠s.next:=fun e=>absurd (G.al T y R) (by subst e;simp)
       rw[bI _ _ _ _ this];exact R
      obtain⟨g1,g2,g3⟩:=G.move (l:=q) (fr:=s.next) (bk':= .row e C) (v:= .slice a n t) (v':=v) qce Z oG rfl rfl rfl (lH _) (fun _ _ _=>rfl) (fun c h=> .inl (x.1 c h))
       (fun M' hk _=>by
        refine⟨⟨fun c h=>hm.1 c (x.1 c h),by omega,(W.D7 _ _ _ _ Q).2⟩,_,by rw[V,O];exact x.2,fun k c Y L=> ?_⟩;rw[O]at Y;rw[V]at L⊢;obtain⟨y,hy,hda,hr⟩:=I k c ah L
        grind [Lf.Rel.keep,qf])
      have K:(⟨s.tmps,(s.next,some (.row e C))::(q,none)::s.blks,s.next+1⟩:St D).blk=upd (upd s.blk q none) s.next (some (.row e C)):=by
       funext l;simp only[St.blk,look,upd];simp_all
      refine⟨upd g s.next (some v),?_,?_,g3,[(s.next,some (.row e C)),(q,none)],rfl⟩
      ·show Hp S w0 N (St.blk _) _ _ w
       rw[K];exact g1.weaken fun l hl=>by
        grind
      ·show fQ S (aJ N (St.blk _) _) w _ _ _
       rw[K];exact⟨upd_same _ _ _,trivial⟩
    ·exact m
   ·exact m
  ·exact m
 ·exact m
theorem akS (hS:ShOk S){s:St D}{a:Act}{C:Func}{d:Shp D}{e:Nat}{f:List Nat}{k:List (Bk D)}{x:d.X}(hTy:∀t Y,T t=some Y->TyOk P t Y)(hRS:ShpOk S d)(hlt:∀l v,g0 l=some v->l < e)(M:k.length=e)(hrf:∀(l:Nat) (F:Bk D),k[l]? =some F->∀r∈F.refs,r < e)(z:∃p,s.blks=p++wM 0 k)(h:HoldsSt S w0 g0 N n s a w){e0:d.X}(q:(aro T S C.results.toList d e f s).run e0=some x):
  a.defers=[]/\∃v,(results C a.tmps).run P w= .ok v w/\∃B,More g0 B/\Hp S w0 N (qj (dM (d.its nos) (d.enc x) e).2.1 (fun l=>if l∈f then k[l]? else none)) B (fun _=>True) w/\
   (OW (dM (d.its nos) (d.enc x) e).1 C.results.toList.length).Rel S (aJ N (qj (dM (d.its nos) (d.enc x) e).2.1 (fun l=>if l∈f then k[l]? else none)) B) w B v:=by
 obtain⟨g,J,hs,hn,hdf,hm⟩:=h;unfold aro at q;split at q
 ·cases q
 rename_i E A;split at q
 ·cases q
 rename_i cs c;split at q
 ·cases q
 rename_i L O;injection q with q
 subst q;obtain⟨j,R,o⟩:=BB hTy J hs _ E A;have aIr:E.length=C.results.toList.length:=by
  clear R c O o;generalize C.results.toList=rs at A;induction rs generalizing E with
  | nil=>injection A with A;subst A;rfl
  | cons r rs ih=>
   grind [Cc]
 have V:j.length=C.results.toList.length:=by rw[<-o.length];exact aIr
 refine⟨hdf,if h:j.toArray.size=1 then j.toArray[0]else .tuple j.toArray,?_,?_⟩
 ·unfold results;rw[Sem.run_bind,Qcw,Sem.run_map];change (((Sem.run P (C.results.toList.mapM (JV a.tmps)) w).andThen fun a w'=>Result.ok a.toArray w').andThen _)=_;simp_all
 have two:∃(Q:List (Sv D)) (m:St D) (G:Nat->Option Value),Z8 (d.its nos) e f Q m=some cs/\Hp S w0 N m.blk G (· < m.next) w/\fQ S (aJ N m.blk G) w G Q j/\More g G/\∃p,m.blks=p++s.blks:=by
  unfold ah_ at c;split at c
  ·rename_i cs' h1;injection c with c
   subst c;exact⟨E,s,g,h1,J,o,More.refl _,[],rfl⟩
  grind [aqC]
 obtain⟨E,m,G,c,J,o,hm1,aJG,aJN⟩:=two;unfold Z8 at c;split at c
 ·cases c
 rename_i cs0 mv Z;split at c
 ·rename_i hc;injection c with c
  subst c;simp only[iW]at hc;obtain⟨⟨⟨c1,c2⟩,c3⟩,W⟩:=hc;have W:∀i∈f,i < e/\i∉(m.blks.take (m.blks.length - e)).map (·.1)/\i∉mv.map (·.1):=fun i hi=>by
   have:=Qa3.1 W i hi;simp only[iW,Qa5]at this;exact⟨by simp_all,Ff this.1.2,Ff this.2⟩
  obtain⟨aJF,hpre0⟩:=z;obtain⟨p,z⟩:∃p,m.blks=p++wM 0 k:=⟨aJG++aJF,by grind⟩;have hil:∀(k:List (Bk D)) (i:Nat),(wM i k).length=k.length:=fun k=>by
   induction k with
   | nil=>intro i;rfl
   | cons b r ih=>intro i;simp[wM,ih]
  have K:(m.blks.take (m.blks.length - e)).map (·.1)=p.map (·.1):=by
   rw[z];simp[hil,M]
  obtain⟨B,hp',hs',hg'⟩:=abB (slot:=apw E) (val:=fun t=>j.getD t undef) (nx:=e) (zZ:=fun _=> .one (.lf .any)) (Dx:=fun l=>if l∈f then k[l]? else none) hS J (Vy o) Z (hRS.ok _ _ O) (Prod.eta _).symm (JS c1)
   (fun l H=>⟨by have:=Qa3.1 c3 l H;simp_all,fun hm'=>by
    grind [Ff]⟩) (fun _=> .inl rfl) (fun l F I=>by
    split at I
    ·rename_i X;obtain⟨k1,k2,k3⟩:=W l X;refine⟨k1,?_,hrf l F I,k3⟩;rw[K]at k2;show look none m.blks l=some F
     rw[z,pF,vF k2,J3];exact I
    ·cases I)
  refine⟨B,fun l v H=>(hg' l (hlt l v H)).trans (hm1 l v (hm l v H)),hp'.weaken fun _ _=>trivial,?_⟩;have one:∀i v,j[i]? =some v->(aql (dM (d.its nos) (d.enc L) e).1 i).Rel S (aJ N (qj (dM (d.its nos) (d.enc L) e).2.1 (fun l=>if l∈f then k[l]? else none)) B) w B v:=by
   intro i v hv;have:=hs' i;simp only[List.getD,hv,Qde]at this;unfold QK at this;unfold aql;split at this
   ·rename_i y U;rw[U];cases y with
    | one u=>exact this
    | tup E=>trivial
   ·rename_i U;rw[U];trivial
  rw[<-V];by_cases h1:j.length=1
  ·rw[dif_pos qcp];cases j with
   | nil=>simp at h1
   | cons v j=>
    cases j with
    | cons _ _=>simp at h1
    | nil=>exact one 0 v rfl
  ·rw[dif_neg qcp];have X:OW (dM (d.its nos) (d.enc L) e).1 j.length= .tup (Oc (dM (d.its nos) (d.enc L) e).1 0 j.length):=by
    unfold OW
    grind
   rw[X];exact⟨j,rfl,by simpa using KF one j.length 0 ah⟩
 ·cases c
theorem IC.rel {M:Nat->Prop}{g:Nat->Option Value}:∀{a c:List (Lf D)} {b:List Value},IC S a c->aN S M w g a b->aN S M w g c b
 | [],[],[],_,_=>trivial
 | _::_,_::_,_::_,h,d=>⟨Lf.Le.rel h.1 d.1,IC.rel h.2 d.2⟩
theorem auU.rel {M:Nat->Prop}{g:Nat->Option Value}{x y:Sv D}{v:Value}(h:auU S x y)(a:x.Rel S M w g v):y.Rel S M w g v:=by
 cases x with
 | lf x=>
  cases y with
  | lf y=>exact Lf.Le.rel h a
  | agg b=>exact h.elim
 | agg d=>
  cases y with
  | lf y=>exact h.elim
  | agg b=>obtain⟨c,e,a⟩:=a;exact⟨c,e,IC.rel h a⟩
theorem Xe.rel {M:Nat->Prop}{g:Nat->Option Value}:∀{a c:List (Sl D)} {b:List Value},Xe S a c->d_ S M w g a b->d_ S M w g c b
 | [],[],[],_,_=>trivial
 | .one x::a, .one y::c,v::b,h,d=>⟨auU.rel h.1 d.1,Xe.rel h.2 d.2⟩
theorem UQ.hot {x y:Bk D}(h:UQ S x y):hot (some x)=hot (some y):=by cases x<;>cases y<;>first | rfl | exact h.elim
theorem UQ.ok {M:Nat->Prop}{g:Nat->Option Value}{B:Bs}{x y:Bk D}{v:Value}(h:UQ S x y)(c:qN S M w g B x v):qN S M w g B y v:=by
 cases x with
 | cells j=>
  cases y with
  | cells k=>obtain⟨b,n,t,o,l,m,i⟩:=c;exact⟨b,n,t,o,l,m,IC.rel h i⟩
  | _=>exact h.elim
 | row e d=>
  cases y with
  | row u f=>obtain⟨rfl,rfl⟩:=h;exact c
  | _=>exact h.elim
 | ve d=>
  cases y with
  | ve f=>have h:d=f:=h;grind
  | _=>exact h.elim
 | iter s p=>
  cases y with
  | iter r q=>obtain⟨rfl,rfl⟩:=h;exact c
  | _=>exact h.elim
 | map a=>
  cases y with
  | map b=>have h:a=b:=h;grind
  | _=>exact h.elim
 | tc t j=>
  cases y with
  | tc z k=>obtain⟨rfl,rfl⟩:=h;exact c
  | _=>exact h.elim
theorem DY.at:∀{a b:List (Bk D)},DY S a b->a.length=b.length/\∀(i:Nat) (y:Bk D),b[i]? =some y->∃x,a[i]? =some x/\UQ S x y
 | [],[],_=>⟨rfl,fun i y h=>by simp at h⟩
 | x::a,y::b,h=>by
  obtain⟨d,e⟩:=DY.at h.2;refine⟨by simp[d],fun i f c=> ?_⟩;cases i with
  | zero=>simp at c;subst c;exact⟨x,rfl,h.1⟩
  | succ i=>grind
theorem DY.hp {g:Nat->Option Value}{i:Nat->Prop}{c d:List (Bk D)}(h:DY S c d)(a:Hp S w0 N (jC c) g i w):Hp S w0 N (jC d) g i w/\aJ N (jC d) g=aJ N (jC c) g:=by
 obtain⟨t,f⟩:=h.at;have k:∀l,hot (jC d l)=hot (jC c l):=fun l=>by
  unfold jC
  grind [UQ.hot]
 have e:aJ N (jC d) g=aJ N (jC c) g:=by
  funext b;simp only[aJ,k]
 refine⟨⟨a.below,a.hN,fun l n p=> ?_,fun l q v o b y u=>a.sep l q v o b qP qP,a.al,a.refs,by rw[e];exact a.gl⟩,e⟩;obtain⟨x,s,m⟩:=f l n p;obtain⟨v,r,j⟩:=a.bY l x s;exact⟨v,r,by rw[e];exact m.ok j⟩
theorem IC.eq:∀{c d:List (Lf D)},IC S c d->c.all Lf.anj=true->d=c
 | [],[],_,_=>rfl
 | x::c,y::d,h,a=>by
  simp only[Qdh,iW]at a;have e:y=x:=by
   rcases h.1 with h | ⟨h,_⟩ | ⟨b,h,_⟩ | ⟨_,_,_,_,h,_⟩ | ⟨_,h,_⟩
   ·exact h.symm
   ·rw[h]at a;simp[Lf.anj]at a
   ·rw[h]at a;simp[Lf.anj]at a
   ·rw[h]at a;simp[Lf.anj]at a
   ·rw[h]at a;simp[Lf.anj]at a
  rw[e,IC.eq h.2 a.2]
theorem UQ.eq {x y:Bk D}(h:UQ S x y)(g:asn x=true):y=x:=by
 cases x with
 | cells f=>
  cases y with
  | cells i=>rw[IC.eq h g]
  | _=>exact h.elim
 | row e d=>
  cases y with
  | row j c=>obtain⟨rfl,rfl⟩:=h;rfl
  | _=>exact h.elim
 | ve d=>
  cases y with
  | ve c=>have h:d=c:=h;rw[h]
  | _=>exact h.elim
 | iter s p=>
  cases y with
  | iter m l=>obtain⟨rfl,rfl⟩:=h;rfl
  | _=>exact h.elim
 | map a=>
  cases y with
  | map b=>have h:a=b:=h;rw[h]
  | _=>exact h.elim
 | tc t f=>
  cases y with
  | tc k i=>obtain⟨rfl,rfl⟩:=h;rfl
  | _=>exact h.elim
theorem ZV (a b:List (Nat×Bk D))(l:Nat):jD (a++b) l=match jD a l with
  | some c=>some c
  | none=>jD b l:=by
 induction a with
 | nil=>rfl
 | cons p r d=>
  grind [jD]
theorem Tz {bY enc:List (Bk D)}{l:Nat}:∀{keep:List Nat},jD (WZ bY enc keep) l=if l∈keep/\tq bY l=false then enc[l]? else none
 | []=>by rfl
 | k::r=>by
  unfold WZ;have c:=Tz (bY:=bY) (enc:=enc) (l:=l) (keep:=r);by_cases b:k=l
  ·subst b;cases i:tq bY k with
   | true=>grind
   | false=>
    cases g:enc[k]? with
    | none=>grind
    | some h=>simp[jD,g]
  ·have a:¬l=k:=fun e=>b e.symm
   have d:Nat.beq k l=false:=by
    cases e:Nat.beq k l with
    | false=>rfl
    | true=>simp_all
   have f:(l∈k::r/\tq bY l=false) ↔ (l∈r/\tq bY l=false):=by simp[a]
   split
   ·simp only[jD,d,c,f];rfl
   grind
theorem aoN {b d:List (Bk D)}{c:List (Nat×Bk D)}{a:List Nat}(h:DY S b d):yC (c++WZ b d a) (ajT b a) b=qj c (fun l=>if l∈a then d[l]? else none):=by
 funext l;obtain⟨o,j⟩:=h.at;unfold yC qj;rw[ZV];cases p:jD c l with
 | some n=>rfl
 | none=>
  dsimp only;rw[Tz];have f:ql l (ajT b a)=decide (l∈a/\tq b l=true):=by
   rw[Qc4,fB];simp[ajT]
  rw[f];by_cases i:l∈a
  ·cases g:tq b l with
   | false=>
    grind
   | true=>
    simp only[i,true_and,if_true,Bool.true_eq_false,if_false,decide_true];cases m:d[l]? with
    | none=>
     grind
    | some y=>
     obtain⟨x,e,k⟩:=j l y m;rw[e];unfold tq at g;rw[e]at g;rw[k.eq g]
  ·simp[i]
theorem Hp.akx {d:List (Bk D)}{g:Nat->Option Value}(h:Hp S w0 N (jC d) g (· < d.length) w):∀(l:Nat) (a:Bk D),d[l]? =some a->∀r∈a.refs,r < d.length:=fun l a j r i=>by
 obtain⟨v,m,e⟩:=h.bY l a j;cases a with
 | cells cs=>
  obtain⟨b,k,t,_,_,_,c⟩:=e;obtain⟨u,f⟩:=aN.iK c r i;exact h.al r u f
 | tc t cs=>
  obtain⟨b,k,_,_,_,c⟩:=e;obtain⟨u,f⟩:=aN.iK c r i;exact h.al r u f
 | _=>simp[Bk.refs]at i
theorem aCP {f:FuncId}{m:Func}{c:Code}{n:Nat}{I:List ResultVar}{J:Nat->Option (Shp D)}(Q:P.follows .mixedOrders=true)(C:∀t M,T t=some M->TyOk P t M)(hΓ:∀f ct,Γ f=some ct->CtOk P S f ct)(hS:ShOk S)(hJ:∀i sh,J i=some sh->ShpOk S sh)
  (hf:P.funcs[f]? =some m) (Y:m.body=some c) (hnm:(m.name== "runtime.NumGoroutine")=false) (hn:m.ntmps=n) (V:m.results.toList=I) (hdr:drawsOk c=true)
  {h:sU D} {b:Shp D} {k:Nat} {d:List Nat} (o:MF S h k n) (Z:ShpOk S b) (B:h.A->Option Prop) (q:h.A->b.X)
  (E:∀a,nG (B a)->(evT T S Γ n J c b.X (St.init (h.enc a).1 (h.enc a).2) (aGA T S I b k d)).run (q a)=some (q a)):CtOk P S f (ctN h b I.length d B q):=by
 subst hn V;refine⟨fun args w=> ?_,fun X N g w args nC bY p r post kp hp K j H=> ?_⟩
 ·have G:¬m.name= "runtime.NumGoroutine" :=by simpa using hnm
  simp[callFunc,hf,G,Y]
 ·unfold ctN at j;split at j
  ·cases j
  rename_i a ha;injection j with j
  injection j with q1 j
  injection j with q2 j
  injection j with q3 q4
  subst q1 q2 q3 q4;obtain⟨l1,x⟩:=o.ok nC bY a ha;have s:bY.length=k:=by rw[x.at.1];exact o.eU a
  obtain⟨hp2,hM⟩:=x.hp hp;have A:=l1.rel K;rw[<-hM]at A;have hlt:∀l v,g l=some v->l < k:=fun l v F=>by rw[<-s];exact hp.al l v F
  have y:Hp S ⟨w,X⟩ N (jC (h.enc a).2) g (· < (h.enc a).2.length) w:=hp2.weaken fun l F=>by rw[<-x.at.1];exact F
  rw[s,aoN x];refine calls_of_wp hf Y (evT_sound hJ Q C hΓ hS (w0:=⟨w,X⟩) (N:=N) c _ _ _ _ _ _ _ w hdr (E a (AL.1 H)) (ER y A (o.args a)) fun e s' W w' h' O _ u=> ?_);have R:∀(l:Nat) (L:Bk D),(h.enc a).2[l]? =some L->∀r∈L.refs,r < k:=o.eU a▸y.akx;have z:(aro T S m.results.toList b k d s').run (q a)=some (q a)->W.defers=[]/\∃v,(results m W.tmps).run P w'= .ok v w'/\∃U g',Ending.returned v= .returned U/\More g g'/\Hp S ⟨w,X⟩ N (qj (dM (b.its nos) (b.enc (q a)) k).2.1 (fun l=>if l∈d then(h.enc a).2[l]? else none)) g' (fun _=>True) w'/\
    (OW (dM (b.its nos) (b.enc (q a)) k).1 m.results.toList.length).Rel S (aJ N (qj (dM (b.its nos) (b.enc (q a)) k).2.1 (fun l=>if l∈d then(h.enc a).2[l]? else none)) g') w' g' U:=by
   intro u;obtain⟨h1,v,h2,g',h3,h4,h5⟩:=akS hS C Z hlt (o.eU a) R O h' u
   grind
  cases e with
  | normal=>exact z u
  | ret=>exact z u
  | exit i=>cases u
def aDf {D:Type}(a b:Ct D):Ct D:=fun args c=>zl (a args c) (b args c)
theorem axV {f:FuncId}{a b:Ct D}(n:CtOk P S f a)(m:CtOk P S f b):CtOk P S f (aDf a b):=by
 refine⟨n.enters,fun X N g w args l k p r j e o d c i=> ?_⟩;unfold aDf at c;cases h:a l k with
 | some x=>
  rw[h]at c;injection c with c
  grind [CtOk.calls]
 | none=>
  rw[h]at c;exact m.calls X N g w args l k p r j e o d c i
end
end Go.Vc
