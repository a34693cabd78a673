/- Own engine: Vef, Vde. -/
import Derived.Test.YtjojefbphdmnjaaGreatDoorEng12
set_option linter.unusedVariables false
set_option linter.unusedSimpArgs false
namespace Go.Vc
open Go.RowKit
section
variable {α:Type}
end
section
variable {α:Type}
end
section
variable {D:Type}
end
section
variable {D:Type}{P:Program}{S:Sh D}{T:TypeId->Option Ty}{Γ:FuncId->Option (Ct D)}{N:Nat->Prop}{w0:Bs}{g0:Nat->Option Value}{n m:Nat}
end
end Go.Vc
namespace Go.Vc
open Go.RowKit
section
variable {D:Type}
def aiu (a:Nat->Option (Bk D))(l:Nat):List Nat:=
 match a l with
 | some b=>b.refs
 | none=>[]
def Oj (ids:List Nat):Nat->Bool
 | 0=>true
 | n+1=>(match ids[n]? with
  | some l=>Nat.beq l n
  | none=>false) && Oj ids n
def atA (a:List Nat)(b i:Nat):Bool:=Nat.blt i b && !ql i a
def Gh (a:Nat->Option (Bk D))(l:Nat):Option (Bk D):=
 match a l with
 | some b=>if b.refs.all fun r=>(a r).isSome then some b else none
 | none=>none
def anw (a:Nat->Option (Bk D)):Nat->Option (Bk D):=Gh (Gh a)
def U0 (b:Nat->Option (Bk D))(ids a:List Nat)(c:Nat):List Nat->Nat->List (Nat×Bk D)
 | [],_=>[]
 | l::r,i=>(match atA a c i,b l with
  | false,some d=>(i,d.ren (gZ ids))::U0 b ids a c r (i+1)
  | _,_=>U0 b ids a c r (i+1))
def azL (b:Nat->Option (Bk D))(a:List Nat)(c:Nat):List Nat:=(List.range c).filter fun i=>atA a c i && (b i).isSome
def aFY (us:List (Sv D)):Sl D:=
 match us with
 | [u]=> .one u
 | us=> .tup us
abbrev alk (D:Type):=Sl D×List (Nat×Bk D)×List Nat
def apO (T:TypeId->Option Ty)(S:Sh D)(g:List ResultVar)(a:Nat)(f:Nat->Sl D)(b:Nat->Option (Bk D))(d:List (Nat×Option (Bk D))):Option (alk D):=
 match Cc T S f b g with
 | none=>none
 | some e=>
  let ids:=reach b 5 (mi (List.range a) (e.flatMap Sv.refs))
  let c:=(d.take (d.length - a)).map (·.1)
  if Oj ids a && allIn ids (e.flatMap Sv.refs) && allIn ids (ids.flatMap (aiu b))then
   some (aFY (e.map (Sv.ren (gZ ids))),U0 (anw b) ids c a ids 0,azL (anw b) c a)
  else none
def axb (T:TypeId->Option Ty)(S:Sh D)(a:List ResultVar)(b:Nat)(s:St D):Tr D (alk D):=
 match apO T S a b s.slot s.blk s.blks with
 | none=> .halt 605 s
 | some r=> .ret r
theorem aaw {T:TypeId->Option Ty}{S:Sh D}{b:List ResultVar}{a:Nat}{s:St D}{c r:alk D}(h:(axb T S b a s).run c=some r):apO T S b a s.slot s.blk s.blks=some r:=by
 unfold axb at h;split at h
 ·cases h
 ·rename_i e d;injection h with h;rw[d,h]
def az_ (T:TypeId->Option Ty)(S:Sh D)(a:List ResultVar)(b:Nat):Ex->St D->Tr D (alk D)
 | .normal,s=>axb T S a b s
 | .ret,s=>axb T S a b s
 | .exit _,s=> .halt 604 s
end
section
variable {D:Type}{P:Program}{S:Sh D}{T:TypeId->Option Ty}{Γ:FuncId->Option (Ct D)}{N:Nat->Prop}{w w':World}{w0:Bs}{g0:Nat->Option Value}{n:Nat}{al:Nat->Prop}{g:Nat->Option Value}{blk:Nat->Option (Bk D)}{ids:List Nat}
theorem Qj:∀{n:Nat},Oj ids n=true->∀i,i < n->ids[i]? =some i
 | 0,_,i,h=>by omega
 | n+1,h,i,c=>by
  simp only[Oj,iW]at h;by_cases a:i=n
  ·subst a;have:=h.1;split at this
   ·rename_i l b;rw[b,Qa this]
   ·cases this
  ·exact Qj h.2 i ah
theorem ajy {f:Nat->Nat}:∀{l:List Nat},(∀x∈l,f x=x)->l.map f=l
 | [],_=>rfl
 | x::r,h=>by rw[MQ,h x oG,ajy fun y a=>h y (by simp[a])]
theorem Lf.Uj {f:Nat->Nat}{x:Lf D}(h:∀l∈x.refs,f l=l):x.ren f=x:=by
 cases x<;>simp only[Lf.ren]<;>simp only[Lf.refs,Be,forall_eq]at h<;>first | rw[h] | (rw[ajy h]) | rfl
theorem Ej {f:Nat->Nat}:∀{a:List (Lf D)},(∀l∈a.flatMap Lf.refs,f l=l)->a.map (Lf.ren f)=a
 | [],_=>rfl
 | x::a,h=>by
  rw[MQ,Lf.Uj fun l hl=>h l qcl,Ej fun l hl=>h l qP]
theorem Bk.Uj {f:Nat->Nat}{a:Bk D}(h:∀l∈a.refs,f l=l):a.ren f=a:=by
 cases a with
 | cells cs=>simp only[Bk.ren];rw[Ej h]
 | tc t cs=>simp only[Bk.ren];rw[Ej h]
 | _=>rfl
theorem QF {c:List Nat}{f:Nat}:∀(r:List Nat) (i k:Nat) (b:Bk D),jD (U0 blk ids c f r i) k=some b->∃l a,r[k - i]? =some l/\i<=k/\blk l=some a/\b=a.ren (gZ ids)
 | [],i,k,b,h=>by cases h
 | l::r,i,k,b,h=>by
  have next:jD (U0 blk ids c f r (i+1)) k=some b->∃e a,(l::r)[k - i]? =some e/\i<=k/\blk e=some a/\b=a.ren (gZ ids):=fun h=>by
   obtain⟨e,a,m,j,n,p⟩:=QF r (i+1) k b h
   grind
  unfold U0 at h;split at h
  ·rename_i a o g;unfold jD at h;split at h
   ·rename_i d;have d:=Qa d;subst d;injection h with h
    exact⟨l,a,by simp,lH _,g,h.symm⟩
   ·exact next h
  ·exact next h
theorem VT {l:Nat}{a:Bk D}(h:Gh blk l=some a):blk l=some a:=by
 unfold Gh at h
 grind
theorem alF {l:Nat}{a:Bk D}(h:anw blk l=some a):blk l=some a:=VT (VT h)
theorem RQ {d:Nat->Option (Bk D)}(h:∀i a,d i=some a->∃l c,ids[i]? =some l/\blk l=some c/\a=c.ren (gZ ids)):∀b,aJ N d (gc g ids) b->aJ N blk g b:=by
 rintro b (m | ⟨i,v,n,k,o⟩)
 ·exact .inl m
 ·obtain⟨a,j,q⟩:=iI n;obtain⟨l,c,p,e,rfl⟩:=h i a j;refine .inr ⟨l,v,?_,by simpa[gc,p]using k,o⟩;rw[e];have:=Io (f:=gZ ids) (some c)
  grind
theorem Hp.named (h:Hp S w0 N blk g al w){p:Nat->Option (Bk D)}(F:ids.Nodup)(c:∀i d,p i=some d->∃l a,ids[i]? =some l/\blk l=some a/\d=a.ren (gZ ids))(H:∀l∈ids,∀d,blk l=some d->∀r∈d.refs,r∈ids):
  Hp S w0 N p (gc g ids) (fun _=>True) w:=by
 have R:∀a:Bk D,hot (some (a.ren (gZ ids)))=true->hot (some a)=true:=fun a J=>by
  have:=Io (f:=gZ ids) (some a)
  grind
 refine⟨h.below,h.hN,?_,?_,fun _ _ _=>trivial,?_,h.gl.mono fun b m=>RQ c b m⟩
 ·intro i d e;obtain⟨l,a,k,o,rfl⟩:=c i d e;obtain⟨v,B,G⟩:=h.bY l a o;refine⟨v,by simp[gc,k,B],G.ren (fun A n u T=> ?_) (fun _ b m=>RQ c b m) (fun J b m=>(h.mine qP B m).2)⟩
  grind [X4]
 ·intro i j I K b e L E z C y;obtain⟨t,q,P⟩:=iI e;obtain⟨s,x,M⟩:=iI L;obtain⟨l,a,k,o,rfl⟩:=c i t q;obtain⟨A,Q,n,O,rfl⟩:=c j s x;have:=h.sep l A I K b qP qP (by simpa[gc,k]using E) (by simpa[gc,n]using z) C y;subst this;rw[<-AX F k,<-AX F n]
 ·intro i v e;simp only[gc]at e;cases k:ids[i]? with
  | none=>grind
  | some l=>rw[k]at e;exact h.refs l v e
theorem atb {M:Nat->Prop}{b:List (Sv D)}{a:List Value}(h:fQ S M w g b a):(aFY b).Rel S M w g (if h:a.toArray.size=1 then a.toArray[0]else .tuple a.toArray):=by
 match b,a,h with
 | [],[],h=>exact⟨[],rfl,trivial⟩
 | [u],[v],h=>exact h.1
 | u::d::b,v::c::a,h=>
  have:¬(v::c::a).toArray.size=1:=by simp
  rw[dif_neg this];exact⟨v::c::a,rfl,h⟩
theorem agZ {s:St D}{a:Act}{I:Func}{c:List (Bk D)}{r:Sl D}{k:List (Nat×Bk D)}{j:List Nat}(Z:∀t L,T t=some L->TyOk P t L)(aa:∀l v,g0 l=some v->l < c.length)(O:∀(l:Nat) (d:Bk D),c[l]? =some d->∀r∈d.refs,r < c.length)
  (o:∃p,s.blks=p++wM 0 c) (h:HoldsSt S w0 g0 N n s a w) (e:apO T S I.results.toList c.length s.slot s.blk s.blks=some (r,k,j)):
  a.defers=[]/\∃v,(results I a.tmps).run P w= .ok v w/\∃z,More g0 z/\Hp S w0 N (yC k j c) z (fun _=>True) w/\r.Rel S (aJ N (yC k j c) z) w z v:=by
 obtain⟨g,U,hs,hn,X,hm⟩:=h;unfold apO at e;split at e
 ·cases e
 rename_i W R;obtain⟨J,ac,K⟩:=BB Z U hs _ W R;dsimp only at e;split at e
 ·rename_i Q;injection e with e
  injection e with q1 e
  injection e with q2 q3
  simp only[iW]at Q;obtain⟨⟨x,F⟩,E⟩:=Q;generalize aIp:reach s.blk 5 (mi (List.range c.length) (W.flatMap Sv.refs))=ids at*;generalize ab:(s.blks.take (s.blks.length - c.length)).map (·.1)=G at*;have C:ids.Nodup:=by
   grind [nV,A7]
  have x:=Qj x;have F:=pM F;have E:=pM E;have A:∀l∈ids,∀d,s.blk l=some d->∀r∈d.refs,r∈ids:=fun l m d H r e=>E r (Qa1.2 ⟨l,m,by simp only[aiu,H];exact e⟩)
  obtain⟨p,o⟩:=o;have hil:∀(c:List (Bk D)) (i:Nat),(wM i c).length=c.length:=fun c=>by
   induction c with
   | nil=>intro i;rfl
   | cons b r ih=>intro i;simp[wM,ih]
  have hk:G=p.map (·.1):=by
   simp_all
  have B:∀i d,yC k j c i=some d->∃l V,ids[i]? =some l/\s.blk l=some V/\d=V.ren (gZ ids):=by
   intro i d q;unfold yC at q;split at q
   ·grind [alF,QF]
   ·split at q
    ·rename_i f;have f:=fB.1 f;rw[<-q3]at f;unfold azL at f;obtain⟨m1,y⟩:=Qby.1 f;have y:=(Qdi.1 y).1;simp only[atA,iW,Qa5]at y;have M:i < c.length:=by grind
     have Y:i∉p.map (·.1):=by rw[<-hk];exact Ff y.2
     refine⟨i,d,x i M,?_,(Bk.Uj fun l m=> ?_).symm⟩
     ·show look none s.blks i=some d
      rw[o,pF,vF Y,J3];exact q
     ·exact AX C (x l (O i d q l m))
    ·cases q
  refine⟨X,if h:J.toArray.size=1 then J.toArray[0]else .tuple J.toArray,?_,gc g ids,fun l v m=> ?_,U.named C B A,?_⟩
  ·unfold results;rw[Sem.run_bind,Qcw,Sem.run_map];change (((Sem.run P (I.results.toList.mapM (JV a.tmps)) w).andThen fun a w'=>Result.ok a.toArray w').andThen _)=_;simp_all
  ·simp only[gc,x l (aa l v m),Option.bind_some];exact hm l v m
  ·rw[<-q1];refine atb (K.ren (fun l m u hu=> ?_) fun _ b H=>RQ B b H);rw[X4 (F l m)];exact hu
 ·cases e
theorem ace {f:Func}{X:Nat->Prop}{s:St D}{a:Act}{i:World}{d:List (Bk D)}{r:Sl D}{c:List (Nat×Bk D)}{b:List Nat}(p:∀t j,T t=some j->TyOk P t j)(m:Hp S ⟨w,X⟩ N (jC d) g (· < d.length) w)(k:∃o,s.blks=o++wM 0 d)(h:HoldsSt S ⟨w,X⟩ g N n s a i)
  (q:apO T S f.results.toList d.length s.slot s.blk s.blks=some (r,c,b)):a.defers=[]/\∃v,(results f a.tmps).run P i= .ok v i/\∃l e,Ending.returned v= .returned l/\More g e/\Hp S ⟨w,X⟩ N (yC c b d) e (fun _=>True) i/\r.Rel S (aJ N (yC c b d) e) i e l:=by
 obtain⟨A,v,x,e,y,u,z⟩:=agZ p m.al m.akx k h q
 grind
end
end Go.Vc
