/- Own engine: Vef, Vde. -/
import Derived.Test.YtgdmjfkdbfafjaaGreatDoorEng12
set_option linter.unusedVariables false
set_option linter.unusedSimpArgs false
namespace Go.Vc
open Go.RowKit
section
variable {α:Type}
end
section
variable {D:Type}
end
section
variable {D:Type}{S:Sh D}{T:TypeId->Option Ty}{Γ:FuncId->Option (Ct D)}
end
end Go.Vc
namespace Go.Vc
open Go.RowKit
section
variable {D:Type}
def amv (a:Nat->Option (Bk D))(l:Nat):List Nat:=
 match a l with
 | some b=>b.refs
 | none=>[]
def Ue (ids:List Nat):Nat->Bool
 | 0=>true
 | n+1=>(match ids[n]? with
  | some l=>Nat.beq l n
  | none=>false) && Ue ids n
def axM (a:List Nat)(b i:Nat):Bool:=Nat.blt i b && !uZ i a
def K_ (a:Nat->Option (Bk D))(l:Nat):Option (Bk D):=
 match a l with
 | some b=>if b.refs.all fun r=>(a r).isSome then some b else none
 | none=>none
def asq (a:Nat->Option (Bk D)):Nat->Option (Bk D):=K_ (K_ a)
def aah (b:Nat->Option (Bk D))(ids a:List Nat)(c:Nat):List Nat->Nat->List (Nat×Bk D)
 | [],_=>[]
 | l::r,i=>(match axM a c i,b l with
  | false,some d=>(i,d.ren (jG ids))::aah b ids a c r (i+1)
  | _,_=>aah b ids a c r (i+1))
def aE4 (c:Nat->Option (Bk D))(a:List Nat)(b:Nat):List Nat:=(List.range b).filter fun i=>axM a b i && (c i).isSome
def aK3 (us:List (Sv D)):Sl D:=
 match us with
 | [u]=> .one u
 | us=> .x8 us
abbrev as6 (D:Type):=Sl D×List (Nat×Bk D)×List Nat
def apT (T:TypeId->Option Ty)(S:Sh D)(d:List ResultVar)(b:Nat)(s:St D):Tr D (as6 D):=
 match H_ T S s d with
 | none=> .halt 603 s
 | some c=>
  let ids:=reach s.blk 5 (nM (List.range b) (c.flatMap Sv.refs))
  let a:=(s.blks.take (s.blks.length - b)).map (·.1)
  if Ue ids b && allIn ids (c.flatMap Sv.refs) && allIn ids (ids.flatMap (amv s.blk))then
   .ret (aK3 (c.map (Sv.ren (jG ids))),aah (asq s.blk) ids a b ids 0,aE4 (asq s.blk) a b)
  else .halt 605 s
def aEL (T:TypeId->Option Ty)(S:Sh D)(a:List ResultVar)(b:Nat):Ex->St D->Tr D (as6 D)
 | .normal,s=>apT T S a b s
 | .ret,s=>apT T S a b s
 | .exit _,s=> .halt 604 s
end
section
variable {D:Type}{P:Program}{S:Sh D}{T:TypeId->Option Ty}{Γ:FuncId->Option (Ct D)}{N:Nat->Prop}{w w':World}{w0:Bs}{g0:Nat->Option Value}{n:Nat}{al:Nat->Prop}{g:Nat->Option Value}{blk:Nat->Option (Bk D)}{ids:List Nat}
theorem V_:∀{n:Nat},Ue ids n=true->∀i,i < n->ids[i]? =some i
 | 0,_,i,h=>by omega
 | n+1,h,i,c=>by
  simp only[Ue,kW]at h;by_cases a:i=n
  ·subst a;have:=h.1;split at this
   ·rename_i l b;rw[b,Qa this]
   ·cases this
  ·exact V_ h.2 i au
theorem amq {f:Nat->Nat}:∀{l:List Nat},(∀x∈l,f x=x)->l.map f=l
 | [],_=>rfl
 | x::r,h=>by rw[Kq,h x qb,amq fun y hy=>h y qcy]
theorem Lf.Za {f:Nat->Nat}{x:Lf D}(h:∀l∈x.refs,f l=l):x.ren f=x:=by
 cases x<;>simp only[Lf.ren]<;>simp only[Lf.refs,Ko,forall_eq]at h<;>first | rw[h] | (rw[amq h]) | rfl
theorem Jq {f:Nat->Nat}:∀{a:List (Lf D)},(∀l∈a.flatMap Lf.refs,f l=l)->a.map (Lf.ren f)=a
 | [],_=>rfl
 | x::a,h=>by
  rw[Kq,Lf.Za fun l hl=>h l qcp,Jq fun l hl=>h l rf]
theorem Bk.Za {f:Nat->Nat}{a:Bk D}(h:∀l∈a.refs,f l=l):a.ren f=a:=by
 cases a with
 | cells cs=>simp only[Bk.ren];rw[Jq h]
 | tc t cs=>simp only[Bk.ren];rw[Jq h]
 | _=>rfl
theorem V9 {c:List Nat}{f:Nat}:∀(r:List Nat) (i k:Nat) (b:Bk D),lW (aah blk ids c f r i) k=some b->∃l a,r[k - i]? =some l/\i<=k/\blk l=some a/\b=a.ren (jG ids)
 | [],i,k,b,h=>by cases h
 | l::r,i,k,b,h=>by
  have next:lW (aah blk ids c f r (i+1)) k=some b->∃e a,(l::r)[k - i]? =some e/\i<=k/\blk e=some a/\b=a.ren (jG ids):=fun h=>by
   obtain⟨e,a,o,p,n,j⟩:=V9 r (i+1) k b h
   grind
  unfold aah at h;split at h
  ·rename_i a m g;unfold lW at h;split at h
   ·rename_i d;have d:=Qa d;subst d;injection h with h
    exact⟨l,a,by simp,nO _,g,h.symm⟩
   ·exact next h
  ·exact next h
theorem abw {l:Nat}{a:Bk D}(h:K_ blk l=some a):blk l=some a:=by
 unfold K_ at h
 grind
theorem arY {l:Nat}{a:Bk D}(h:asq blk l=some a):blk l=some a:=abw (abw h)
theorem VM {d:Nat->Option (Bk D)}(h:∀i a,d i=some a->∃l c,ids[i]? =some l/\blk l=some c/\a=c.ren (jG ids)):∀b,bi N d (gc g ids) b->bi N blk g b:=by
 rintro b (o | ⟨i,v,n,p,m⟩)
 ·exact .inl o
 ·obtain⟨a,e,q⟩:=lg n;obtain⟨l,c,k,j,rfl⟩:=h i a e;refine .inr ⟨l,v,?_,by simpa[gc,k]using p,m⟩;rw[j];have:=KD (f:=jG ids) (some c)
  grind
theorem Hp.named (h:Hp S w0 N blk g al w){q:Nat->Option (Bk D)}(B:ids.Nodup)(c:∀i k,q i=some k->∃l a,ids[i]? =some l/\blk l=some a/\k=a.ren (jG ids))(p:∀l∈ids,∀k,blk l=some k->∀r∈k.refs,r∈ids):
  Hp S w0 N q (gc g ids) (fun _=>True) w:=by
 have R:∀a:Bk D,hot (some (a.ren (jG ids)))=true->hot (some a)=true:=fun a J=>by
  have:=KD (f:=jG ids) (some a)
  grind
 refine⟨h.below,h.hN,?_,?_,fun _ _ _=>trivial,?_,h.gl.mono fun b o=>VM c b o⟩
 ·intro i k d;obtain⟨l,a,e,n,rfl⟩:=c i k d;obtain⟨v,F,H⟩:=h.dW l a n;refine⟨v,by simp[gc,e,F],H.ren (fun s m u I=> ?_) (fun _ b o=>VM c b o) (fun J b o=>(h.mine rf F o).2)⟩;rw[ac9 (p l (Qby e) a n s m)];exact I
 ·intro i j M K b d L C t A x;obtain⟨E,z,P⟩:=lg d;obtain⟨y,G,O⟩:=lg L;obtain⟨l,a,e,n,rfl⟩:=c i E z;obtain⟨s,Q,m,T,rfl⟩:=c j y G;have:=h.sep l s M K b rf rf (by simpa[gc,e]using C) (by simpa[gc,m]using t) A x;subst this;rw[<-FZ B e,<-FZ B m]
 ·intro i v d;simp only[gc]at d;cases e:ids[i]? with
  | none=>grind
  | some l=>rw[e]at d;exact h.refs l v d
theorem av9 {M:Nat->Prop}{b:List (Sv D)}{a:List Value}(h:jh S M w g b a):(aK3 b).Rel S M w g (if h:a.toArray.size=1 then a.toArray[0]else .tuple a.toArray):=by
 match b,a,h with
 | [],[],h=>exact⟨[],rfl,trivial⟩
 | [u],[v],h=>exact h.1
 | u::d::b,v::c::a,h=>
  have:¬(v::c::a).toArray.size=1:=by simp
  rw[dif_neg this];exact⟨v::c::a,rfl,h⟩
theorem Yv {s:St D}{a:Act}{J:Func}{c:List (Bk D)}{r:Sl D}{k:List (Nat×Bk D)}{j:List Nat}(U:∀t ty,T t=some ty->gW P t ty)(Y:∀l v,g0 l=some v->l < c.length)(W:∀(l:Nat) (d:Bk D),c[l]? =some d->∀r∈d.refs,r < c.length)
  (p:∃q,s.blks=q++BZ 0 c) (h:pU S w0 g0 N n s a w) {e0:as6 D} (e:(apT T S J.results.toList c.length s).run e0=some (r,k,j)):
  a.defers=[]/\∃v,(results J a.tmps).run P w= .ok v w/\∃B,More g0 B/\Hp S w0 N (yE k j c) B (fun _=>True) w/\r.Rel S (bi N (yE k j c) B) w B v:=by
 obtain⟨g,V,hs,hn,hdf,hm⟩:=h;unfold apT at e;split at e
 ·cases e
 rename_i R Z;obtain⟨M,hrun,G⟩:=Ff U V hs _ R Z;dsimp only at e;split at e
 ·rename_i X;injection e with e
  injection e with q1 e
  injection e with q2 q3
  simp only[kW]at X;obtain⟨⟨x,K⟩,L⟩:=X;generalize O:reach s.blk 5 (nM (List.range c.length) (R.flatMap Sv.refs))=ids at*;generalize hkeys:(s.blks.take (s.blks.length - c.length)).map (·.1)=H at*;have E:ids.Nodup:=by
   rw[<-O];exact Fh _ _ (rG _ _ List.nodup_range)
  have x:=V_ x;have K:=tX K;have L:=tX L;have z:∀l∈ids,∀d,s.blk l=some d->∀r∈d.refs,r∈ids:=fun l o d I r e=>L r (zA.2 ⟨l,o,by simp only[amv,I];exact e⟩)
  obtain⟨q,p⟩:=p;have hil:∀(c:List (Bk D)) (i:Nat),(BZ i c).length=c.length:=fun c=>by
   induction c with
   | nil=>intro i;rfl
   | cons b r ih=>intro i;simp[BZ,ih]
  have hk:H=q.map (·.1):=by
   simp_all
  have C:∀i d,yE k j c i=some d->∃l y,ids[i]? =some l/\s.blk l=some y/\d=y.ren (jG ids):=by
   intro i d m;unfold yE at m;split at m
   ·rename_i bk' F;injection m with m
    subst m;rw[<-q2]at F;obtain⟨l,y,h1,_,h3,h4⟩:=V9 _ _ _ _ F;exact⟨l,y,by simpa using h1,arY h3,h4⟩
   ·split at m
    ·rename_i f;have f:=iL.1 f;rw[<-q3]at f;unfold aE4 at f;obtain⟨m1,A⟩:=Qbj.1 f;have A:=(Bool.and_eq_true_iff.1 A).1;simp only[axM,kW,Qa7]at A;have Q:i < c.length:=by grind
     have hno:i∉q.map (·.1):=by rw[<-hk];exact M_ A.2
     refine⟨i,d,x i Q,?_,(Bk.Za fun l o=> ?_).symm⟩
     ·show look none s.blks i=some d
      rw[p,qY,yc hno,O_];exact m
     ·exact FZ E (x l (W i d m l o))
    ·cases m
  refine⟨hdf,if h:M.toArray.size=1 then M.toArray[0]else .tuple M.toArray,?_,gc g ids,fun l v o=> ?_,V.named E C z,?_⟩
  ·unfold results;rw[Sem.run_bind,Qdh,Sem.run_map];change (((Sem.run P (J.results.toList.mapM (OD a.tmps)) w).andThen fun a w'=>Result.ok a.toArray w').andThen _)=_;simp_all
  ·simp only[gc,x l (Y l v o),Option.bind_some];exact hm l v o
  ·rw[<-q1];refine av9 (G.ren (fun l o u hu=> ?_) fun _ b I=>VM C b I);rw[ac9 (K l o)];exact hu
 ·cases e
end
end Go.Vc
