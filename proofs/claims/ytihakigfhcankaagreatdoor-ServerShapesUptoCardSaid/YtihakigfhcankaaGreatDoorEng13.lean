/- Own engine: Vef, Vde. -/
import Derived.Test.YtihakigfhcankaaGreatDoorEng12
set_option linter.unusedVariables false
set_option linter.unusedSimpArgs false
namespace Go.Vc
open Go.RowKit
section
variable {α:Type}
end
section
variable {D:Type}
end
section
variable {D:Type}{S:Sh D}{T:TypeId->Option Ty}{Γ:FuncId->Option (Ct D)}
end
end Go.Vc
namespace Go.Vc
open Go.RowKit
section
variable {D:Type}
def aj_ (blk:Nat->Option (Bk D))(l:Nat):List Nat:=
 match blk l with
 | some bk=>bk.refs
 | none=>[]
def QR (ids:List Nat):Nat->Bool
 | 0=>true
 | n+1=>(match ids[n]? with
  | some l=>Nat.beq l n
  | none=>false) && QR ids n
def aop (keys:List Nat)(iJ i:Nat):Bool:=Nat.blt i iJ && !rC i keys
def IX (blk:Nat->Option (Bk D))(l:Nat):Option (Bk D):=
 match blk l with
 | some bk=>if bk.refs.all fun r=>(blk r).isSome then some bk else none
 | none=>none
def atT (blk:Nat->Option (Bk D)):Nat->Option (Bk D):=IX (IX blk)
def Yn (blk:Nat->Option (Bk D))(ids keys:List Nat)(iJ:Nat):List Nat->Nat->List (Nat×Bk D)
 | [],_=>[]
 | l::r,i=>(match aop keys iJ i,blk l with
  | false,some bk=>(i,bk.ren (jf ids))::Yn blk ids keys iJ r (i+1)
  | _,_=>Yn blk ids keys iJ r (i+1))
def azC (blk:Nat->Option (Bk D))(keys:List Nat)(iJ:Nat):List Nat:=(List.range iJ).filter fun i=>aop keys iJ i && (blk i).isSome
def aFe (us:List (Sv D)):Sl D:=
 match us with
 | [u]=> .one u
 | us=> .xx us
abbrev aqC (D:Type):=Sl D×List (Nat×Bk D)×List Nat
def am7 (T:TypeId->Option Ty)(S:Sh D)(rs:List ResultVar)(iJ:Nat)(s:St D):Tr D (aqC D):=
 match Fz T S s rs with
 | none=> .halt 603 s
 | some us=>
  let ids:=reach s.blk 5 (lX (List.range iJ) (us.flatMap Sv.refs))
  let keys:=(s.blks.take (s.blks.length - iJ)).map (·.1)
  if QR ids iJ && allIn ids (us.flatMap Sv.refs) && allIn ids (ids.flatMap (aj_ s.blk))then
   .ret (aFe (us.map (Sv.ren (jf ids))),Yn (atT s.blk) ids keys iJ ids 0,azC (atT s.blk) keys iJ)
  else .halt 605 s
def ay4 (T:TypeId->Option Ty)(S:Sh D)(rs:List ResultVar)(iJ:Nat):Ex->St D->Tr D (aqC D)
 | .normal,s=>am7 T S rs iJ s
 | .ret,s=>am7 T S rs iJ s
 | .exit _,s=> .halt 604 s
end
section
variable {D:Type}{P:Program}{S:Sh D}{T:TypeId->Option Ty}{Γ:FuncId->Option (Ct D)}{N:Nat->Prop}{w w':World}{w0:Bs}{g0:Nat->Option Value}{n:Nat}{al:Nat->Prop}{g:Nat->Option Value}{blk:Nat->Option (Bk D)}{ids:List Nat}
theorem SB:∀{n:Nat},QR ids n=true->∀i,i < n->ids[i]? =some i
 | 0,_,i,h=>by omega
 | n+1,h,i,hi=>by
  simp only[QR,jY]at h;by_cases hin:i=n
  ·subst hin;have:=h.1;split at this
   ·rename_i l hl;rw[hl,Qa this]
   ·cases this
  ·exact SB h.2 i au
theorem akm {f:Nat->Nat}:∀{l:List Nat},(∀x∈l,f x=x)->l.map f=l
 | [],_=>rfl
 | x::r,h=>by rw[F_,h x oJ,akm fun y hy=>h y qcu]
theorem Lf.V4 {f:Nat->Nat}{x:Lf D}(h:∀l∈x.refs,f l=l):x.ren f=x:=by
 cases x<;>simp only[Lf.ren]<;>simp only[Lf.refs,Aj,forall_eq]at h<;>first | rw[h] | (rw[akm h]) | rfl
theorem GY {f:Nat->Nat}:∀{xs:List (Lf D)},(∀l∈xs.flatMap Lf.refs,f l=l)->xs.map (Lf.ren f)=xs
 | [],_=>rfl
 | x::xs,h=>by
  rw[F_,Lf.V4 fun l hl=>h l qci,GY fun l hl=>h l (by simp only[Qbp,tY];exact .inr hl)]
theorem Bk.V4 {f:Nat->Nat}{bk:Bk D}(h:∀l∈bk.refs,f l=l):bk.ren f=bk:=by
 cases bk with
 | cells cs=>simp only[Bk.ren];rw[GY h]
 | tc t cs=>simp only[Bk.ren];rw[GY h]
 | _=>rfl
theorem UT {keys:List Nat}{iJ:Nat}:∀(r:List Nat) (i k:Nat) (bk:Bk D),jW (Yn blk ids keys iJ r i) k=some bk->∃l qO,r[k - i]? =some l/\i<=k/\blk l=some qO/\bk=qO.ren (jf ids)
 | [],i,k,bk,h=>by cases h
 | l::r,i,k,bk,h=>by
  have next:jW (Yn blk ids keys iJ r (i+1)) k=some bk->∃l' qO,(l::r)[k - i]? =some l'/\i<=k/\blk l'=some qO/\bk=qO.ren (jf ids):=fun h=>by
   obtain⟨l',qO,h1,h2,h3,h4⟩:=UT r (i+1) k bk h;exact⟨l',qO,by rw[show k - i=(k - (i+1))+1 by omega];simpa using h1,by omega,h3,h4⟩
  unfold Yn at h;split at h
  ·rename_i qO hk hb;unfold jW at h;split at h
   ·rename_i he;have he:=Qa he;subst he;injection h with h
    exact⟨l,qO,by simp,lU _,hb,h.symm⟩
   ·exact next h
  ·exact next h
theorem X7 {l:Nat}{bk:Bk D}(h:IX blk l=some bk):blk l=some bk:=by
 unfold IX at h;split at h
 ·rename_i b hb;split at h
  ·rw[hb];exact h
  ·cases h
 ·cases h
theorem alG {l:Nat}{bk:Bk D}(h:atT blk l=some bk):blk l=some bk:=X7 (X7 h)
theorem Vf {tab:Nat->Option (Bk D)}(hat:∀i bk,tab i=some bk->∃l qO,ids[i]? =some l/\blk l=some qO/\bk=qO.ren (jf ids)):∀b,aW N tab (gc g ids) b->aW N blk g b:=by
 rintro b (hb | ⟨i,v,h1,h2,h3⟩)
 ·exact .inl hb
 ·obtain⟨bk,hbk,hh⟩:=jU h1;obtain⟨l,qO,hl,hb0,rfl⟩:=hat i bk hbk;refine .inr ⟨l,v,?_,by simpa[gc,hl]using h2,h3⟩;rw[hb0];have:=Jf (f:=jf ids) (some qO);simp only[GZ]at this;rw[<-this];exact hh
theorem Hp.named (h:Hp S w0 N blk g al w){tab:Nat->Option (Bk D)}(hn:ids.Nodup)(hat:∀i bk,tab i=some bk->∃l qO,ids[i]? =some l/\blk l=some qO/\bk=qO.ren (jf ids))(hrefs:∀l∈ids,∀bk,blk l=some bk->∀r∈bk.refs,r∈ids):
  Hp S w0 N tab (gc g ids) (fun _=>True) w:=by
 have aHr:∀qO:Bk D,hot (some (qO.ren (jf ids)))=true->hot (some qO)=true:=fun qO hh=>by
  have:=Jf (f:=jf ids) (some qO);simp only[GZ]at this;rw[<-this];exact hh
 refine⟨h.below,h.hN,?_,?_,fun _ _ _=>trivial,?_,h.gl.mono fun b hb=>Vf hat b hb⟩
 ·intro i bk hi;obtain⟨l,qO,hl,hb0,rfl⟩:=hat i bk hi;obtain⟨v,hv,hok⟩:=h.dH l qO hb0;refine⟨v,by simp[gc,hl,hv],hok.ren (fun l' hl' u hu=> ?_) (fun _ b hb=>Vf hat b hb) (fun hh b hb=>(h.mine (by rw[hb0];exact hh) hv hb).2)⟩;rw[aaM (hrefs l (Qbo hl) qO hb0 l' hl')];exact hu
 ·intro i j vi vj b hi hj hgi hgj hbi hbj;obtain⟨bki,aD5,hhi⟩:=jU hi;obtain⟨bkj,aD6,hhj⟩:=jU hj;obtain⟨l,qO,hl,hb0,rfl⟩:=hat i bki aD5;obtain⟨l',ahX,hl',aD4,rfl⟩:=hat j bkj aD6;have:=h.sep l l' vi vj b (by rw[hb0];exact aHr _ hhi) (by rw[aD4];exact aHr _ hhj) (by simpa[gc,hl]using hgi) (by simpa[gc,hl']using hgj) hbi hbj;subst this;rw[<-DR hn hl,<-DR hn hl']
 ·intro i v hi;simp only[gc]at hi;cases hl:ids[i]? with
  | none=>rw[hl]at hi;cases hi
  | some l=>rw[hl]at hi;exact h.refs l v hi
theorem arz {M:Nat->Prop}{us:List (Sv D)}{vs:List Value}(h:iI S M w g us vs):(aFe us).Rel S M w g (if h:vs.toArray.size=1 then vs.toArray[0]else .tuple vs.toArray):=by
 match us,vs,h with
 | [],[],h=>exact⟨[],rfl,trivial⟩
 | [u],[v],h=>exact h.1
 | u::u'::us,v::v'::vs,h=>
  have:¬(v::v'::vs).toArray.size=1:=by simp
  rw[dif_neg this];exact⟨v::v'::vs,rfl,h⟩
theorem Uf {s:St D}{a:Act}{fn:Func}{dH:List (Bk D)}{r:Sl D}{post:List (Nat×Bk D)}{keep:List Nat}(hTy:∀t ty,T t=some ty->fU P t ty)(hlt:∀l v,g0 l=some v->l < dH.length)(hrf:∀(l:Nat) (bk:Bk D),dH[l]? =some bk->∀r∈bk.refs,r < dH.length)
  (hpre:∃pre,s.blks=pre++zn 0 dH) (h:n_ S w0 g0 N n s a w) {e0:aqC D} (hr:(am7 T S fn.results.toList dH.length s).run e0=some (r,post,keep)):
  a.defers=[]/\∃v,(results fn a.tmps).run P w= .ok v w/\∃g',More g0 g'/\Hp S w0 N (uO post keep dH) g' (fun _=>True) w/\r.Rel S (aW N (uO post keep dH) g') w g' v:=by
 obtain⟨g,hp,hs,hn,hdf,hm⟩:=h;unfold am7 at hr;split at hr
 ·cases hr
 rename_i us hus;obtain⟨vs,hrun,hrel⟩:=CX hTy hp hs _ us hus;dsimp only at hr;split at hr
 ·rename_i hc;injection hr with hr
  injection hr with q1 hr
  injection hr with q2 q3
  simp only[jY]at hc;obtain⟨⟨c1,c2⟩,c3⟩:=hc;generalize W_:reach s.blk 5 (lX (List.range dH.length) (us.flatMap Sv.refs))=ids at*;generalize hkeys:(s.blks.take (s.blks.length - dH.length)).map (·.1)=keys at*;have hnd:ids.Nodup:=by
   rw[<-W_];exact CV _ _ (qj _ _ List.nodup_range)
  have c1:=SB c1;have c2:=rJ c2;have c3:=rJ c3;have hrefs:∀l∈ids,∀bk,s.blk l=some bk->∀r∈bk.refs,r∈ids:=fun l hl bk hb r hr=>c3 r (vZ.2 ⟨l,hl,by simp only[aj_,hb];exact hr⟩)
  obtain⟨pre,hpre⟩:=hpre;have hil:∀(dH:List (Bk D)) (i:Nat),(zn i dH).length=dH.length:=fun dH=>by
   induction dH with
   | nil=>intro i;rfl
   | cons b r ih=>intro i;simp[zn,ih]
  have hk:keys=pre.map (·.1):=by
   rw[<-hkeys,hpre];simp[hil]
  have hat:∀i bk,uO post keep dH i=some bk->∃l qO,ids[i]? =some l/\s.blk l=some qO/\bk=qO.ren (jf ids):=by
   intro i bk hi;unfold uO at hi;split at hi
   ·rename_i bk' hb';injection hi with hi
    subst hi;rw[<-q2]at hb';obtain⟨l,qO,h1,_,h3,h4⟩:=UT _ _ _ _ hb';exact⟨l,qO,by simpa using h1,alG h3,h4⟩
   ·split at hi
    ·rename_i hmem;have hmem:=gX.1 hmem;rw[<-q3]at hmem;unfold azC at hmem;obtain⟨m1,m2⟩:=Qbx.1 hmem;have m2:=(Bool.and_eq_true_iff.1 m2).1;simp only[aop,jY,Qbi]at m2;have aIg:i < dH.length:=by simpa[Gf]using m2.1
     have hno:i∉pre.map (·.1):=by rw[<-hk];exact Jk m2.2
     refine⟨i,bk,c1 i aIg,?_,(Bk.V4 fun l hl=> ?_).symm⟩
     ·show look none s.blks i=some bk
      rw[hpre,qf,qC hno,Ns];exact hi
     ·exact DR hnd (c1 l (hrf i bk hi l hl))
    ·cases hi
  refine⟨hdf,if h:vs.toArray.size=1 then vs.toArray[0]else .tuple vs.toArray,?_,gc g ids,fun l v hl=> ?_,hp.named hnd hat hrefs,?_⟩
  ·unfold results;rw[Sem.run_bind,Qdp,Sem.run_map];change (((Sem.run P (fn.results.toList.mapM (LQ a.tmps)) w).andThen fun a w'=>Result.ok a.toArray w').andThen _)=_;rw[hrun];rfl
  ·simp only[gc,c1 l (hlt l v hl),Option.bind_some];exact hm l v hl
  ·rw[<-q1];refine arz (hrel.ren (fun l hl u hu=> ?_) fun _ b hb=>Vf hat b hb);rw[aaM (c2 l hl)];exact hu
 ·cases hr
end
end Go.Vc
