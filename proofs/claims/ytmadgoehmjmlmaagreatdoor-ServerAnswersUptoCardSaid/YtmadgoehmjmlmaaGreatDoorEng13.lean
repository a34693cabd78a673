/- Own engine: Vef, Vde. -/
import Derived.Test.YtmadgoehmjmlmaaGreatDoorEng12
set_option linter.unusedVariables false
set_option linter.unusedSimpArgs false
namespace Go.Vc
open Go.RowKit
inductive Jz (α:Type) where
 | leaf
 | node (v:Option α) (l r:Jz α)
section
variable {α:Type}
def Jz.v:Jz α->Option α
 | .leaf=>none
 | .node v _ _=>v
def Jz.l:Jz α->Jz α
 | .leaf=> .leaf
 | .node _ l _=>l
def Jz.r:Jz α->Jz α
 | .leaf=> .leaf
 | .node _ _ r=>r
noncomputable def Jz.get (t:Jz α):Nat->Option α:=
 Jz.rec (motive:=fun _=>Nat->Option α) (fun _=>none) (fun v _ _ ihl ihr n=>Bool.rec (motive:=fun _=>Option α) (Bool.rec (motive:=fun _=>Option α) (ihr (Nat.div n 2)) (ihl (Nat.div n 2)) (Nat.beq (Nat.mod n 2) 0)) v (Nat.beq n 0)) t
noncomputable def Jz.set (k:Nat):Jz α->Nat->α->Jz α:=
 Nat.rec (motive:=fun _=>Jz α->Nat->α->Jz α) (fun t _ _=>t) (fun _ ih t n x=>Jz.rec (motive:=fun _=>Jz α)
  (Bool.rec (motive:=fun _=>Jz α) (Bool.rec (motive:=fun _=>Jz α) (.node none .leaf (ih .leaf (Nat.div n 2) x)) (.node none (ih .leaf (Nat.div n 2) x) .leaf) (Nat.beq (Nat.mod n 2) 0)) (.node (some x) .leaf .leaf) (Nat.beq n 0))
  (fun v l r _ _=>Bool.rec (motive:=fun _=>Jz α) (Bool.rec (motive:=fun _=>Jz α) (.node v l (ih r (Nat.div n 2) x)) (.node v (ih l (Nat.div n 2) x) r) (Nat.beq (Nat.mod n 2) 0)) (.node (some x) l r) (Nat.beq n 0)) t) k
end
section
variable {D:Type}
structure Kt (D:Type) where
 s:St D
 sl:Jz (Sl D)
 bl:Jz (Option (Bk D))
noncomputable def aF8 (t:Jz (Sl D))(n:Nat)(x:Sl D):Option (Jz (Sl D)):=cond (Nat.blt n 65536) (some (Jz.set 17 t n x)) none
noncomputable def aEd:Jz (Option (Bk D))->List (Nat×Option (Bk D))->Option (Jz (Option (Bk D)))
 | t,[]=>some t
 | t,(n,x)::r=>cond (Nat.blt n 1099511627776) (aEd (Jz.set 41 t n x) r) none
noncomputable def Kt.put (k:Kt D)(dst:Option Nat)(v:Sl D)(bs:List (Nat×Option (Bk D))):Option (Kt D):=
 match aEd k.bl bs with
 | none=>none
 | some bl=>(match dst with
  | none=>some ⟨k.s.put dst v bs,k.sl,bl⟩
  | some d=>(match aF8 k.sl d v with
   | none=>none
   | some sl=>some ⟨k.s.put dst v bs,sl,bl⟩))
noncomputable def Kt.init (args:List (Sl D))(dE:List (Bk D)):Option (Kt D):=
 (args.zipIdx.foldl (fun k p=>match k with
  | none=>none
  | some sl=>aF8 sl p.2 p.1) (some .leaf)).bind fun sl=>(aEd .leaf (zC 0 dE)).map fun bl=>⟨St.init args dE,sl,bl⟩
end
section
variable {D:Type}{S:Sh D}{T:TypeId->Option Ty}{Γ:FuncId->Option (Ct D)}
end
end Go.Vc
namespace Go.Vc
open Go.RowKit
section
variable {D:Type}
def al2 (blk:Nat->Option (Bk D))(l:Nat):List Nat:=
 match blk l with
 | some bk=>bk.refs
 | none=>[]
def QK (ids:List Nat):Nat->Bool
 | 0=>true
 | n+1=>(match ids[n]? with
  | some l=>Nat.beq l n
  | none=>false) && QK ids n
def aqZ (keys:List Nat)(iO i:Nat):Bool:=Nat.blt i iO && !rO i keys
def MQ (blk:Nat->Option (Bk D))(l:Nat):Option (Bk D):=
 match blk l with
 | some bk=>if bk.refs.all fun r=>(blk r).isSome then some bk else none
 | none=>none
def as5 (blk:Nat->Option (Bk D)):Nat->Option (Bk D):=MQ (MQ blk)
def Zk (blk:Nat->Option (Bk D))(ids keys:List Nat)(iO:Nat):List Nat->Nat->List (Nat×Bk D)
 | [],_=>[]
 | l::r,i=>(match aqZ keys iO i,blk l with
  | false,some bk=>(i,bk.ren (jg ids))::Zk blk ids keys iO r (i+1)
  | _,_=>Zk blk ids keys iO r (i+1))
def aBk (blk:Nat->Option (Bk D))(keys:List Nat)(iO:Nat):List Nat:=(List.range iO).filter fun i=>aqZ keys iO i && (blk i).isSome
def aGo (us:List (Sv D)):Sl D:=
 match us with
 | [u]=> .one u
 | us=> .yD us
abbrev arR (D:Type):=Sl D×List (Nat×Bk D)×List Nat
def anI (T:TypeId->Option Ty)(S:Sh D)(rs:List ResultVar)(iO:Nat)(s:St D):Tr D (arR D):=
 match FW T S s rs with
 | none=> .halt 603 s
 | some us=>
  let ids:=reach s.blk 5 (mr (List.range iO) (us.flatMap Sv.refs))
  let keys:=(s.blks.take (s.blks.length - iO)).map (·.1)
  if QK ids iO && allIn ids (us.flatMap Sv.refs) && allIn ids (ids.flatMap (al2 s.blk))then
   .ret (aGo (us.map (Sv.ren (jg ids))),Zk (as5 s.blk) ids keys iO ids 0,aBk (as5 s.blk) keys iO)
  else .halt 605 s
def aBv (T:TypeId->Option Ty)(S:Sh D)(rs:List ResultVar)(iO:Nat):Ex->St D->Tr D (arR D)
 | .normal,s=>anI T S rs iO s
 | .ret,s=>anI T S rs iO s
 | .exit _,s=> .halt 604 s
end
section
variable {D:Type}{P:Program}{S:Sh D}{T:TypeId->Option Ty}{Γ:FuncId->Option (Ct D)}{N:Nat->Prop}{w w':World}{w0:Bs}{g0:Nat->Option Value}{n:Nat}{al:Nat->Prop}{g:Nat->Option Value}{blk:Nat->Option (Bk D)}{ids:List Nat}
theorem VZ:∀{n:Nat},QK ids n=true->∀i,i < n->ids[i]? =some i
 | 0,_,i,h=>by omega
 | n+1,h,i,hi=>by
  simp only[QK,jR]at h;by_cases hin:i=n
  ·subst hin;have:=h.1;split at this
   ·rename_i l hl;rw[hl,Qa this]
   ·cases this
  ·exact VZ h.2 i au
theorem alR {f:Nat->Nat}:∀{l:List Nat},(∀x∈l,f x=x)->l.map f=l
 | [],_=>rfl
 | x::r,h=>by rw[DT,h x qa2,alR fun y hy=>h y qcu]
theorem Lf.Xe {f:Nat->Nat}{x:Lf D}(h:∀l∈x.refs,f l=l):x.ren f=x:=by
 cases x<;>simp only[Lf.ren]<;>simp only[Lf.refs,zD,forall_eq]at h<;>first | rw[h] | (rw[alR h]) | rfl
theorem I4 {f:Nat->Nat}:∀{xs:List (Lf D)},(∀l∈xs.flatMap Lf.refs,f l=l)->xs.map (Lf.ren f)=xs
 | [],_=>rfl
 | x::xs,h=>by
  rw[DT,Lf.Xe fun l hl=>h l qci,I4 fun l hl=>h l (by simp only[Qbu,rW];exact .inr hl)]
theorem Bk.Xe {f:Nat->Nat}{bk:Bk D}(h:∀l∈bk.refs,f l=l):bk.ren f=bk:=by
 cases bk with
 | cells cs=>simp only[Bk.ren];rw[I4 h]
 | tc t cs=>simp only[Bk.ren];rw[I4 h]
 | _=>rfl
theorem U5 {keys:List Nat}{iO:Nat}:∀(r:List Nat) (i k:Nat) (bk:Bk D),jP (Zk blk ids keys iO r i) k=some bk->∃l ry,r[k - i]? =some l/\i<=k/\blk l=some ry/\bk=ry.ren (jg ids)
 | [],i,k,bk,h=>by cases h
 | l::r,i,k,bk,h=>by
  have next:jP (Zk blk ids keys iO r (i+1)) k=some bk->∃l' ry,(l::r)[k - i]? =some l'/\i<=k/\blk l'=some ry/\bk=ry.ren (jg ids):=fun h=>by
   obtain⟨l',ry,h1,h2,h3,h4⟩:=U5 r (i+1) k bk h;exact⟨l',ry,by rw[show k - i=(k - (i+1))+1 by omega];simpa using h1,by omega,h3,h4⟩
  unfold Zk at h;split at h
  ·rename_i ry hk hb;unfold jP at h;split at h
   ·rename_i he;have he:=Qa he;subst he;injection h with h
    exact⟨l,ry,by simp,l9 _,hb,h.symm⟩
   ·exact next h
  ·exact next h
theorem Ym {l:Nat}{bk:Bk D}(h:MQ blk l=some bk):blk l=some bk:=by
 unfold MQ at h;split at h
 ·rename_i b hb;split at h
  ·rw[hb];exact h
  ·cases h
 ·cases h
theorem am2 {l:Nat}{bk:Bk D}(h:as5 blk l=some bk):blk l=some bk:=Ym (Ym h)
theorem SK {tab:Nat->Option (Bk D)}(hat:∀i bk,tab i=some bk->∃l ry,ids[i]? =some l/\blk l=some ry/\bk=ry.ren (jg ids)):∀b,aT N tab (gc g ids) b->aT N blk g b:=by
 rintro b (hb | ⟨i,v,h1,h2,h3⟩)
 ·exact .inl hb
 ·obtain⟨bk,hbk,hh⟩:=jK h1;obtain⟨l,ry,hl,hb0,rfl⟩:=hat i bk hbk;refine .inr ⟨l,v,?_,by simpa[gc,hl]using h2,h3⟩;rw[hb0];have:=J4 (f:=jg ids) (some ry);simp only[IR]at this;rw[<-this];exact hh
theorem Hp.named (h:Hp S w0 N blk g al w){tab:Nat->Option (Bk D)}(hn:ids.Nodup)(hat:∀i bk,tab i=some bk->∃l ry,ids[i]? =some l/\blk l=some ry/\bk=ry.ren (jg ids))(hrefs:∀l∈ids,∀bk,blk l=some bk->∀r∈bk.refs,r∈ids):
  Hp S w0 N tab (gc g ids) (fun _=>True) w:=by
 have aIT:∀ry:Bk D,hot (some (ry.ren (jg ids)))=true->hot (some ry)=true:=fun ry hh=>by
  have:=J4 (f:=jg ids) (some ry);simp only[IR]at this;rw[<-this];exact hh
 refine⟨h.below,h.hN,?_,?_,fun _ _ _=>trivial,?_,h.gl.mono fun b hb=>SK hat b hb⟩
 ·intro i bk hi;obtain⟨l,ry,hl,hb0,rfl⟩:=hat i bk hi;obtain⟨v,hv,hok⟩:=h.dE l ry hb0;refine⟨v,by simp[gc,hl,hv],hok.ren (fun l' hl' u hu=> ?_) (fun _ b hb=>SK hat b hb) (fun hh b hb=>(h.mine (by rw[hb0];exact hh) hv hb).2)⟩;rw[abl (hrefs l (Qbt hl) ry hb0 l' hl')];exact hu
 ·intro i j vi vj b hi hj hgi hgj hbi hbj;obtain⟨bki,aFy,hhi⟩:=jK hi;obtain⟨bkj,aFz,hhj⟩:=jK hj;obtain⟨l,ry,hl,hb0,rfl⟩:=hat i bki aFy;obtain⟨l',ai3,hl',aFx,rfl⟩:=hat j bkj aFz;have:=h.sep l l' vi vj b (by rw[hb0];exact aIT _ hhi) (by rw[aFx];exact aIT _ hhj) (by simpa[gc,hl]using hgi) (by simpa[gc,hl']using hgj) hbi hbj;subst this;rw[<-Fv hn hl,<-Fv hn hl']
 ·intro i v hi;simp only[gc]at hi;cases hl:ids[i]? with
  | none=>rw[hl]at hi;cases hi
  | some l=>rw[hl]at hi;exact h.refs l v hi
theorem ao2 {M:Nat->Prop}{us:List (Sv D)}{vs:List Value}(h:iM S M w g us vs):(aGo us).Rel S M w g (if h:vs.toArray.size=1 then vs.toArray[0]else .tuple vs.toArray):=by
 match us,vs,h with
 | [],[],h=>exact⟨[],rfl,trivial⟩
 | [u],[v],h=>exact h.1
 | u::u'::us,v::v'::vs,h=>
  have:¬(v::v'::vs).toArray.size=1:=by simp
  rw[dif_neg this];exact⟨v::v'::vs,rfl,h⟩
theorem S9 {s:St D}{a:Act}{fn:Func}{dE:List (Bk D)}{r:Sl D}{post:List (Nat×Bk D)}{keep:List Nat}(hTy:∀t ty,T t=some ty->fP P t ty)(hlt:∀l v,g0 l=some v->l < dE.length)(hrf:∀(l:Nat) (bk:Bk D),dE[l]? =some bk->∀r∈bk.refs,r < dE.length)
  (hpre:∃pre,s.blks=pre++zC 0 dE) (h:og S w0 g0 N n s a w) {e0:arR D} (hr:(anI T S fn.results.toList dE.length s).run e0=some (r,post,keep)):
  a.defers=[]/\∃v,(results fn a.tmps).run P w= .ok v w/\∃g',More g0 g'/\Hp S w0 N (vI post keep dE) g' (fun _=>True) w/\r.Rel S (aT N (vI post keep dE) g') w g' v:=by
 obtain⟨g,hp,hs,hn,hdf,hm⟩:=h;unfold anI at hr;split at hr
 ·cases hr
 rename_i us hus;obtain⟨vs,hrun,hrel⟩:=EO hTy hp hs _ us hus;dsimp only at hr;split at hr
 ·rename_i hc;injection hr with hr
  injection hr with q1 hr
  injection hr with q2 q3
  simp only[jR]at hc;obtain⟨⟨c1,c2⟩,c3⟩:=hc;generalize XT:reach s.blk 5 (mr (List.range dE.length) (us.flatMap Sv.refs))=ids at*;generalize hkeys:(s.blks.take (s.blks.length - dE.length)).map (·.1)=keys at*;have hnd:ids.Nodup:=by
   rw[<-XT];exact E5 _ _ (qH _ _ List.nodup_range)
  have c1:=VZ c1;have c2:=sQ c2;have c3:=sQ c3;have hrefs:∀l∈ids,∀bk,s.blk l=some bk->∀r∈bk.refs,r∈ids:=fun l hl bk hb r hr=>c3 r (wW.2 ⟨l,hl,by simp only[al2,hb];exact hr⟩)
  obtain⟨pre,hpre⟩:=hpre;have hil:∀(dE:List (Bk D)) (i:Nat),(zC i dE).length=dE.length:=fun dE=>by
   induction dE with
   | nil=>intro i;rfl
   | cons b r ih=>intro i;simp[zC,ih]
  have hk:keys=pre.map (·.1):=by
   rw[<-hkeys,hpre];simp[hil]
  have hat:∀i bk,vI post keep dE i=some bk->∃l ry,ids[i]? =some l/\s.blk l=some ry/\bk=ry.ren (jg ids):=by
   intro i bk hi;unfold vI at hi;split at hi
   ·rename_i bk' hb';injection hi with hi
    subst hi;rw[<-q2]at hb';obtain⟨l,ry,h1,_,h3,h4⟩:=U5 _ _ _ _ hb';exact⟨l,ry,by simpa using h1,am2 h3,h4⟩
   ·split at hi
    ·rename_i hmem;have hmem:=g_.1 hmem;rw[<-q3]at hmem;unfold aBk at hmem;obtain⟨m1,m2⟩:=R_.1 hmem;have m2:=(Bool.and_eq_true_iff.1 m2).1;simp only[aqZ,jR,Qbr]at m2;have aJ2:i < dE.length:=by simpa[Hu]using m2.1
     have hno:i∉pre.map (·.1):=by rw[<-hk];exact JJ m2.2
     refine⟨i,bk,c1 i aJ2,?_,(Bk.Xe fun l hl=> ?_).symm⟩
     ·show look none s.blks i=some bk
      rw[hpre,pW,lL hno,Oh];exact hi
     ·exact Fv hnd (c1 l (hrf i bk hi l hl))
    ·cases hi
  refine⟨hdf,if h:vs.toArray.size=1 then vs.toArray[0]else .tuple vs.toArray,?_,gc g ids,fun l v hl=> ?_,hp.named hnd hat hrefs,?_⟩
  ·unfold results;rw[Sem.run_bind,Qds,Sem.run_map];change (((Sem.run P (fn.results.toList.mapM (NW a.tmps)) w).andThen fun a w'=>Result.ok a.toArray w').andThen _)=_;rw[hrun];rfl
  ·simp only[gc,c1 l (hlt l v hl),Option.bind_some];exact hm l v hl
  ·rw[<-q1];refine ao2 (hrel.ren (fun l hl u hu=> ?_) fun _ b hb=>SK hat b hb);rw[abl (c2 l hl)];exact hu
 ·cases hr
end
end Go.Vc
