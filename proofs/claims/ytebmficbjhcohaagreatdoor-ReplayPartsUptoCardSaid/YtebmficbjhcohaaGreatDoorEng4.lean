/- Own engine: Vdh, Vdt, Vdu, Vdv, Vdw. -/
import Derived.Test.YtebmficbjhcohaaGreatDoorEng3
import Derived.Laws.RangeString
set_option linter.unusedVariables false
set_option linter.unusedSimpArgs false
namespace Go.Vc
open Go.RowKit
section
variable {D:Type}{P:Program}{S:Sh D}{T:TypeId->Option Ty}{Γ:FuncId->Option (Ct D)}{M M' N:Nat->Prop}{w w':World}{w0:Bs}{g g':Nat->Option Value}{blk blk':Nat->Option (Bk D)}{al:Nat->Prop}
 {a:Act} {o:Oper} {K:Act->World->Prop} {Q:Exit->Act->World->Prop} {slot:Nat->Sl D} {out:Out D} {fr:Nat} {ids jk:List Nat}
structure aoe (N:Nat->Prop)(blk:Nat->Option (Bk D))(g:Nat->Option Value)(jk:List Nat)(M':Nat->Prop):Prop where
 sub:∀b,M' b->aV N blk g b
 off:∀l∈jk,∀v b,hot (blk l)=true->g l=some v->eP v=some b->¬M' b
theorem Lf.Rel.view (A:iL S){x:Lf D}{v:Value}(h:Hp S w0 N blk g al w)(m:aoe N blk g jk M')(B:∀l∈x.owns,l∈jk)(k:x.Rel S (aV N blk g) w g v):(x.view blk).Rel S M' w g v:=by
 cases x with
 | own l=>
  have k:g l=some v:=k;simp only[Lf.view];split
  ·rename_i e d hb;exact IL h hb k m.sub (fun b p=>m.off l (B l (by simp[Lf.owns])) v b qck k p)
  ·rename_i d hb;exact agJ A h qck k m.sub (fun b p=>m.off l (B l (by simp[Lf.owns])) v b qck k p)
  ·rename_i d hb;obtain⟨I,c,s⟩:=h.dn l _ hb;rw[k]at c;injection c with c
   subst c;exact dD.mono s m.sub
  ·exact k
 | part l i j G f=>
  obtain⟨z,n,q,u,rfl,t,C,rfl⟩:=k;have y:∀d r,dD S M' w d (.slice z n q)->XY S G i j d=some r->dD S M' w r (sliced z i j q G):=by
   intro d r H o;unfold XY at o;split at o
   ·rename_i E;have E:=Qa E;obtain⟨K,J,F,_⟩:=dD.slice' H (A.Et _ _ _ _ o).1;injection F with _ F _
    have:=EG A H o t au;rw[E];exact this
   ·cases o
  simp only[Lf.view];split
  ·rename_i e d hb;split
   ·rename_i r o;exact y d r (IL h hb u m.sub (fun b p=>m.off l (B l (by simp[Lf.owns])) _ b qck u p)) o
   ·trivial
  ·rename_i d hb;split
   ·rename_i r o;obtain⟨I,c,s⟩:=h.dn l _ hb;rw[u]at c;injection c with c
    subst c;exact y d r (dD.mono s m.sub) o
   ·trivial
  ·exact⟨z,n,q,u,rfl,t,C,rfl⟩
 | dat d=>exact dD.mono k m.sub
 | elt d i j=>obtain⟨a,n,q,t,C⟩:=k;exact⟨a,n,q,t.mono m.sub,C⟩
 | xt e=>exact Xt.Rel.mono k m.sub
 | _=>exact k
theorem aZ.view (e:iL S)(h:Hp S w0 N blk g al w)(d:aoe N blk g jk M'):∀{a:List (Lf D)} {b:List Value},(∀l∈a.flatMap Lf.owns,l∈jk)->aZ S (aV N blk g) w g a b->aZ S M' w g (a.map (Lf.view blk)) b
 | [],[],_,_=>trivial
 | x::a,v::b,c,f=>⟨f.1.view e h d (fun l hl=>c l qcl),aZ.view e h d (fun l hl=>c l qc) f.2⟩
theorem Sv.Rel.view (c:iL S){x:Sv D}{v:Value}(h:Hp S w0 N blk g al w)(b:aoe N blk g jk M')(a:∀l∈x.owns,l∈jk)(d:x.Rel S (aV N blk g) w g v):(x.view blk).Rel S M' w g v:=by
 cases x with
 | lf x=>exact Lf.Rel.view c h b a d
 | agg j=>obtain⟨e,i,f⟩:=d;exact⟨e,i,f.view c h b a⟩
theorem iF.view (e:iL S)(h:Hp S w0 N blk g al w)(d:aoe N blk g jk M'):∀{a:List (Sv D)} {b:List Value},(∀l∈a.flatMap Sv.owns,l∈jk)->iF S (aV N blk g) w g a b->iF S M' w g (a.map (Sv.view blk)) b
 | [],[],_,_=>trivial
 | x::a,v::b,c,f=>⟨f.1.view e h d (fun l hl=>c l qcl),iF.view e h d (fun l hl=>c l qc) f.2⟩
theorem Sl.Rel.view (c:iL S){x:Sl D}{v:Value}(h:Hp S w0 N blk g al w)(b:aoe N blk g jk M')(a:∀l∈x.owns,l∈jk)(d:x.Rel S (aV N blk g) w g v):(x.view blk).Rel S M' w g v:=by
 cases x with
 | one x=>exact Sv.Rel.view c h b a d
 | sO j=>obtain⟨e,i,f⟩:=d;exact⟨e,i,f.view c h b a⟩
theorem g_.view (e:iL S)(h:Hp S w0 N blk g al w)(d:aoe N blk g jk M'):∀{a:List (Sl D)} {b:List Value},(∀l∈a.flatMap Sl.owns,l∈jk)->g_ S (aV N blk g) w g a b->g_ S M' w g (a.map (Sl.view blk)) b
 | [],[],_,_=>trivial
 | x::a,v::b,c,f=>⟨f.1.view e h d (fun l hl=>c l qcl),g_.view e h d (fun l hl=>c l qc) f.2⟩
theorem g_.less (d:∀b,M' b->M b):∀{c:List (Sl D)} {a:List Value},g_ S M w g c a->g_ S M' w g c a
 | [],[],_=>trivial
 | x::c,v::a,j=>by
  refine⟨?_,g_.less d j.2⟩;have:=j.1.ren (g':=g) (M':=M') (f:=fun l=>l) (fun _ _ _ k=>k) (fun _=>d);have e:x.ren (fun l=>l)=x:=by
   have i:∀y:Lf D,y.ren (fun l=>l)=y:=fun y=>by cases y<;>simp[Lf.ren]
   have h:∀y:Sv D,y.ren (fun l=>l)=y:=fun y=>by cases y with
    | lf y=>simp[Sv.ren,i]
    | agg m=>simp only[Sv.ren];congr 1;exact(Qbk fun y _=>i y).trans (Qea _)
   cases x with
   | one y=>simp[Sl.ren,h]
   | sO m=>simp only[Sl.ren];congr 1;exact(Qbk fun y _=>h y).trans (Qea _)
  rwa [e]at this
theorem g_.app:∀{c d:List (Sl D)} {a b:List Value},g_ S M w g c a->g_ S M w g d b->g_ S M w g (c++d) (a++b)
 | [],_,[],_,_,h=>h
 | _::_,_,_::_,_,h,e=>⟨h.1,g_.app h.2 e⟩
theorem fA:∀(r ids:List Nat) (l:Nat),l∈lN ids r ↔ l∈ids\/l∈r
 | [],ids,l=>by simp[lN]
 | x::r,ids,l=>by
  unfold lN;rw[fA r];split
  ·rename_i a;have:=gz.1 a;constructor
   ·rintro(h | h)
    ·exact .inl h
    ·exact .inr (by simp[h])
   ·rintro(h | h)
    ·exact .inl h
    ·rcases CW.1 h with rfl | h
     ·exact .inl this
     ·exact .inr h
  ·simp only[u_,CW,Yg,or_false];constructor
   ·rintro((h | h) | h)
    ·exact .inl h
    ·exact .inr (.inl h)
    ·exact .inr (.inr h)
   ·rintro(h | h | h)
    ·exact .inl (.inl h)
    ·exact .inl (.inr h)
    ·exact .inr h
theorem ai7 {x:Lf D}{l:Nat}(a:l∈x.owns):((∃d,rwD (blk l)=some d)\/hot (blk l)=false\/l∈(x.view blk).refs):=by
 cases x with
 | own b=>
  simp[Lf.owns]at a;subst a;simp only[Lf.view];split
  ·rename_i e d hb;exact .inl ⟨d,by rw[hb];rfl⟩
  ·rename_i d hb;exact .inl ⟨d,by rw[hb];rfl⟩
  ·rename_i d hb;exact .inr (.inl qck)
  ·exact .inr (.inr qb7)
 | part b i j c f=>
  simp[Lf.owns]at a;subst a;simp only[Lf.view];split
  ·rename_i e d hb;exact .inl ⟨d,by rw[hb];rfl⟩
  ·rename_i d hb;exact .inr (.inl qck)
  ·exact .inr (.inr qb7)
 | _=>simp[Lf.owns]at a
theorem alB {x:Sv D}{l:Nat}(a:l∈x.owns):((∃d,rwD (blk l)=some d)\/hot (blk l)=false\/l∈(x.view blk).refs):=by
 cases x with
 | lf x=>exact ai7 a
 | agg c=>
  obtain⟨y,b,a⟩:=vS.1 a;rcases ai7 (blk:=blk) a with h | h | h
  ·exact .inl h
  ·exact .inr (.inl h)
  ·exact .inr (.inr (vS.2 ⟨_,Qb.2 ⟨y,b,rfl⟩,h⟩))
theorem akm {x:Sl D}{l:Nat}(a:l∈x.owns):((∃d,rwD (blk l)=some d)\/hot (blk l)=false\/l∈(x.view blk).refs):=by
 cases x with
 | one x=>exact alB a
 | sO c=>
  obtain⟨y,b,a⟩:=vS.1 a;rcases alB (blk:=blk) a with h | h | h
  ·exact .inl h
  ·exact .inr (.inl h)
  ·exact .inr (.inr (vS.2 ⟨_,Qb.2 ⟨y,b,rfl⟩,h⟩))
theorem atp {x:Lf D}{v:Value}{l:Nat}(b:x.Rel S M w g v)(a:l∈x.owns):∃u,g l=some u:=by
 cases x with
 | own c=>simp[Lf.owns]at a;subst a;exact⟨v,b⟩
 | part c i j k f=>simp[Lf.owns]at a;subst a;obtain⟨h,n,e,d,_⟩:=b;exact⟨_,d⟩
 | _=>simp[Lf.owns]at a
theorem aj0 {l:Nat}:∀{b:List (Lf D)} {c:List Value},aZ S M w g b c->l∈b.flatMap Lf.owns->∃u,g l=some u
 | [],[],_,a=>by simp at a
 | x::b,v::c,d,a=>by
  rw[Qbm,u_]at a;exact a.elim (atp d.1) (aj0 d.2)
theorem asa {x:Sv D}{v:Value}{l:Nat}(b:x.Rel S M w g v)(a:l∈x.owns):∃u,g l=some u:=by
 cases x with
 | lf x=>exact atp b a
 | agg e=>obtain⟨d,_,c⟩:=b;exact aj0 c a
theorem alb {l:Nat}:∀{b:List (Sv D)} {c:List Value},iF S M w g b c->l∈b.flatMap Sv.owns->∃u,g l=some u
 | [],[],_,a=>by simp at a
 | x::b,v::c,d,a=>by
  rw[Qbm,u_]at a;exact a.elim (asa d.1) (alb d.2)
theorem aDH {x:Sl D}{v:Value}{l:Nat}(b:x.Rel S M w g v)(a:l∈x.owns):∃u,g l=some u:=by
 cases x with
 | one x=>exact asa b a
 | sO e=>obtain⟨d,_,c⟩:=b;exact alb c a
theorem ZF {l:Nat}:∀{b:List (Sl D)} {c:List Value},g_ S M w g b c->l∈b.flatMap Sl.owns->∃u,g l=some u
 | [],[],_,a=>by simp at a
 | x::b,v::c,d,a=>by
  rw[Qbm,u_]at a;exact a.elim (aDH d.1) (ZF d.2)
theorem Xn:∀{a:List Nat} {d:List Value},a.map g=d.map some->(∀l∈a,∃b,g l=some (.pointer (some ⟨b,0,none⟩)))->g_ S M w g (a.map fun l=> .one (.lf (.ptr l 0))) d
 | [],[],_,_=>trivial
 | c::a,v::d,h,f=>by
  simp only[H7,Qdn]at h;obtain⟨b,e⟩:=f c oI;refine⟨⟨b,e,?_⟩,Xn h.2 fun l hl=>f l qcl⟩;rw[h.1]at e;injection e
 | [],_::_,h,_=>by simp at h
 | _::_,[],h,_=>by simp at h
theorem agh (M:iL S){c:Call}{f:FuncId}{m:List Nat}{U:Operand}(ho:o.op= .call c)(hc:c.callee= .value U)(hf:aB slot U= .one (.lf (.fn f m)))(aa:∀f z,Γ f=some z->dJ P S f z)(h:Hp S w0 N blk g al w)(L:∀n,fr<=n->n < fr+64->¬al n)
  (hs:∀t,(slot t).Rel S (aV N blk g) w g (a.tmps.getD t undef)) (i:Eh Γ f blk (c.args.toList.map (aB slot)++m.map fun l=> .one (.lf (.ptr l 0))) fr=some out) (hp:lY out.pre) (aI_:m.all (fun l=>isCells (blk l))=true) (hK:Post S w0 N blk g al w fr out o.dst a K):o.wp P a w K Q:=by
 have I:=oz hs U;rw[hf]at I;obtain⟨r,hcv,hcg⟩:=I;have aKp:∀l∈m,∃b,g l=some (.pointer (some ⟨b,0,none⟩)):=by
  intro l j;have:=Rf.1 aI_ l j;cases k:blk l with
  | none=>rw[k]at this;simp[isCells]at this
  | some bk=>
   cases bk with
   | cells cs=>obtain⟨v,E,b,vs,t,rfl,_⟩:=h.dn l _ k;exact⟨b,E⟩
   | row e d=>rw[k]at this;simp[isCells]at this
   | uZ d=>rw[k]at this;simp[isCells]at this
   | iter s p=>rw[k]at this;simp[isCells]at this
   | map kvs=>rw[k]at this;simp[isCells]at this
   | tc t cs=>rw[k]at this;simp[isCells]at this
 have F:g_ S (aV N blk g) w g (c.args.toList.map (aB slot)++m.map fun l=> .one (.lf (.ptr l 0))) (c.args.toList.map a.eval++r):=(Ll hs c.args.toList).app (Xn hcg aKp);unfold Eh at i;split at i
 ·cases i
 ·rename_i z Z;have y:=aa f z Z;have R:(execOp a.eval o).run P w= .ok (.enter f (c.args.toList.map a.eval++r).toArray) w:=by
   have hen:=y.enters (c.args.toList.map a.eval++r).toArray w;simp only[execOp,ho,resolve,hc,Deferred.ofValue,hcv,Sem.run_bind,Sem.run_pure,Result.andThen_ok,invoke];have:(#[]++c.args.map a.eval:Array Value)++r.toArray=(c.args.toList.map a.eval++r).toArray:=by rw[<-H5];simp
   rw[this,hen]
  have J:(Calls P f (c.args.toList.map a.eval++r).toArray w fun e w'=>∃v g',e= .returned v/\More g g'/\Keeps (aV N blk g) w (aV N (kw blk out.blks) g') w'/\Hp S w0 N (kw blk out.blks) g' (fun n=>al n\/(fr<=n/\n < fr+64)) w'/\
    out.val.Rel S (aV N (kw blk out.blks) g') w' g' v)->o.wp P a w K Q:=by
   intro G;simp only[Oper.wp,R,Oper.upon_enter];refine G.mono ?_;rintro e w' ⟨v,g',rfl,A,h2,h3,h4⟩;exact hK v w' g' A h2 h3 h4
  dsimp only at i;have C:=F.norm;generalize (c.args.toList.map (aB slot)++m.map fun l=>(.one (.lf (.ptr l 0)):Sl D)).map Sl.norm=O at C i;cases A:BM z blk fr (O.map (Sl.view blk)) (lN [] (O.flatMap Sl.owns))with
  | some out'=>
   rw[A]at i;simp only[vJ,Nj]at i;subst i;refine J (vH M y h L (fun ids dn H E=> ?_) (fun l j=> ?_) (fun l j=> ?_) A hp)
   ·refine g_.view M (jk:=lN [] (O.flatMap Sl.owns)) h ⟨fun b k=>(uu H b k).1,fun l j v b T B u k=> ?_⟩ (fun l j=>(fA _ _ _).2 (.inr j)) C;rcases(uu H b k).2 with q | ⟨l',v',⟨W,X,Y,V⟩ | ⟨W,X,Y,V⟩⟩
    ·exact h.afj T B u q
    ·have:=h.sep l l' v v' b T W B Y u V;subst this;exact X j
    ·have:=h.sep l l' v v' b T X B Y u V;subst this;exact E l j W
   ·exact ZF C (((fA _ _ _).1 j).resolve_left oI)
   ·obtain⟨x,hx,ab⟩:=vS.1 (((fA _ _ _).1 j).resolve_left oI);rcases akm (blk:=blk) ab with q | q | q
    ·exact .inl q
    ·exact .inr (.inl q)
    ·exact .inr (.inr (vS.2 ⟨_,Qb.2 ⟨x,hx,rfl⟩,q⟩))
  | none=>
   rw[A]at i;simp only[vJ]at i;exact J (vH (jk:=[]) M y h L (fun ids dn H E=>C.less fun b k=>(uu H b k).1) (fun l j=>by simp at j) (fun l j=>by simp at j) i hp)
theorem acx (s:∀t H,T t=some H->fB P t H)(R:∀f U,Γ f=some U->dJ P S f U)(G:iL S)(h:Hp S w0 N blk g al w)(D:∀n,fr<=n->n < fr+64->¬al n)
  (L:∀t,(slot t).Rel S (aV N blk g) w g (a.tmps.getD t undef)) (e:sK T S Γ slot blk fr o.op=some out) (B:lY out.pre) (r:Post S w0 N blk g al w fr out o.dst a K):o.wp P a w K Q:=by
 have p:=oz L;cases k:o.op with
 | move x=>rw[k]at e;injection e with e;subst e;exact bf (v:=a.eval x) (by simp[execOp,k]) h r rfl (p x)
 | assign x=>rw[k]at e;injection e with e;subst e;exact bf (v:=a.eval x) (by simp[execOp,k]) h r rfl (p x)
 | pick c x y=>rw[k]at e;exact agc k h (p c) (p x) (p y) e r
 | alloc t=>
  rw[k]at e;simp only[sK]at e;split at e
  ·rename_i H z;injection e with e
   subst e;exact adz k (s _ _ z) h D r
  ·cases e
 | box t x=>
  rw[k]at e;simp only[sK]at e;split at e
  ·rename_i u Y;split at e
   ·rename_i Z;injection e with e
    subst e;have A:=p x;rw[Y]at A;exact anO k h D A Z r
   ·cases e
  ·cases e
 | build t parts=>rw[k]at e;exact aeq k s h L e r
 | buildSlice t n parts=>rw[k]at e;exact sound_row G k s h L D e r
 | load t x=>
  rw[k]at e;simp only[sK]at e;cases z:T t with
  | none=>simp[xO,z]at e
  | some H=>exact aga k (s _ _ z) z h (p x) e B r
 | store t x y=>
  rw[k]at e;simp only[sK]at e;cases z:T t with
  | none=>simp[BJ,z]at e
  | some H=>exact adO k (s _ _ z) z h (p x) (p y) e G B r
 | nilCheck x=>
  rw[k]at e;simp only[sK]at e;have A:=p x;split at e
  ·rename_i l q F;rw[F]at A;injection e with e;subst e
   refine bf (v:=a.eval x) ?_ h r rfl A;obtain⟨b,_,I⟩:=A;simp[execOp,k,I]
  ·rename_i d i j F;rw[F]at A;injection e with e;subst e
   refine bf (v:=a.eval x) ?_ h r rfl A;obtain⟨ad,n,W,_,_,I⟩:=A;simp[execOp,k,I]
  ·rename_i l i j sz F;rw[F]at A;injection e with e;subst e
   refine bf (v:=a.eval x) ?_ h r rfl A;obtain⟨b,n,W,_,I⟩:=A;simp[execOp,k,I]
  ·rename_i f E F;rw[F]at A;injection e with e;subst e
   refine bf (v:=a.eval x) ?_ h r rfl A;obtain⟨vs,I,_⟩:=A;simp[execOp,k,I]
  ·cases e
 | binOp X t x y yt=>
  rw[k]at e;simp only[sK]at e;cases M:Xw T S X t (aB slot x) (aB slot y)with
  | some out'=>
   rw[M]at e;injection e with e
   subst e;exact ahW k s h (p x) (p y) M r
  | none=>
   rw[M]at e;exact ams k s h (p x) (p y) e B r
 | unOp X t x=>rw[k]at e;exact asD k h (p x) e B r
 | fieldAddr t x f=>
  rw[k]at e;simp only[sK]at e;cases z:T t with
  | none=>simp[wQ,z]at e
  | some H=>exact aeA k (s _ _ z) z h (p x) e r
 | field t x f=>
  rw[k]at e;simp only[sK]at e;cases z:T t with
  | none=>simp[aja,z]at e
  | some H=>exact agD k (s _ _ z) z h (p x) e r
 | indexAddr t x i=>rw[k]at e;exact aeK k s h (p x) (p i) e B r
 | extract x i=>rw[k]at e;exact WQ k h (p x) e r
 | call c=>
  rw[k]at e;simp only[sK]at e;split at e
  ·rename_i C;split at e
   ·rename_i x A;exact amM k C A s h (p x) e r
   ·cases e
  ·rename_i C;split at e
   ·rename_i x y A;exact Ym (.inl rfl) k C A h (p x) (p y) e r
   ·cases e
  ·rename_i C;split at e
   ·rename_i x y A;exact Ym (.inr rfl) k C A h (p x) (p y) e r
   ·cases e
  ·rename_i C;split at e
   ·rename_i x y A;exact abP G k C A s h D (p x) (p y) e B r
   ·cases e
  ·rename_i C;split at e
   ·rename_i x y A;exact ahl G k C A s h (p x) (p y) e r
   ·cases e
  ·rename_i fo C;split at e
   ·rename_i f E hf;split at e
    ·rename_i O;exact agh G k C hf R h D L e B O r
    ·cases e
   ·cases e
  ·cases e
 | makeFunc fn first E=>
  rw[k]at e;cases fn with
  | func f=>
   simp only[sK]at e;split at e
   ·rename_i J;split at e
    ·rename_i ls V;injection e with e
     subst e;have J:first= #[]:=by simpa using J
     subst J;refine bf (v:= .func (.func f) #[] (E.map a.eval)) ?_ h r rfl ⟨(E.map a.eval).toList,rfl,by rw[akc L _ _ V,Array.toList_map]⟩;simp[execOp,k,Instr.makeFunc]
    ·cases e
   ·cases e
  | _=>simp[sK]at e
 | makeSlice t x y=>rw[k]at e;exact agw G k s h D (p x) (p y) e B r
 | index t x i=>rw[k]at e;exact aeg k s h (p x) (p i) e B r
 | convert src dst x=>rw[k]at e;exact ahM k s h (p x) e B r
 | slice t x lo hi mx=>
  cases mx with
  | some m=>rw[k]at e;simp[sK]at e
  | none=>rw[k]at e;exact aek G k s h p e B r
 | _=>rw[k]at e;simp[sK]at e
end
end Go.Vc
namespace Go.Vc
open Go.RowKit
section
variable {D:Type}
def qh:List Operand->List Nat
 | []=>[]
 | .tmp t::r=>t::qh r
 | _::r=>qh r
def CG (c:List Nat)(a:Nat->Sl D)(b:Nat->Option (Bk D)):Nat->Sl D:=fun t=>if qK t c then(a t).view b else a t
def isRow:Option (Bk D)->Bool
 | some (.row _ _)=>true
 | some (.map _)=>true
 | some (.uZ _)=>true
 | _=>false
def j_:Op->Bool
 | .store _ _ _=>true
 | .buildSlice _ _ _=>true
 | _=>false
def iG (a:Nat->Sl D)(b:Op):List Nat:=lN [] ((qh b.operands.toList).flatMap fun t=>(a t).owns)
def uJ (T:TypeId->Option Ty)(S:Sh D)(g:FuncId->Option (Ct D))(c:Nat->Sl D)(a:Nat->Option (Bk D))(f:Nat)(d:Op):Option (Out D):=
 let e:=iG c d
 if j_ d && e.all (fun l=>isRow (a l))then
  (match sK T S g (CG (qh d.operands.toList) c a) (kw a (e.filterMap (ja a))) f d with
  | some b=>some ⟨b.pre,b.val,e.filterMap (ja a)++b.blks⟩
  | none=>none)
 else none
def vC (T:TypeId->Option Ty)(S:Sh D)(e:FuncId->Option (Ct D))(a:Nat->Sl D)(b:Nat->Option (Bk D))(d:Nat)(f:Op):Option (Out D):=
 match sK T S e a b d f with
 | some c=>some c
 | none=>uJ T S e a b d f
theorem rG {b c:Type}{f a:b->Option c}:∀{l:List b},(∀x∈l,f x=a x)->l.filterMap f=l.filterMap a
 | [],_=>rfl
 | x::l,h=>by
  rw[Qdd,Qdd,h x oI,rG fun y hy=>h y qcw]
theorem Su {c:Type}:∀(a b:List (Nat×c)) (f:Nat->c),kw f (a++b)=kw (kw f a) b
 | [],_,_=>rfl
 | (k,v)::a,b,f=>Su a b (upd f k v)
end
section
variable {D:Type}{P:Program}{S:Sh D}{T:TypeId->Option Ty}{Γ:FuncId->Option (Ct D)}{M M' N:Nat->Prop}{w w':World}{w0:Bs}{g g':Nat->Option Value}{blk blk':Nat->Option (Bk D)}{al:Nat->Prop}
 {a:Act} {o:Oper} {K:Act->World->Prop} {Q:Exit->Act->World->Prop} {slot:Nat->Sl D} {out:Out D} {fr:Nat} {ids jk:List Nat}
theorem Keeps.comp {c d i:Nat->Prop}{g f e:World}(h:Keeps c g d f)(k:Keeps d f i e):Keeps c g i e:=
 ⟨EZ h.size k.size,fun b a m=>by
  obtain⟨o,j⟩:=h.same b a m;obtain⟨l,n⟩:=k.same b (Qb8 a h.size) o;exact⟨l,n.trans j⟩⟩
theorem ayd {l:Nat}{p:Nat×Option (Bk D)}(h:ja blk l=some p):p.1=l:=by
 unfold ja at h;split at h
 ·injection h with h;rw[<-h]
 ·cases h
theorem Hp.FP (K:iL S):∀(s:List Nat) (a:Nat->Option (Bk D)),s.Nodup->Hp S w0 N a g al w->
  Hp S w0 N (kw a (s.filterMap (ja a))) g al w/\Keeps (aV N a g) w (aV N (kw a (s.filterMap (ja a))) g) w/\
   (∀n,hot (kw a (s.filterMap (ja a)) n)=true->hot (a n)=true)/\∀l∈s,isRow (a l)=true->hot (kw a (s.filterMap (ja a)) l)=false
 | [],a,_,h=>⟨h,⟨oC _,fun b _ Z=>⟨Z,rfl⟩⟩,fun n j=>j,fun l t=>by simp at t⟩
 | l::r,a,j,h=>by
  obtain⟨t,R⟩:=List.nodup_cons.1 j;have H:∀{x:Option (Bk D)} (z:Nat->Option (Bk D)),kw z (r.filterMap (ja a)) l=z l:=fun{x} z=>wH fun v W=>by
   obtain⟨i,c,B⟩:=Qcz.1 W;have:=ayd B;exact t (by rw[show l=i from this];exact c)
  by_cases k:∃d,rwD (a l)=some d
  ·obtain⟨d,f⟩:=k;have L:ja a l=some (l,some (.uZ d)):=by unfold ja;rw[f]
   have M:=J7 f;obtain⟨bkr,Q,_⟩:=jJ M;rw[List.filterMap_cons_some L];have T:r.filterMap (ja a)=r.filterMap (ja (upd a l (some (.uZ d)))):=by
    refine rG fun i c=> ?_;have A:i≠l:=fun e=>t (e▸c)
    unfold ja;rw[bM _ _ _ _ A]
   obtain⟨v,G,_⟩:=h.dn l _ Q;have I:hot (upd a l (some (Bk.uZ d)) l)=false:=by rw[upd_same];rfl
   have o:∀n,hot (upd a l (some (Bk.uZ d)) n)=true->hot (a n)=true:=fun n j=>by
    by_cases B:n=l
    ·subst B;rw[I]at j;cases j
    ·rwa [bM _ _ _ _ B]at j
   have U:∀b,aV N (upd a l (some (Bk.uZ d))) g b->aV N a g b:=by
    rintro b (f | ⟨n,u,P,p,Y⟩)
    ·exact .inl f
    ·exact .inr ⟨n,u,o n P,p,Y⟩
   obtain⟨P,V⟩:=h.aKg l (some (.uZ d)) rfl (fun bk y=>by
    injection y with y
    subst y;refine⟨v,G,agJ K h f G U fun b J=> ?_⟩;rintro(q | ⟨n,u,O,X,q3⟩)
    ·exact h.afj M G J q
    ·have:=h.sep l n v u b M (o n O) G X J q3;subst this;rw[I]at O;cases O)
   obtain⟨p,E,C,F⟩:=Hp.FP K r (upd a l (some (.uZ d))) R P;rw[<-T]at p E C F;refine⟨p,V.comp E,fun n j=>o n (C n j),fun i c m=> ?_⟩;rcases CW.1 c with rfl | c
   ·show hot (kw (upd a i (some (.uZ d))) (r.filterMap (ja a)) i)=false
    rw[H (x:=none),upd_same];rfl
   ·refine F i c ?_;have A:i≠l:=fun e=>t (e▸c)
    rwa [bM _ _ _ _ A]
  ·have L:ja a l=none:=by
    unfold ja;split
    ·rename_i d f;exact absurd ⟨d,f⟩ k
    ·rfl
   rw[List.filterMap_cons_none L];obtain⟨p,E,C,F⟩:=Hp.FP K r a R h;refine⟨p,E,C,fun i c m=> ?_⟩;rcases CW.1 c with rfl | c
   ·rw[H (x:=none)];unfold isRow at m;split at m
    ·rename_i e d f;exact absurd ⟨d,by rw[f];rfl⟩ k
    ·rename_i d f;exact absurd ⟨d,by rw[f];rfl⟩ k
    ·rename_i d f;rw[f];rfl
    ·cases m
   ·exact F i c m
theorem alO (y:∀t J,T t=some J->fB P t J)(s:∀f I,Γ f=some I->dJ P S f I)(p:iL S)(h:Hp S w0 N blk g al w)(x:∀n,fr<=n->n < fr+64->¬al n)
  (A:∀t,(slot t).Rel S (aV N blk g) w g (a.tmps.getD t undef)) (c:vC T S Γ slot blk fr o.op=some out) (L:lY out.pre) (R:Post S w0 N blk g al w fr out o.dst a K):o.wp P a w K Q:=by
 unfold vC at c;split at c
 ·rename_i d C;injection c with c
  subst c;exact acx y s p h x A C L R
 ·unfold uJ at c;dsimp only at c;split at c
  ·rename_i O;simp only[iT,Rf]at O;split at c
   ·rename_i d C;injection c with c
    subst c;have H:(iG slot o.op).Nodup:=pO _ _ Qd8;obtain⟨X,F,G,V⟩:=Hp.FP p (iG slot o.op) blk H h;refine acx y s p X x (fun t=> ?_) C L (fun v w' g' m k M W=> ?_)
    ·unfold CG;split
     ·rename_i z;have z:=gz.1 z;refine Sl.Rel.view (jk:=iG slot o.op) p h ⟨?_,fun l j v b E U r=> ?_⟩ (fun l j=>(fA _ _ _).2 (.inr (vS.2 ⟨t,z,j⟩))) (A t)
      ·rintro b (r | ⟨n,u,i,B,D⟩)
       ·exact .inl r
       ·exact .inr ⟨n,u,G n i,B,D⟩
      ·rintro(q | ⟨n,u,i,B,D⟩)
       ·exact h.afj E U r q
       ·have:=h.sep l n v u b E (G n i) U B r D;subst this;rw[V l j (O.2 l j)]at i;cases i
     ·exact(A t).keep F (More.refl _)
    ·have e:kw blk ((iG slot o.op).filterMap (ja blk)++d.blks)=kw (kw blk ((iG slot o.op).filterMap (ja blk))) d.blks:=Su _ _ _;refine R v w' g' m ?_ ?_ ?_
     ·rw[e];exact F.comp k
     ·rw[e];exact M
     ·rw[e];exact W
   ·cases c
  ·cases c
end
end Go.Vc
namespace Go.Vc
open Go.RowKit
section
variable {D:Type}
def Lf.pv:Lf D->Option Pv
 | .bool b=>some (.bool b)
 | .val (.bool b)=>some (.bool b)
 | .int k n=>some (.int k n)
 | .str s=>some (.str s)
 | _=>none
def pvs:List (Lf D)->Option (List Pv)
 | []=>some []
 | x::b=>(match x.pv,pvs b with
  | some p,some a=>some (p::a)
  | _,_=>none)
def aEI (T:TypeId->Option Ty)(t:TypeId)(x:Sl D):Option (Out D):=
 match T t with
 | none=>none
 | some c=>if Nat.beq c.kind 0 then none else(match x with
  | .one (.lf x)=>(match x.pv with
   | some p=>lD none (.O_ (some ⟨t,false,[p]⟩))
   | none=>none)
  | .one (.agg b)=>(match pvs b with
   | some a=>lD none (.O_ (some ⟨t,true,a⟩))
   | none=>none)
  | _=>none)
def zF.is (v:Option zF)(t:TypeId):Bool:=
 match v with
 | some i=>Nat.beq i.t t
 | none=>false
def zF.get (v:Option zF)(t:TypeId)(j:Nat):Option Pv:=
 match v with
 | some i=>if Nat.beq i.t t then i.xs[j]? else none
 | none=>none
def Pv.gB:Option Pv->Bool
 | some (.bool b)=>b
 | _=>false
def Pv.gI:Option Pv->Int
 | some (.int _ n)=>n
 | _=>0
def Pv.gS:Option Pv->List UInt8
 | some (.str s)=>s
 | _=>[]
def Bv (z:Value)(p:Option Pv):Option (Lf D):=
 match z with
 | .bool false=>some (.bool (Pv.gB p))
 | .int k 0=>some (.int k (Pv.gI p))
 | .string s=>(match s.data.toList with
  | []=>some (.str (Pv.gS p))
  | _=>none)
 | _=>none
def uw (v:Option zF)(t:TypeId):List Value->Nat->Option (List (Lf D))
 | [],_=>some []
 | z::a,j=>(match Bv z (zF.get v t j),uw v t a (j+1)with
  | some x,some b=>some (x::b)
  | _,_=>none)
def Zf:Value->Pv->Bool
 | .bool _, .bool _=>true
 | .int k _, .int a _=>kEq k a
 | .string _, .str _=>true
 | _,_=>false
def EO:List Value->List Pv->Bool
 | [],[]=>true
 | z::b,p::a=>Zf z p && EO b a
 | _,_=>false
def zF.ok (v:Option zF)(t:TypeId)(b:Bool)(a:List Value):Bool:=
 match v with
 | some i=> !Nat.beq i.t t || ((i.agg==b) && EO a i.xs)
 | none=>true
def abr (T:TypeId->Option Ty)(t:TypeId)(x:Sl D):Option (Out D):=
 match T t with
 | none=>none
 | some a=>if Nat.beq a.kind 0 || !(a.agg==a.zag)then none else(match x with
  | .one (.lf (.O_ v))=>(match uw v t a.zero 0 with
   | none=>none
   | some b=>if a.agg then some ⟨some (dp (zF.ok v t true a.zero=true)), .sO [.agg b, .lf (.bool (zF.is v t))],[]⟩
    else(match b with
     | [l]=>some ⟨some (dp (zF.ok v t false a.zero=true)), .sO [.lf l, .lf (.bool (zF.is v t))],[]⟩
     | _=>none))
  | _=>none)
end
section
variable {D:Type}{P:Program}{S:Sh D}{T:TypeId->Option Ty}{Γ:FuncId->Option (Ct D)}{M M' N:Nat->Prop}{w w':World}{w0:Bs}{g g':Nat->Option Value}{blk blk':Nat->Option (Bk D)}{al:Nat->Prop}
 {a:Act} {o:Oper} {K:Act->World->Prop} {Q:Exit->Act->World->Prop} {slot b_:Nat->Sl D} {out:Out D} {fr:Nat}
theorem Um {x:Lf D}{p:Pv}{v:Value}(h:x.pv=some p)(a:x.Rel S M w g v):v=p.val/\p.fits:=by
 unfold Lf.pv at h;split at h<;>first | (injection h with h;subst h;exact⟨a,trivial⟩) | (injection h with h;subst h;exact a) | (cases h;done)
theorem PH:∀{d:List (Lf D)} {a:List Pv} {c:List Value},pvs d=some a->aZ S M w g d c->c=a.map Pv.val/\∀p∈a,p.fits
 | [],a,[],h,_=>by simp[pvs]at h;subst h;exact⟨rfl,fun p b=>by simp at b⟩
 | x::d,a,v::c,h,e=>by
  unfold pvs at h;split at h
  ·rename_i p n m j;injection h with h
   subst h;obtain⟨k,i⟩:=Um m e.1;obtain⟨l,f⟩:=PH j e.2;refine⟨by rw[k,l];rfl,fun p b=> ?_⟩;rcases CW.1 b with rfl | b
   ·exact i
   ·exact f p b
  ·cases h
theorem yN {t:TypeId}{b:Ty}(h:fB P t b)(c:b.kind≠0):P.concrete t=true:=by
 obtain⟨d,e,a⟩:=ni h;unfold Program.concrete;rw[e];cases d<;>first | rfl | (exfalso;apply c;rw[<-a];rfl)
theorem amY {t:TypeId}{x:Operand}(m:o.op= .makeInterface t x)(r:∀t j,T t=some j->fB P t j)(h:Hp S w0 N blk g al w)(i:(aB slot x).Rel S (aV N blk g) w g (a.eval x))
  (b:aEI T t (aB slot x)=some out) (u:Post S w0 N blk g al w fr out o.dst a K):o.wp P a w K Q:=by
 unfold aEI at b;split at b
 ·cases b
 ·rename_i j s;split at b
  ·cases b
  ·rename_i l;have l:j.kind≠0:=fun e=>l qcz
   have d:=run_makeInterface (P:=P) w t (a.eval x) (yN (r _ _ s) l);split at b
   ·rename_i y f;rw[f]at i;split at b
    ·rename_i p c;injection b with b
     subst b;have k:=(Um c i).1;refine bf (v:= .iface t (a.eval x)) ?_ h u rfl ⟨by rw[k];rfl,fun q z=>by have:=BH.1 z;subst this;exact(Um c i).2⟩;simp[execOp,m,d]
    ·cases b
   ·rename_i C f;rw[f]at i;obtain⟨A,k,n⟩:=i;split at b
    ·rename_i B c;injection b with b
     subst b;have:=(PH c n).1;refine bf (v:= .iface t (a.eval x)) ?_ h u rfl ⟨by rw[k,this];rfl,(PH c n).2⟩;simp[execOp,m,d]
    ·cases b
   ·cases b
theorem amh {z:Value}{x:Lf D}(h:Bv z none=some x):x.Rel S M w g z:=by
 unfold Bv at h;split at h
 ·injection h with h;subst h;rfl
 ·injection h with h;subst h;rfl
 ·rename_i s;split at h
  ·rename_i b;injection h with h
   subst h;cases s with
   | mk a=>
    have:a= #[]:=by
     have b:a.toList=[]:=b;simpa using b
    subst this;exact⟨rfl,by simp[Pv.gS]⟩
  ·cases h
 ·cases h
theorem alN {b:Bool}{q:Option Pv}{x:Lf D}(h:Bv (.bool b) q=some x):x= .bool (Pv.gB q):=by
 cases b
 ·injection h with h;exact h.symm
 ·cases h
theorem auF {k:IntKind}{n:Int}{q:Option Pv}{x:Lf D}(h:Bv (.int k n) q=some x):x= .int k (Pv.gI q):=by
 unfold Bv at h;split at h
 ·rename_i e;cases e
 ·rename_i e;injection e with a b;subst a;injection h with h;exact h.symm
 ·rename_i e;cases e
 ·cases h
theorem apI {s:ByteArray}{q:Option Pv}{x:Lf D}(h:Bv (.string s) q=some x):x= .str (Pv.gS q):=by
 simp only[Bv]at h;split at h
 ·injection h with h;exact h.symm
 ·cases h
theorem amQ {z:Value}{p:Pv}{x:Lf D}(a:Zf z p=true)(h:Bv z (some p)=some x)(c:p.fits):x.Rel S M w g p.val:=by
 cases z<;>cases p<;>simp only[Zf,Ot]at a
 ·rw[alN h];rfl
 ·rename_i k n b d;have a:k=b:=by simpa[kEq]using a
  subst a;rw[auF h];rfl
 ·rw[apI h];exact⟨rfl,c⟩
theorem OU {v:Option zF}{t:TypeId}(c:∀j,zF.get v t j=none):∀(a:List Value) (j:Nat) (b:List (Lf D)),uw v t a j=some b->aZ S M w g b a
 | [],j,b,h=>by simp[uw]at h;subst h;trivial
 | z::a,j,b,h=>by
  unfold uw at h;rw[c j]at h;split at h
  ·rename_i x e f d;injection h with h
   subst h;exact⟨amh f,OU c a (j+1) e d⟩
  ·cases h
theorem NR {i:zF}:∀(c:List Value) (b:List Pv) (j:Nat) (d:List (Lf D)),EO c b=true->(∀k,zF.get (some i) i.t (j+k)=b[k]?)->uw (some i) i.t c j=some d->(∀p∈b,p.fits)->aZ S M w g d (b.map Pv.val)
 | [],[],j,d,_,_,h,_=>by simp[uw]at h;subst h;trivial
 | z::c,p::b,j,d,a,e,h,l=>by
  simp only[EO,iT]at a;unfold uw at h;have f:=e 0;simp only[Pj,Qby]at f;rw[f]at h;split at h
  ·rename_i x o r m;injection h with h
   subst h;exact⟨amQ a.1 r (l p oI),NR c b (j+1) o a.2 (fun k=>by have:=e (k+1);rwa [List.getElem?_cons_succ,show j+(k+1)=j+1+k by omega]at this) m (fun q n=>l q (by simp[n]))⟩
  ·cases h
 | [],_::_,_,_,a,_,_,_=>by simp[EO]at a
 | _::_,[],_,_,a,_,_,_=>by simp[EO]at a
theorem WO {t st:TypeId}{v:Option zF}{z:Value}(a:P.concrete t=true)(f:zF.is v t=false)(c:(zeroValue t).run P w= .ok z w):(Instr.typeAssert (Bj v) st t true).run P w= .ok (.tuple #[z, .bool false]) w:=by
 unfold Program.concrete at a;cases b:P.underlying t with
 | none=>rw[b]at a;cases a
 | some d=>
  rw[b]at a;cases v with
  | none=>cases d<;>first | (cases a;done) | simp[Instr.typeAssert,run_underlying b,Bj,c]
  | some i=>
   have g:¬i.t=t:=fun e=>by simp[zF.is,e]at f
   cases d<;>first | (cases a;done) | simp[Instr.typeAssert,run_underlying b,Bj,g,c]
theorem SE {st:TypeId}{i:zF}(a:P.concrete i.t=true):(Instr.typeAssert (Bj (some i)) st i.t true).run P w= .ok (.tuple #[i.inner, .bool true]) w:=by
 unfold Program.concrete at a;cases b:P.underlying i.t with
 | none=>rw[b]at a;cases a
 | some d=>
  rw[b]at a;cases d<;>first | (cases a;done) | simp[Instr.typeAssert,run_underlying b,Bj]
theorem Zt {t st:TypeId}{x:Operand}(A:o.op= .typeAssert x st t true)(E:∀t d,T t=some d->fB P t d)(h:Hp S w0 N blk g al w)(n:(aB slot x).Rel S (aV N blk g) w g (a.eval x))
  (b:abr T t (aB slot x)=some out) (Z:lY out.pre) (B:Post S w0 N blk g al w fr out o.dst a K):o.wp P a w K Q:=by
 unfold abr at b;split at b
 ·cases b
 ·rename_i d G;split at b
  ·cases b
  ·rename_i R;simp only[Qbp,Qbi,not_or]at R;have V:d.kind≠0:=fun e=>R.1 qcz
   have q:d.agg=d.zag:=by
    have:=R.2;cases ha:d.agg<;>cases hb:d.zag<;>simp[ha,hb]at this⊢
   have hc:=yN (E _ _ G) V;obtain⟨z,hz,H,r⟩:=agG (E _ _ G) w;split at b
   ·rename_i v X;rw[X]at n;obtain⟨n,W⟩:a.eval x=Bj v/\aoF v:=n;split at b
    ·cases b
    ·rename_i U F;by_cases c:zF.is v t=true
     ·obtain⟨i,rfl,hit⟩:∃i,v=some i/\i.t=t:=by
       cases v with
       | none=>simp[zF.is]at c
       | some i=>exact⟨i,rfl,Qa c⟩
      subst hit;have I:∀k,zF.get (some i) i.t (0+k)=i.xs[k]? :=fun k=>by simp[zF.get]
      have f:=SE (P:=P) (w:=w) (st:=st) (i:=i) hc;have D:∀O,zF.ok (some i) i.t O d.zero=true->i.agg=O/\aZ S (aV N blk g) w g U (i.xs.map Pv.val):=by
       intro O y;simp only[zF.ok,Nat.beq_refl,Qcs,Bool.false_or,iT,Qch]at y;exact⟨y.1,NR d.zero i.xs 0 U y.2 I F W⟩
      split at b
      ·injection b with b
       subst b;obtain⟨L,u⟩:=D true Z;refine bf (v:= .tuple #[i.inner, .bool true]) ?_ h B rfl ⟨[i.inner, .bool true],rfl,⟨⟨_,?_,u⟩,by rw[c];rfl,trivial⟩⟩
       ·simp[execOp,A,n,f]
       ·unfold zF.inner;rw[L]
      ·split at b
       ·rename_i l;injection b with b
        subst b;obtain⟨L,u⟩:=D false Z;obtain⟨p,C⟩:∃p,i.xs=[p]:=by
         have:=u.length;simp only[Qbn,Qbx]at this;exact List.length_eq_one_iff.1 this.symm
        have Y:i.inner=p.val:=by unfold zF.inner;rw[L,C]
        rw[C]at u;refine bf (v:= .tuple #[i.inner, .bool true]) ?_ h B rfl ⟨[i.inner, .bool true],rfl,⟨?_,by rw[c];rfl,trivial⟩⟩
        ·simp[execOp,A,n,f]
        ·rw[Y];exact u.1
       ·cases b
     ·have c:zF.is v t=false:=by simpa using c
      have f:=WO (P:=P) (w:=w) (st:=st) hc c hz;have aa:∀j,zF.get v t j=none:=by
       intro j;cases v with
       | none=>rfl
       | some i=>simp only[zF.is]at c;simp[zF.get,c]
      have J:=OU (S:=S) (M:=aV N blk g) (w:=w) (g:=g) aa d.zero 0 U F;split at b
      ·rename_i m;injection b with b
       subst b;have s:z= .agg d.zero.toArray:=by
        rw[m]at q;rw[<-q]at r;cases z<;>simp[yV]at r
        rw[<-H];simp[Value.cells]
       refine bf (v:= .tuple #[z, .bool false]) ?_ h B rfl ⟨[z, .bool false],rfl,⟨⟨_,s,J⟩,by rw[c];rfl,trivial⟩⟩;simp[execOp,A,n,f]
      ·rename_i m;split at b
       ·rename_i l;injection b with b
        subst b;have s:d.zero=[z]:=by
         have m:d.agg=false:=by simpa using m
         rw[m]at q;rw[<-q]at r;rw[<-H];cases z<;>first | rfl | simp[yV]at r
        rw[s]at J;refine bf (v:= .tuple #[z, .bool false]) ?_ h B rfl ⟨[z, .bool false],rfl,⟨J.1,by rw[c];rfl,trivial⟩⟩;simp[execOp,A,n,f]
       ·cases b
   ·cases b
end
end Go.Vc
namespace Go.Vc
open Go.RowKit
section
variable {D:Type}
def KF (S:Sh D)(d:D)(a:Nat):Nat->Nat->List (Lf D)
 | _,0=>[]
 | i,n+1=>BO S d i 0 a++KF S d a (i+1) n
def L9 (T:TypeId->Option Ty)(t:TypeId):Option (TypeId×Nat×Nat):=
 match T t with
 | none=>none
 | some a=>(match a.arr with
  | none=>none
  | some (e,n)=>(match T e with
   | none=>none
   | some b=>if Nat.blt 0 b.size && Nat.beq a.size (n*b.size) && a.agg then some (e,n,b.size)else none))
def U4 (T:TypeId->Option Ty)(t:TypeId):Option (TypeId×Nat×Nat):=
 match T t with
 | none=>none
 | some a=>if a.lit then none else L9 T t
def aaq (T:TypeId->Option Ty)(S:Sh D)(a:Nat)(t:TypeId):Option (Out D):=
 match U4 T t with
 | none=>none
 | some (e,n,b)=>(match T t with
  | none=>none
  | some c=>(match S.make e n (c.zero.map fun v=>(xx v).norm)with
   | none=>none
   | some d=>if Nat.beq (S.size d) b && Nat.ble n 1000000 then some ⟨none, .one (.lf (.opt a 0 0 b)),[(a,some (.row t d))]⟩else none))
def D7 (T:TypeId->Option Ty)(S:Sh D)(b:Nat->Option (Bk D))(t:TypeId)(x:Sl D):Option (Out D):=
 match U4 T t with
 | none=>none
 | some (e,n,a)=>(match x with
  | .one (.lf (.opt l i j s))=>if Nat.beq i 0 && (Nat.beq j 0 && Nat.beq s a)then(match b l with
   | some (.row _ d)=>if Nat.beq a (S.size d)then some ⟨some (dp (S.len d=n)), .one (.agg (KF S d a 0 n)),[]⟩else none
   | _=>none)else none
  | .one (.lf (.glb k))=>(match S.KR k with
   | some d=>if Nat.beq a (S.size d)then some ⟨some (dp (S.len d=n)), .one (.agg (KF S d a 0 n)),[]⟩else none
   | none=>none)
  | _=>none)
def Ii (T:TypeId->Option Ty)(S:Sh D)(t:TypeId)(x i:Sl D):Option (Out D):=
 match U4 T t with
 | none=>none
 | some (e,n,a)=>(match x,i with
  | .one (.lf (.opt l b j s)), .one (.lf (.int _ m))=>if Nat.beq b 0 && (Nat.beq j 0 && Nat.beq s a)then lD (some (dp (0<=m/\m < n))) (.opt l m.toNat 0 a)else none
  | .one (.lf (.glb k)), .one (.lf (.int _ m))=>(match S.KR k with
   | some d=>if Nat.beq a (S.size d)then lD (some (dp (0<=m/\m < n/\m < S.len d))) (.elt d m.toNat 0)else none
   | none=>none)
  | _,_=>none)
def yl (T:TypeId->Option Ty)(S:Sh D)(c:Nat->Option (Bk D))(t:TypeId)(x y:Sl D):Option (Out D):=
 match U4 T t with
 | none=>none
 | some (e,n,a)=>(match x,y with
  | .one (.lf (.opt l i j s)), .one (.agg cs)=>if Nat.beq i 0 && (Nat.beq j 0 && Nat.beq s a) && cs.all Lf.storable then(match c l with
   | some (.row f d)=>(match S.make e n (cs.map Lf.norm)with
    | some b=>if Nat.beq a (S.size d) && Nat.beq a (S.size b)then some ⟨some (dp (S.len d=n)), .one (.lf .any),[(l,some (.row f b))]⟩else none
    | none=>none)
   | _=>none)else none
  | _,_=>none)
def XK (cs:List (Lf D))(a j:Nat):Nat->Nat->List (Lf D)
 | _,0=>[]
 | r,n+1=>(match cs[r*a+j]? with
  | some x=>x
  | none=> .any)::XK cs a j (r+1) n
def intsOf (k:IntKind):List (Lf D)->Option (List Int)
 | []=>some []
 | .int a n::r=>if kEq k a then(match intsOf k r with
  | some l=>some (n::l)
  | none=>none)else none
 | _=>none
def strsOf:List (Lf D)->Option (List (List UInt8))
 | []=>some []
 | .str s::r=>(match strsOf r with
  | some l=>some (s::l)
  | none=>none)
 | _=>none
def IG:List (Lf D)->Option (List Bool)
 | []=>some []
 | .bool b::r=>(match IG r with
  | some l=>some (b::l)
  | none=>none)
 | _=>none
def afP (cs:List (Lf D))(i:Nat):Option (Lf D):=
 match cs with
 | .int k n::r=>(match intsOf k (.int k n::r)with
  | some l=>some (.int k (l.getD i 0))
  | none=>none)
 | .str s::r=>(match strsOf (.str s::r)with
  | some l=>some (.str (l.getD i []))
  | none=>none)
 | .bool b::r=>(match IG (.bool b::r)with
  | some l=>some (.bool (l.getD i false))
  | none=>none)
 | _=>none
def pickRow (cs:List (Lf D))(a n i:Nat):Nat->Nat->Option (List (Lf D))
 | _,0=>some []
 | j,m+1=>(match afP (XK cs a j 0 n) i,pickRow cs a n i (j+1) m with
  | some x,some b=>some (x::b)
  | _,_=>none)
def KI (T:TypeId->Option Ty)(t:TypeId)(x i:Sl D):Option (Out D):=
 match L9 T t with
 | none=>none
 | some (e,n,a)=>(match T e with
  | none=>none
  | some b=>(match x,i with
   | .one (.agg cs), .one (.lf (.int _ m))=>if Nat.beq cs.length (n*a) && Nat.beq b.size a then(match pickRow (cs.map Lf.norm) a n m.toNat 0 a with
    | some c=>if b.agg then some ⟨some (dp (0<=m/\m < n)), .one (.agg c),[]⟩else(match c with
     | [l]=>some ⟨some (dp (0<=m/\m < n)), .one (.lf l),[]⟩
     | _=>none)
    | none=>none)else none
   | _,_=>none))
def Qv (T:TypeId->Option Ty)(a:Nat->Sl D)(t:TypeId)(parts:Array (Nat×Operand)):Option (Out D):=
 match L9 T t with
 | none=>none
 | some (e,n,b)=>(match T t with
  | none=>none
  | some c=>(match yw b a parts.toList (c.zero.map xx)with
   | some cs=>some ⟨none, .one (.agg cs),[]⟩
   | none=>none))
def ML (T:TypeId->Option Ty)(S:Sh D)(c:Nat->Option (Bk D))(g:Array TypeId)(x:Sl D):Option (Out D):=
 match g.toList with
 | [t]=>(match T t with
  | none=>none
  | some m=>(match m.elem with
   | none=>none
   | some e=>(match T e with
    | none=>none
    | some b=>(match x with
     | .one (.lf (.part l i j a f))=>(match c l with
      | some (.row k d)=>if Nat.beq a b.size && (Nat.beq a (S.size d) && (Nat.blt 0 a && Nat.beq b.zero.length a))then
       (match S.sub d 0 i,S.zero e (j - i) (b.zero.map fun v=>(xx v).norm)with
       | some p,some z=>(match S.cat p z with
        | some h=>some ⟨some (dp (j=S.len d)), .sO [],[(l,some (.row k h))]⟩
        | none=>none)
       | _,_=>none)else none
      | _=>none)
     | _=>none))))
 | _=>none
def lX (T:TypeId->Option Ty)(S:Sh D)(a:Nat->Sl D)(b:Nat->Option (Bk D))(d:Nat)(e:Op):Option (Out D):=
 match e with
 | .alloc t=>aaq T S d t
 | .load t x=>D7 T S b t (aB a x)
 | .store t x y=>yl T S b t (aB a x) (aB a y)
 | .indexAddr t x i=>Ii T S t (aB a x) (aB a i)
 | .index t x i=>KI T t (aB a x) (aB a i)
 | .build t parts=>Qv T a t parts
 | .call c=>(match c.callee with
  | .builtin .clear=>(match c.args.toList with
   | [x]=>ML T S b c.argTypes (aB a x)
   | _=>none)
  | _=>none)
 | .makeInterface t x=>aEI T t (aB a x)
 | .typeAssert x _ t true=>abr T t (aB a x)
 | _=>none
def vF (T:TypeId->Option Ty)(S:Sh D)(f:FuncId->Option (Ct D))(a:Nat->Sl D)(b:Nat->Option (Bk D))(d:Nat)(e:Op):Option (Out D):=
 match lX T S a b d e with
 | some c=>some c
 | none=>vC T S f a b d e
end
section
variable {D:Type}{P:Program}{S:Sh D}{T:TypeId->Option Ty}{Γ:FuncId->Option (Ct D)}{M M' N:Nat->Prop}{w w':World}{w0:Bs}{g g':Nat->Option Value}{blk blk':Nat->Option (Bk D)}{al:Nat->Prop}
 {a:Act} {o:Oper} {K:Act->World->Prop} {Q:Exit->Act->World->Prop} {slot b_:Nat->Sl D} {out:Out D} {fr:Nat}
theorem x_ (c:∀t a,T t=some a->fB P t a){t e:TypeId}{n g:Nat}(h:L9 T t=some (e,n,g)):∃a b,T t=some a/\T e=some b/\b.size=g/\0 < g/\a.size=n*g/\a.agg=true/\P.underlying t=some (.array n e)/\fB P t a/\fB P e b:=by
 unfold L9 at h;split at h
 ·cases h
 ·rename_i a d;split at h
  ·cases h
  ·rename_i p o j;split at h
   ·cases h
   ·rename_i b i;split at h
    ·rename_i f;simp only[iT]at f;injection h with h
     injection h with m h
     injection h with k l
     subst m k l;exact⟨a,b,d,i,rfl,by simpa[CE]using f.1.1,Qa f.1.2,f.2,aDA (c _ _ d) j,c _ _ d,c _ _ i⟩
    ·cases h
theorem xe (d:∀t a,T t=some a->fB P t a){t e:TypeId}{n b:Nat}(h:U4 T t=some (e,n,b)):∃a c,T t=some a/\T e=some c/\c.size=b/\0 < b/\a.size=n*b/\a.agg=true/\P.underlying t=some (.array n e)/\fB P t a/\fB P e c:=by
 unfold U4 at h;split at h
 ·cases h
 ·split at h
  ·cases h
  ·exact x_ d h
theorem xM {d:D}{ad:Addr}{sz:Nat}:∀(n i:Nat),(∀r,r < n->∃a:List Value,a.length=sz/\aZ S M w g (BO S d (i+r) 0 sz) a/\∀k u,a[k]? =some u->w.cell? (ad.add ((i+r)*sz+k))=some u)->
  ∃a:List Value,a.length=n*sz/\aZ S M w g (KF S d sz i n) a/\∀k u,a[k]? =some u->w.cell? (ad.add (i*sz+k))=some u
 | 0,i,_=>⟨[],by simp,trivial,fun k u b=>by simp at b⟩
 | n+1,i,h=>by
  obtain⟨c,l1,l,j⟩:=h 0 au;obtain⟨m,o,e,f⟩:=xM n (i+1) (fun r q=>by have:=h (r+1) au;rwa [show i+(r+1)=i+1+r by omega]at this);refine⟨c++m,by rw[qO,l1,o,Qcf];omega,l.append e,fun k u b=> ?_⟩;by_cases p:k < sz
  ·rw[Qa6 au]at b;exact j k u b
  ·rw[Qay au,l1]at b;have:=f _ u b;rw[Qcf,show i*sz+sz+(k - sz)=i*sz+k by omega]at this;exact this
theorem aCi {i j s a:Nat}(h:(Nat.beq i 0 && (Nat.beq j 0 && Nat.beq s a))=true):i=0/\j=0/\s=a:=by
 simp only[iT]at h;exact⟨Qa h.1,Qa h.2.1,Qa h.2.2⟩
theorem adi {t:TypeId}{x:Operand}(ho:o.op= .load t x)(X:∀t H,T t=some H->fB P t H)(h:Hp S w0 N blk g al w)(y:(aB slot x).Rel S (aV N blk g) w g (a.eval x))
  (c:D7 T S blk t (aB slot x)=some out) (E:lY out.pre) (hK:Post S w0 N blk g al w fr out o.dst a K):o.wp P a w K Q:=by
 unfold D7 at c;split at c
 ·cases c
 ·rename_i e n sz R;obtain⟨H,te,hty,hte,hsz,h0,Wn,Z,xG,G,HY⟩:=xe X R;have J:=wz G w;have PE:=kU G w;have F:∀(ad:Addr) (f:List Value) (V:List (Lf D)),a.eval x= .pointer (some ad)->f.length=n*sz->aZ S (aV N blk g) w g V f->(∀k u,f[k]? =some u->w.cell? (ad.add (0*sz+k))=some u)->out=⟨out.pre, .one (.agg V),[]⟩->o.wp P a w K Q:=by
   intro ad f V I z m q W;have A:=run_loadCells (P:=P) (w:=w) ad f 0 #[] (fun k u C=>by have:=q k u C;simpa using this);rw[z,<-Wn]at A;refine bf (v:= .agg f.toArray) ?_ h hK (by rw[W]) (by rw[W];exact⟨_,rfl,m⟩);simp[execOp,ho,Instr.loadAt,Instr.sureAddr,I,loadVar,J,Z,PE,loadCells,A]
  split at c
  ·rename_i l i j s B;rw[B]at y;obtain⟨b,n',cap,hg,I⟩:=y;split at c
   ·rename_i q;obtain⟨rfl,rfl,rfl⟩:=aCi q;split at c
    ·rename_i e' d hb;split at c
     ·rename_i p;have p:=Qa p;injection c with c
      subst c;have E:S.len d=n:=E;obtain⟨f,z,m,q⟩:=xM (S:=S) (M:=aV N blk g) (w:=w) (g:=g) (d:=d) (ad:=⟨b,0,none⟩) (sz:=s) n 0 (fun r m=>by
       obtain⟨f,O,L,U⟩:=wo h hb hg (i:=0+r) au s 0 au;refine⟨f,O,L,fun k u C=> ?_⟩;have:=U k u C;rw[lM];rw[<-p]at this;simpa using this)
      exact F ⟨b,0,none⟩ f _ (by rw[I];simp) z m q rfl
     ·cases c
    ·cases c
   ·cases c
  ·rename_i k B;rw[B]at y;have y:a.eval x= .pointer (some ⟨k,0,none⟩):=y;split at c
   ·rename_i d hd;split at c
    ·rename_i p;have p:=Qa p;injection c with c
     subst c;have E:S.len d=n:=E;have Y:=h.gl k d hd;obtain⟨f,z,m,q⟩:=xM (S:=S) (M:=aV N blk g) (w:=w) (g:=g) (d:=d) (ad:=⟨k,0,none⟩) (sz:=sz) n 0 (fun r m=>by
      obtain⟨f,O,L,U⟩:=yf (g:=g) Y (i:=0+r) au sz 0 au;refine⟨f,O,L,fun k' u C=> ?_⟩;have:=U k' u C;rw[<-p]at this;simpa using this)
     exact F ⟨k,0,none⟩ f _ y z m q rfl
    ·cases c
   ·cases c
  ·cases c
theorem ZT {t:TypeId}{x r:Operand}(E:o.op= .indexAddr t x r)(G:∀t z,T t=some z->fB P t z)(h:Hp S w0 N blk g al w)(p:(aB slot x).Rel S (aV N blk g) w g (a.eval x))
  (f:(aB slot r).Rel S (aV N blk g) w g (a.eval r)) (c:Ii T S t (aB slot x) (aB slot r)=some out) (H:lY out.pre) (J:Post S w0 N blk g al w fr out o.dst a K):o.wp P a w K Q:=by
 unfold Ii at c;split at c
 ·cases c
 ·rename_i e n sz C;obtain⟨z,te,Y,X,u,h0,Wn,Z,D,W,L⟩:=xe G C;have F:=kU L w;split at c
  ·rename_i l i0 j s k m i q;rw[i]at p;rw[q]at f;simp only[Sl.Rel,Sv.Rel,Lf.Rel]at f;obtain⟨b,M,I,U,O⟩:=p;split at c
   ·rename_i R;obtain⟨rfl,rfl,rfl⟩:=aCi R;injection c with c
    subst c;obtain⟨A,y⟩:=H;refine bf (v:= .pointer (some ⟨b,m.toNat*s+0,none⟩)) ?_ h J rfl ⟨b,M,I,U,rfl⟩;simp[execOp,E,Instr.indexAt,Instr.sureAddr,f,asIntOf,run_underlying D,O,A,y,F,u,lM]
   ·cases c
  ·rename_i k ki m i q;rw[i]at p;rw[q]at f;simp only[Sl.Rel,Sv.Rel,Lf.Rel]at f p;split at c
   ·rename_i d V;split at c
    ·rename_i B;have B:=Qa B;injection c with c
     subst c;obtain⟨A,y,p3⟩:=H;refine bf (v:= .pointer (some (Addr.add ⟨k,0,none⟩ (m.toNat*S.size d+0)))) ?_ h J rfl ⟨_,_,_,h.gl k d V,by omega,rfl⟩;simp[execOp,E,Instr.indexAt,Instr.sureAddr,f,asIntOf,run_underlying D,p,A,y,F,u,B]
    ·cases c
   ·cases c
  ·cases c
theorem abY {t:TypeId}(u:iL S)(R:o.op= .alloc t)(H:∀t p,T t=some p->fB P t p)(h:Hp S w0 N blk g al w)(G:∀n,fr<=n->n < fr+64->¬al n)
  (c:aaq T S fr t=some out) (Z:Post S w0 N blk g al w fr out o.dst a K):o.wp P a w K Q:=by
 unfold aaq at c;split at c
 ·cases c
 ·rename_i e n sz B;obtain⟨p,te,I,ab,aa,h0,Wn,ac,xG,F,HY⟩:=xe H B;rw[I]at c;dsimp only at c;split at c
  ·cases c
  ·rename_i d M;split at c
   ·rename_i C;simp only[iT]at C;have hs:=Qa C.1;have hn:=U5 C.2;injection c with c
    subst c;obtain⟨z,X,s⟩:=A7 F w;obtain⟨k,J,V⟩:=u.make _ _ _ _ M;rw[Qbn]at J;have f:z.cells.size=n*S.size d:=by rw[<-J,<-s];simp
    have y:(execOp a.eval o).run P w= .ok (.value (.pointer (some ⟨w.heap.size,0,none⟩))) (w.alloc (.cells z.cells t)):=by
     simp[execOp,R,Instr.alloc,X,newVar,newRow,newObj,Sem.run]
    have Y:Below w.heap.size w (w.alloc (.cells z.cells t)):=(Below.refl w.heap.size w).alloc (oC _) _;obtain⟨W,U,O⟩:=h.add (l:=fr) (bk:= .row t d) (v:= .slice (some ⟨w.heap.size,0,none⟩) n n) Y (G fr (oC _) au) (fun b A=>by simp[eP]at A;omega)
     (fun M' hk _=>by
      refine⟨⟨fun b A=> .inl ?_,by rw[k];omega,u.Wv _ _ _ _ M⟩,z.cells.toList,⟨?_, .inr ⟨w.heap.size,n,z.cells,by rw[k],vP _,heap_alloc_new w _,by omega,by simp only[maxLen];omega,f,?_⟩⟩,fun m j i x=> ?_⟩
      ·simp only[eP,Nj]at A;have:=h.below.size;omega
      ·rw[WJ,k,f]
      ·rw[Qdt];rw[WJ,k,f];exact oC _
      ·rw[k]at i;obtain⟨x0,r,D⟩:=V m j i x;have E:=oQ i x;have q:m*S.size d+j < z.cells.size:=by rw[f];exact E
       refine⟨z.cells[m*S.size d+j],by simp[q],u.data _ _ _ au x,D.rel ?_⟩;have L:p.zero[m*S.size d+j]? =some z.cells[m*S.size d+j]:=by rw[<-s];simp[q]
       simp only[Qbf,L,H6,Nj]at r;rw[<-r];exact(zV _).norm)
    exact kJ y (Z _ _ _ O U (W.weaken UL) ⟨w.heap.size,n,n,upd_same _ _ _,by simp⟩)
   ·cases c
theorem aaR {t:TypeId}{x y:Operand}(J:iL S)(ho:o.op= .store t x y)(hTy:∀t D,T t=some D->fB P t D)(h:Hp S w0 N blk g al w)(hx:(aB slot x).Rel S (aV N blk g) w g (a.eval x))(hy:(aB slot y).Rel S (aV N blk g) w g (a.eval y))
  (c:yl T S blk t (aB slot x) (aB slot y)=some out) (k:lY out.pre) (hK:Post S w0 N blk g al w fr out o.dst a K):o.wp P a w K Q:=by
 unfold yl at c;split at c
 ·cases c
 ·rename_i e n sz U;obtain⟨D,te,hty,hte,hsz,h0,Wn,hag,xG,hok,HY⟩:=xe hTy U;have PE:=kU hok w;split at c
  ·rename_i l i j s cs hex CY;rw[hex]at hx;rw[CY]at hy;obtain⟨b,n',cap,hg,hv⟩:=hx;split at c
   ·rename_i hc;simp only[iT]at hc;obtain⟨⟨R,L,V⟩,c4⟩:=hc;have R:=Qa R;have L:=Qa L;have V:=Qa V;subst R L V;split at c
    ·rename_i O d hb;split at c
     ·rename_i d' hd;split at c
      ·rename_i Y;simp only[iT]at Y;have B:=Qa Y.1;have m:=Qa Y.2;injection c with c
       subst c;have k:S.len d=n:=k;obtain⟨q,m2,m3⟩:=J.make _ _ _ _ hd;rw[Qbn]at m2;obtain⟨r,hus,u⟩:=hy;have aa:=u.length;obtain⟨v,p,hm,xs,⟨hxl,X⟩,hcell⟩:=h.dn l _ hb;rw[hg]at p;injection p with p
       subst p;rcases X with⟨q0,_⟩ | ⟨b',cap',f,hvv,_,hh,F,hcm,H,htake⟩
       ·cases q0
       ·injection hvv with A q2 q3
        injection A with A
        injection A with A
        subst A q2 q3;have ab:w.heap[b]? =some (.cells (f.toList).toArray O (0,0)):=by simpa using hh
        have hcap:S.len d*S.size d<=f.toList.length:=by rw[WJ,H];exact Qba _ F
        have z:r.length=S.len d*S.size d:=by rw[<-aa,m2,k,<-m,<-B]
        obtain⟨w',W,hb',M,hsm,r1,r2,r3⟩:=lF (P:=P) b O r w f.toList 0 0 ab au (kF h.refs c4 u);have C:(execOp a.eval o).run P w= .ok .skip w':=by
         have I:r.length=D.size:=by rw[Wn,z,k,B]
         simp[execOp,ho,Instr.storeAt,Instr.sureAddr,hv,storeVar,PE,hus,Value.cells,I,W]
        obtain⟨hp',hk'⟩:=h.write (bk':= .row O d') hb rfl rfl hg rfl r1 r2 r3 hsm M (fun hk=>by
         refine⟨⟨hm.1,by rw[q,<-k];exact hm.2.1,by apply J.Wv;assumption⟩,r,⟨by rw[z,q,k,<-m,<-B], .inr ⟨b,cap,(f.toList.take (0+0)++(r++f.toList.drop (0+0+r.length))).toArray,by rw[q,<-k],vP _,hb',by rw[q,<-k];exact F,hcm,?_,?_⟩⟩,fun i' j' E G=> ?_⟩
         ·rw[<-m,B,<-H];simp only[Qc2,qO,zC,Qbe];have:=WJ (xs:=f);omega
         ·rw[q,<-m,<-k,B,<-z];simp
         ·rw[q]at E;obtain⟨x0,hx0,Z⟩:=m3 i' j' E G;obtain⟨uv,huv,hrv⟩:=u.norm.get _ hx0;exact⟨uv,huv,J.data _ _ _ au G,(Z.rel hrv).keep hk (More.refl _)⟩)
        exact JG C (hK _ _ _ (More.refl _) hk' (hp'.weaken fun n M=> .inl M) trivial)
      ·cases c
     ·cases c
    ·cases c
   ·cases c
  ·cases c
theorem akD {cs:List (Lf D)}{a j:Nat}:∀(n r k:Nat),k < n->(XK cs a j r n)[k]? =some (match cs[(r+k)*a+j]? with
  | some x=>x
  | none=> .any)
 | 0,r,k,h=>by omega
 | n+1,r,0,h=>by simp[XK]
 | n+1,r,k+1,h=>by
  simp only[XK,List.getElem?_cons_succ];rw[akD n (r+1) k au,show r+1+k=r+(k+1) by omega]
theorem acg {k:IntKind}:∀{cs:List (Lf D)} {l:List Int},intsOf k cs=some l->∀(i:Nat) (x:Lf D),cs[i]? =some x->x= .int k (l.getD i 0)
 | [],l,h,i,x,hx=>by simp at hx
 | c::cs,l,h,i,x,hx=>by
  cases c with
  | int b n=>
   simp only[intsOf]at h;split at h
   ·rename_i a;have a:k=b:=by simpa[kEq]using a
    subst a;split at h
    ·rename_i e d;injection h with h
     subst h;cases i with
     | zero=>simp at hx;simp[<-hx]
     | succ i=>have:=acg d i x qcv;simpa using this
    ·cases h
   ·cases h
  | _=>simp[intsOf]at h
theorem strs_get:∀{cs:List (Lf D)} {l:List (List UInt8)},strsOf cs=some l->∀(i:Nat) (x:Lf D),cs[i]? =some x->x= .str (l.getD i [])
 | [],l,h,i,x,hx=>by simp at hx
 | c::cs,l,h,i,x,hx=>by
  cases c with
  | str s=>
   simp only[strsOf]at h;split at h
   ·rename_i b a;injection h with h
    subst h;cases i with
    | zero=>simp at hx;simp[<-hx]
    | succ i=>have:=strs_get a i x qcv;simpa using this
   ·cases h
  | _=>simp[strsOf]at h
theorem XR:∀{cs:List (Lf D)} {l:List Bool},IG cs=some l->∀(i:Nat) (x:Lf D),cs[i]? =some x->x= .bool (l.getD i false)
 | [],l,h,i,x,hx=>by simp at hx
 | c::cs,l,h,i,x,hx=>by
  cases c with
  | bool s=>
   simp only[IG]at h;split at h
   ·rename_i b a;injection h with h
    subst h;cases i with
    | zero=>simp at hx;simp[<-hx]
    | succ i=>have:=XR a i x qcv;simpa using this
   ·cases h
  | _=>simp[IG]at h
theorem aqp {cs:List (Lf D)}{i:Nat}{p x:Lf D}(h:afP cs i=some p)(b:cs[i]? =some x):x=p:=by
 unfold afP at h;split at h
 ·split at h
  ·rename_i l a;injection h with h;subst h;exact acg a i x b
  ·cases h
 ·split at h
  ·rename_i l a;injection h with h;subst h;exact strs_get a i x b
  ·cases h
 ·split at h
  ·rename_i l a;injection h with h;subst h;exact XR a i x b
  ·cases h
 ·cases h
theorem OG {cs:List (Lf D)}{b:List Value}{a n i:Nat}(l:aZ S M w g cs b)(q:cs.length=n*a)(k:i < n):∀(m j:Nat) (e:List (Lf D)),j+m=a->pickRow cs a n i j m=some e->aZ S M w g e ((b.drop (i*a+j)).take m)
 | 0,j,e,r,h=>by simp[pickRow]at h;subst h;simp[aZ]
 | m+1,j,e,r,h=>by
  unfold pickRow at h;split at h
  ·rename_i x y v t;injection h with h
   subst h;have A:=oQ k (show j < a by omega);have c:i*a+j < cs.length:=by omega
   have z:(XK cs a j 0 n)[i]? =some cs[i*a+j]:=by
    rw[akD n 0 i k,FQ,Ph c]
   have p:=aqp v z;obtain⟨u,d,o⟩:=l.get (i*a+j) (Ph c);have f:i*a+j < b.length:=by rw[<-l.length];exact c
   have s:b.drop (i*a+j)=u::b.drop (i*a+(j+1)):=by
    rw[Qbo f];rw[Ph f]at d;injection d with d
    rw[d];rfl
   rw[s,Qdi];exact⟨p▸o,OG l q k m (j+1) y au t⟩
  ·cases h
theorem aan {t:TypeId}{x s:Operand}(I:o.op= .index t x s)(L:∀t D,T t=some D->fB P t D)(h:Hp S w0 N blk g al w)(X:(aB slot x).Rel S (aV N blk g) w g (a.eval x))
  (y:(aB slot s).Rel S (aV N blk g) w g (a.eval s)) (b:KI T t (aB slot x) (aB slot s)=some out) (O:lY out.pre) (Y:Post S w0 N blk g al w fr out o.dst a K):o.wp P a w K Q:=by
 unfold KI at b;split at b
 ·cases b
 ·rename_i e n c E;obtain⟨D,te,hty,V,B,h0,Wn,hag,H,hok,G⟩:=x_ L E;rw[V]at b;dsimp only at b;have z:=kU G w;have C:=wz G w;split at b
  ·rename_i cs k m M U;rw[M]at X;rw[U]at y;simp only[Sl.Rel,Sv.Rel,Lf.Rel]at y;obtain⟨d,J,hr⟩:=X;split at b
   ·rename_i W;simp only[iT]at W;have hl:=Qa W.1;split at b
    ·rename_i Z R;have A:0<=m/\m < n->aZ S (aV N blk g) w g Z ((d.drop (m.toNat*c)).take c):=fun hm=>by
      have:=OG hr.norm (by rw[Qbn];exact hl) (show m.toNat < n by omega) c 0 Z au R;simpa using this
     split at b
     ·rename_i q;injection b with b
      subst b;obtain⟨i,f⟩:=O;have j:=A ⟨i,f⟩;refine bf (v:= .agg ((d.drop (m.toNat*c)).take c).toArray) ?_ h Y rfl ⟨_,rfl,j⟩;have he:d.toArray.extract (m.toNat*c) (m.toNat*c+c)=((d.drop (m.toNat*c)).take c).toArray:=by
       apply H5.1;simp[Qdb]
      simp[execOp,I,Instr.index,y,asIntOf,run_underlying H,J,i,f,part,C,q,z,B,he]
     ·rename_i q;split at b
      ·rename_i l;injection b with b
       subst b;obtain⟨i,f⟩:=O;have j:=A ⟨i,f⟩;have p:=j.length;cases F:(d.drop (m.toNat*c)).take c with
       | nil=>rw[F]at p;simp at p
       | cons u r=>
        rw[F]at j p;have hu:d[m.toNat*c]? =some u:=by
         have:((d.drop (m.toNat*c)).take c)[0]? =some u:=by rw[F];rfl
         rw[Zp,mV h0,Qbj]at this;simpa using this
        refine bf (v:=u) ?_ h Y rfl j.1;simp[execOp,I,Instr.index,y,asIntOf,run_underlying H,J,i,f,part,C,q,z,B,hu]
      ·cases b
    ·cases b
   ·cases b
  ·cases b
theorem abN {t:TypeId}{parts:Array (Nat×Operand)}(C:o.op= .build t parts)(r:∀t f,T t=some f->fB P t f)(h:Hp S w0 N blk g al w)
  (D:∀t,(slot t).Rel S (aV N blk g) w g (a.tmps.getD t undef)) (b:Qv T slot t parts=some out) (G:Post S w0 N blk g al w fr out o.dst a K):o.wp P a w K Q:=by
 unfold Qv at b;split at b
 ·cases b
 ·rename_i e n sz j;obtain⟨f,J,s,H,q,L,M,I,B,m,A⟩:=x_ r j;rw[s]at b;dsimp only at b;split at b
  ·rename_i cs E;injection b with b
   subst b;obtain⟨z,F,y⟩:=A7 m w;have l:=kU A w;obtain⟨d,c,u⟩:=UF (a:=a) (sz:=sz) h.refs D parts.toList _ cs z.cells (by rw[y];exact qY _) E;refine bf (v:= .agg d) ?_ h G rfl ⟨d.toList,by simp,u⟩;have k:parts.toList.map (fun p=>(p.1,a.eval p.2))=(parts.map fun(i,x)=>(i,a.eval x)).toList:=by simp
   rw[k]at c;simp at c;simp[execOp,C,Instr.build,F,run_underlying B,l,q,c]
  ·cases b
theorem Yw {L:TypeId}{d p z o:D}{b i j n m:Nat}{G:List (Lf D)}{zv:List Value}{cur a:Array Value}{e:TypeId}(q:iL S)(hm:w0.Mine b)(N:S.len d<=9223372036854775807)
  (hij:i<=j) (hj:j=S.len d) (E:n=S.len d) (C:S.sub d 0 i=some p) (hz:S.zero e (j - i) G=some z) (Q:S.cat p z=some o)
  (B:∀r c,r < S.len d->c < S.size d->∃u,cur[r*S.size d+c]? =some u/\(S.cell d r c).jE=true/\(S.cell d r c).Rel S M w' g u)
  (I:aZ S M w' g G zv) (t:n<=m) (O:m<=maxLen) (A:a.size=m*S.size d)
  (X:w'.heap[b]? =some (.cells a L (0,0))) (h1:∀k,k < i*S.size d->a[k]? =cur[k]?) (h2:∀r c,i<=r->r < j->c < S.size d->a[r*S.size d+c]? =zv[c]?):
  xC S M w' g w0 (.row L o) (.slice (some ⟨b,0,none⟩) n m):=by
 obtain⟨a1,a2,a3⟩:=q.sub _ _ _ _ C (vP _) au;obtain⟨P,z2,T⟩:=q.zero _ _ _ _ hz;obtain⟨Y,V,R,W,c5⟩:=q.cat _ _ _ Q;have h:S.size o=S.size d:=by rw[<-Y,a1]
 have Z:S.size z=S.size d:=by rw[V,h]
 have f:S.len o=S.len d:=by rw[R,a2,P];omega
 have w:S.len d*S.size d<=a.size:=by rw[A,<-E];exact Qba _ t
 refine⟨⟨fun b' y=>by simp only[eP,Nj]at y;exact y▸hm,by rw[f];exact N,q.Wu _ _ _ Q⟩,a.toList.take (S.len d*S.size d),⟨?_, .inr ⟨b,m,a,by rw[f,E],vP _,X,by rw[f,<-E];exact t,O,by rw[h];exact A,by rw[f,h]⟩⟩,fun r c F v=> ?_⟩
 ·rw[zC,WJ,f,h];omega
 ·rw[f]at F;rw[h]at v;have J:=oQ F v;have s:=q.data o r c au au;rw[h,Zp,mV J,Qb3];by_cases H:r < i
  ·obtain⟨u,q1,q2,q3⟩:=B r c F v;have l:S.cell o r c=S.cell d r c:=by
    rw[W r c (by rw[a2];omega),a3 r c au,FQ]
   refine⟨u,by rw[h1 _ (by have:=oQ H v;omega)];exact q1,s,by rw[l];exact q3⟩
  ·have l:S.cell o r c=S.cell z (r - i) c:=by
    have:=c5 (r - i) c (by rw[P];omega);rw[a2]at this;rw[<-this];congr 1;omega
   obtain⟨x,hx,w⟩:=T (r - i) c au au;obtain⟨u,U,K⟩:=I.get c hx;refine⟨u,by rw[h2 r c au au v];exact U,s,by rw[l];exact w.rel K⟩
theorem LK {z:Array Value}{n k:Nat}(a:k < n*z.size):(Builtin.zeroCells z n).toList[k]? =z[k % z.size]? :=by
 have c:0 < z.size:=by
  rcases Qcm z.size with h | h
  ·rw[h,Nat.mul_zero]at a;omega
  ·exact h
 have b:k % z.size < z.size:=Qc0 _ c;simp[Builtin.zeroCells,a,b]
theorem acb {c:Call}{x:Operand}(F:iL S)(ho:o.op= .call c)(A:c.callee= .builtin .clear)(hargs:c.args.toList=[x])(hTy:∀t ty,T t=some ty->fB P t ty)(h:Hp S w0 N blk g al w)(hx:(aB slot x).Rel S (aV N blk g) w g (a.eval x))
  (s:ML T S blk c.argTypes (aB slot x)=some out) (hp:lY out.pre) (hK:Post S w0 N blk g al w fr out o.dst a K):o.wp P a w K Q:=by
 unfold ML at s;split at s
 ·rename_i t hts;split at s
  ·cases s
  ·rename_i ty hty;split at s
   ·cases s
   ·rename_i e hel;split at s
    ·cases s
    ·rename_i te hte;split at s
     ·rename_i l i j y f hex;rw[hex]at hx;obtain⟨av,n,X,I,E,hij,hjn,_⟩:=hx;split at s
      ·rename_i e' d Y;split at s
       ·rename_i W;simp only[iT]at W;obtain⟨q1,q2,q3,q4⟩:=W;have q1:=Qa q1;have q2:=Qa q2;have q3:0 < y:=by simpa[CE]using q3
        have q4:=Qa q4;split at s
        ·rename_i p z J hz;split at s
         ·rename_i d' FU;injection s with s
          subst s;have hj:j=S.len d:=hp;have hsl:=kG (hTy _ _ hty) hel;obtain⟨zv,hzv,hzc⟩:=A7 (hTy _ _ hte) w;have O:zv.cells.size=y:=by rw[<-q4,<-hzc];simp
          obtain⟨v,C,hm,xs,⟨hxl,hown⟩,hcell⟩:=h.dn l _ Y;rw[I]at C;injection C with C
          have aa:c.args= #[x]:=by rw[<-H5];simpa using hargs
          have ht1:c.argTypes= #[t]:=by rw[<-H5];simpa using hts
          rcases hown with⟨h0,hn0⟩ | ⟨b,cap',cur,hvv,_,hh,hnc,hcm,hcs,htake⟩
          ·rw[h0]at C;injection C with e1 e2 e3
           subst e1 e2 e3;have hj0:j=0:=by omega
           have hi0:i=0:=by omega
           subst hj0 hi0;obtain⟨a1,a2,a3⟩:=F.sub _ _ _ _ J (vP _) au;obtain⟨z1,z2,z3⟩:=F.zero _ _ _ _ hz;obtain⟨c1,c2,c3,c4,c5⟩:=F.cat _ _ _ FU;have hl0:S.len d'=0:=by rw[c3,a2,z1]
           obtain⟨g1,g2⟩:=h.aiC (bk':= .row e' d') Y rfl rfl I ⟨⟨fun b Y=>by simp[eP]at Y,by omega,F.Wu _ _ _ FU⟩,[],⟨by simp[hl0], .inl ⟨rfl,hl0⟩⟩,fun r c hr=>by omega⟩;have B:(execOp a.eval o).run P w= .ok (.value (.tuple #[])) w:=by
            have E:a.eval x= .slice none 0 0:=by rw[E];simp[sliced]
            simp[execOp,ho,resolve,A,invoke,builtin,aa,ht1,Builtin.clear_,run_underlying hsl,E]
           exact kJ B (hK _ _ _ (More.refl _) g2 (g1.weaken fun n H=> .inl H) ⟨[],rfl,trivial⟩)
          ·rw[hvv]at C;injection C with e1 e2 e3
           subst e1 e2 e3;have hold:∀r c,r < S.len d->c < S.size d->∃u,cur[r*S.size d+c]? =some u/\(S.cell d r c).jE=true/\(S.cell d r c).Rel S (aV N blk g) w g u:=by
            intro r c hr A;obtain⟨u,u1,u2,u3⟩:=hcell r c hr A;refine⟨u,?_,u2,u3⟩;rw[<-u1,<-htake,Zp,mV (oQ hr A),Qb3]
           have hmb:w0.Mine b:=hm.1 b (by rw[hvv];rfl);have R:aZ S (aV N blk g) w g (te.zero.map fun v=>(xx v:Lf D).norm) zv.cells.toList:=by
            have:=(qY (D:=D) (S:=S) (M:=aV N blk g) (w:=w) (g:=g) te.zero).norm;rw[Qcp,<-hzc]at this;rw[<-hzc];exact this
           by_cases hlt:i < j
           ·have aI9:¬X=i:=by omega
            have hva:a.eval x= .slice (some ⟨b,i*y,none⟩) (j - i) (X - i):=by rw[E];simp[sliced,aI9,lM]
            have hh':w.heap[b]? =some (.cells (cur.toList).toArray e' (0,0)):=by simpa using hh
            have Z:(Builtin.zeroCells zv.cells (j - i)).toList.length=(j - i)*y:=by rw[WJ,size_zeroCells,O]
            have hji:i*y+(j - i)*y=j*y:=by rw[<-Qcj];congr 1;omega
            have hjc:j*y<=cur.toList.length:=by rw[WJ,hcs,<-q2];exact Qba _ au
            have hone:(Builtin.zeroCells zv.cells (j - i)).toList.all one'=true:=by
             rw[Rf];intro u hu;obtain⟨k,G,rfl⟩:=Qdh hu;have hk':k < (j - i)*zv.cells.size:=by rw[Z]at G;rw[O];exact G
             have I:=LK hk';rw[Ph G]at I;have hmem:(Builtin.zeroCells zv.cells (j - i)).toList[k]∈zv.cells.toList:=by
              have:=Qdw I.symm;simpa using this
             obtain⟨m,U,he⟩:=Qdh hmem;obtain⟨x0,hx0,hxr⟩:∃x0:Lf D,(te.zero.map fun v=>(xx v:Lf D).norm)[m]? =some x0/\x0.Rel S (aV N blk g) w g zv.cells.toList[m]:=by
              have hlm:=R.length;have hm2:m < (te.zero.map fun v=>(xx v:Lf D).norm).length:=by rw[hlm];exact U
              obtain⟨u,L,hu2⟩:=R.get m (Ph hm2);rw[Ph U]at L;injection L with L
              exact⟨_,Ph hm2,by rw[L];exact hu2⟩
             obtain⟨z1,z2,z3⟩:=F.zero _ _ _ _ hz;have hmz:m < S.size z:=by rw[<-z2];exact(Qa1.1 hx0).1
             obtain⟨x1,V,hle⟩:=z3 0 m au hmz;rw[hx0]at V;injection V with V
             subst V;have:=Rt (F.data z 0 m au hmz) (hle.rel hxr);rw[<-he];exact this
            obtain⟨w',B,hb',H,hsm,r1,r2,r3⟩:=lF (P:=P) b e' (Builtin.zeroCells zv.cells (j - i)).toList w cur.toList (i*y) 0 hh' au hone;generalize hus:(Builtin.zeroCells zv.cells (j - i)).toList=us at*;obtain⟨hp',hk'⟩:=h.write (bk':= .row e' d') Y rfl rfl I rfl r1 r2 r3 hsm H (fun G=>
             Yw (cur:=cur) (zv:=zv.cells.toList) F hmb hm.2.1 hij hj rfl J hz FU (fun r c hr A=>by obtain⟨u,u1,u2,u3⟩:=hold r c hr A;exact⟨u,u1,u2,u3.keep G (More.refl _)⟩)
              (R.keep G (More.refl _)) hnc hcm (by
               rw[<-hcs];simp only[Qc2,qO,zC,Qbe];have:=WJ (xs:=cur);omega) hb' (fun k G=>by
               rw[<-q2]at G;rw[List.getElem?_toArray,Qa6 qby,Zp,mV au,Qb3])
              (fun r c hr1 hr2 A=>by
               rw[<-q2]at A⊢;have hpos:i*y<=r*y:=Qba _ hr1;have hrc:r*y+c - i*y=(r - i)*y+c:=by rw[Nat.sub_mul];omega
               have hlu:(r - i)*y+c < us.length:=by
                rw[Z];exact oQ au A
               rw[List.getElem?_toArray,Qay qby];have hidx:r*y+c - (cur.toList.take (i*y+0)).length=(r - i)*y+c:=by
                simp only[zC];omega
               rw[hidx,Qa6 hlu,<-hus,LK (by rw[O,<-Z];exact hlu),O,Qcr,Qd2,Qbv A,Qb3]))
            have hrun':(execOp a.eval o).run P w= .ok (.value (.tuple #[])) w':=by
             obtain⟨m,U⟩:∃m,j - i=m+1:=⟨j - i - 1,by omega⟩;rw[U]at hva hus;simp[execOp,ho,resolve,A,invoke,builtin,aa,ht1,Builtin.clear_,run_underlying hsl,hva,hzv,hus,B]
            exact kJ hrun' (hK _ _ _ (More.refl _) hk' (hp'.weaken fun n H=> .inl H) ⟨[],rfl,trivial⟩)
           ·have hie:i=j:=by omega
            subst hie;obtain⟨g1,g2⟩:=h.aiC (bk':= .row e' d') Y rfl rfl I (Yw (cur:=cur) (zv:=zv.cells.toList) F hmb hm.2.1 hij hj rfl J hz FU hold R hnc hcm hcs hh (fun _ _=>rfl) (fun r c h1 h2=>by omega));have B:(execOp a.eval o).run P w= .ok (.value (.tuple #[])) w:=by
             have E:∃q,a.eval x= .slice (some q) 0 (X - i):=by
              rw[E];unfold sliced;by_cases hci:X=i
              ·exact⟨_,by rw[mV hci,Qd7]⟩
              ·exact⟨_,by rw[lW hci,Qd7];rfl⟩
             obtain⟨q,E⟩:=E;simp[execOp,ho,resolve,A,invoke,builtin,aa,ht1,Builtin.clear_,run_underlying hsl,E]
            exact kJ B (hK _ _ _ (More.refl _) g2 (g1.weaken fun n H=> .inl H) ⟨[],rfl,trivial⟩)
         ·cases s
        ·cases s
       ·cases s
      ·cases s
     ·cases s
 ·cases s
theorem amw (e:∀t z,T t=some z->fB P t z)(u:∀f v,Γ f=some v->dJ P S f v)(p:iL S)(h:Hp S w0 N blk g al w)(r:∀n,fr<=n->n < fr+64->¬al n)
  (s:∀t,(slot t).Rel S (aV N blk g) w g (a.tmps.getD t undef)) (j:vF T S Γ slot blk fr o.op=some out) (m:lY out.pre) (l:Post S w0 N blk g al w fr out o.dst a K):o.wp P a w K Q:=by
 unfold vF at j;split at j
 ·rename_i B d;injection j with j
  subst j;have k:=oz s;unfold lX at d;split at d
  ·rename_i t b;exact abY p b e h r d l
  ·rename_i t x b;exact adi b e h (k x) d m l
  ·rename_i t x y b;exact aaR p b e h (k x) (k y) d m l
  ·rename_i t x i b;exact ZT b e h (k x) (k i) d m l
  ·rename_i t x i b;exact aan b e h (k x) (k i) d m l
  ·rename_i t parts b;exact abN b e h s d l
  ·rename_i c b;split at d
   ·rename_i A;split at d
    ·rename_i x q;exact acb p b A q e h (k x) d m l
    ·cases d
   ·cases d
  ·rename_i t x b;exact amY b e h (k x) d l
  ·rename_i x C t b;exact Zt b e h (k x) d m l
  ·cases d
 ·exact alO e u p h r s j m l
end
end Go.Vc
namespace Go.Vc
open Go.RowKit
def yZ (s:List UInt8)(p:Nat):Int:=((Utf8.decode ⟨s.toArray⟩ p).1:Nat)
def CU (s:List UInt8)(p:Nat):Nat:=(Utf8.decode ⟨s.toArray⟩ p).2
section
variable {D:Type}
def agN (T:TypeId->Option Ty)(a:Nat)(t:TypeId)(x:Sl D):Option (Out D):=
 match T t with
 | none=>none
 | some b=>(match x with
  | .one (.lf (.str s))=>if Nat.beq b.kind 3 then some ⟨none, .one (.lf (.ptr a 0)),[(a,some (.iter s 0))]⟩else none
  | _=>none)
def wJ (T:TypeId->Option Ty)(S:Sh D)(d:FuncId->Option (Ct D))(a:Nat->Sl D)(b:Nat->Option (Bk D))(c:Nat)(op:Op):Option (Out D):=
 match op with
 | .range t x=>agN T c t (aB a x)
 | op=>vF T S d a b c op
def Cm (a:Nat->Sl D)(b:Nat->Option (Bk D))(d:Op):Option (Bool×Out D×Out D):=
 match d with
 | .next c true=>(match aB a c with
  | .one (.lf (.ptr l o))=>if Nat.beq o 0 then(match b l with
   | some (.iter s p)=>some (decide (p < s.length),⟨none, .sO [.lf (.val (.bool true)), .lf (.int .i64 p), .lf (.int .i32 (yZ s p))],[(l,some (.iter s (p+CU s p)))]⟩,⟨none, .sO [.lf (.val (.bool false))],[]⟩)
   | _=>none)else none
  | _=>none)
 | _=>none
end
section
variable {D:Type}{P:Program}{S:Sh D}{T:TypeId->Option Ty}{Γ:FuncId->Option (Ct D)}{M M' N:Nat->Prop}{w w':World}{w0:Bs}{g g':Nat->Option Value}{blk blk':Nat->Option (Bk D)}{al:Nat->Prop}
 {a:Act} {o:Oper} {K:Act->World->Prop} {Q:Exit->Act->World->Prop} {slot b_:Nat->Sl D} {out:Out D} {fr:Nat}
theorem ad7 {t:TypeId}{x:Operand}(z:o.op= .range t x)(m:∀t j,T t=some j->fB P t j)(h:Hp S w0 N blk g al w)(k:∀n,fr<=n->n < fr+64->¬al n)(f:(aB slot x).Rel S (aV N blk g) w g (a.eval x))
  (c:agN T fr t (aB slot x)=some out) (E:Post S w0 N blk g al w fr out o.dst a K):o.wp P a w K Q:=by
 unfold agN at c;split at c
 ·cases c
 ·rename_i j q;split at c
  ·rename_i s p;rw[p]at f;simp only[Sl.Rel,Sv.Rel,Lf.Rel]at f;split at c
   ·rename_i e;have e:=Qa e;obtain⟨d,r,u⟩:=ni (m _ _ q);rw[e]at u;have r:P.underlying t=some .string:=by cases d<;>simp_all [kindOf]
    injection c with c
    subst c;have i:(execOp a.eval o).run P w= .ok (.value (.pointer (some ⟨w.heap.size,0,none⟩))) (w.alloc (.stringIter ⟨s.toArray⟩ 0)):=by
     simp[execOp,z,Instr.range,f.1,run_underlying r,newObj,Sem.run]
    have D:Below w.heap.size w (w.alloc (.stringIter ⟨s.toArray⟩ 0)):=(Below.refl w.heap.size w).alloc (oC _) _;obtain⟨C,A,y⟩:=h.add (l:=fr) (bk:= .iter s 0) (v:= .pointer (some ⟨w.heap.size,0,none⟩)) D (k fr (oC _) au) (fun b B=>by simp[eP]at B;omega)
     (fun M' e _=>⟨f.2,w.heap.size,rfl, .inl h.below.size,heap_alloc_new w _⟩)
    exact kJ i (E _ _ _ y A (C.weaken UL) ⟨w.heap.size,upd_same _ _ _,rfl⟩)
   ·cases c
  ·cases c
theorem run_next_at {s:ByteArray}{p b:Nat}{ty:TypeId}(a:w.heap[b]? =some (.stringIter s p))(h:p < s.size):(Instr.next (.pointer (some ⟨b,0,none⟩)) true ty).run P w=
  .ok (.tuple #[.bool true, .int .i64 p, .int .i32 ((Utf8.decode s p).1:Nat)]) {w with heap:=w.heap.setIfInBounds b (.stringIter s (p+(Utf8.decode s p).2))}:=by
 simp only[Instr.next,getObj,setObj,Sem.run_bind,Sem.run,a,Result.andThen,h,if_true];simp[goInt]
theorem ac0 {s:ByteArray}{p b:Nat}{ty:TypeId}(a:w.heap[b]? =some (.stringIter s p))(h:¬p < s.size):(Instr.next (.pointer (some ⟨b,0,none⟩)) true ty).run P w= .ok (.tuple #[.bool false]) w:=by
 simp[Instr.next,getObj,Sem.run,a,h]
theorem afH {b:Bool}{A I:Out D}(h:Hp S w0 N blk g al w)(U:∀t,(slot t).Rel S (aV N blk g) w g (a.tmps.getD t undef))
  (d:Cm slot blk o.op=some (b,A,I)) (q:Post S w0 N blk g al w fr (bif b then A else I) o.dst a K):o.wp P a w K Q:=by
 have T:=oz U;unfold Cm at d;split at d
 ·rename_i R C;have j:=T R;split at d
  ·rename_i l X G;rw[G]at j;split at d
   ·rename_i i;have i:=Qa i;subst i;obtain⟨y,M,j⟩:=j;split at d
    ·rename_i s p F;injection d with d
     injection d with E d
     injection d with O V
     obtain⟨v,c,H,Y,rfl,W,x⟩:=h.dn l _ F;rw[M]at c;injection c with c
     injection c with c
     injection c with c
     injection c with c
     subst c;have r:(ByteArray.mk s.toArray).size=s.length:=by show s.toArray.size=_;simp
     by_cases m:p < s.length
     ·have k:b=true:=by rw[<-E];simpa using m
      subst k;rw[AC]at q;subst O;have f:=run_next_at (P:=P) (ty:=o.type) x (by rw[r];exact m);have B:=vG x;obtain⟨J,z⟩:=h.write (w':={w with heap:=w.heap.setIfInBounds y (.stringIter ⟨s.toArray⟩ (p+CU s p))}) (bk':= .iter s (p+CU s p)) F rfl rfl M rfl rfl rfl rfl oI
       (fun n u=>by
        have L:y≠n:=fun e=>u e.symm
        simp[Array.getElem?_setIfInBounds_ne L]) (fun Z=>⟨H,y,rfl,W,by simp[B]⟩)
      refine kJ (v:= .tuple #[.bool true, .int .i64 p, .int .i32 (yZ s p)]) ?_ (q _ _ _ (More.refl _) z (J.weaken fun n u=> .inl u) ⟨[.bool true, .int .i64 p, .int .i32 (yZ s p)],rfl,rfl,rfl,rfl,trivial⟩);simp only[execOp,C,j,Sem.run_bind,f,Result.andThen_ok,Sem.run_pure];rfl
     ·have k:b=false:=by rw[<-E];simpa using m
      subst k;rw[qH]at q;subst V;have f:=ac0 (P:=P) (ty:=o.type) x (by rw[r];exact m);refine bf (v:= .tuple #[.bool false]) ?_ h q rfl ⟨[.bool false],rfl,rfl,trivial⟩;simp only[execOp,C,j,Sem.run_bind,f,Result.andThen_ok,Sem.run_pure]
    ·cases d
   ·cases d
  ·cases d
 ·cases d
end
end Go.Vc
