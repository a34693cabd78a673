/- Own engine: Vdh, Vdt, Vdu, Vdv, Vdw. -/
import Derived.Test.YtjojefbphdmnjaaGreatDoorEng3
import Derived.Laws.RangeString
set_option linter.unusedVariables false
set_option linter.unusedSimpArgs false
namespace Go.Vc
open Go.RowKit
section
variable {D:Type}{P:Program}{S:Sh D}{T:TypeId->Option Ty}{Γ:FuncId->Option (Ct D)}{M M' N:Nat->Prop}{w w':World}{w0:Bs}{g g':Nat->Option Value}{blk blk':Nat->Option (Bk D)}{al:Nat->Prop}
 {a:Act} {o:Oper} {K:Act->World->Prop} {Q:Exit->Act->World->Prop} {slot:Nat->Sl D} {out:Out D} {fr:Nat} {ids jd:List Nat}
structure ani (N:Nat->Prop)(blk:Nat->Option (Bk D))(g:Nat->Option Value)(jd:List Nat)(M':Nat->Prop):Prop where
 sub:∀b,M' b->aJ N blk g b
 off:∀l∈jd,∀v b,hot (blk l)=true->g l=some v->dB v=some b->¬M' b
theorem Lf.Rel.view (G:ShOk S){x:Lf D}{v:Value}(h:Hp S w0 N blk g al w)(m:ani N blk g jd M')(y:∀l∈x.owns,l∈jd)(k:x.Rel S (aJ N blk g) w g v):(x.view blk).Rel S M' w g v:=by
 cases x with
 | own l=>
  have k:g l=some v:=k;simp only[Lf.view];split
  ·rename_i e d hb;exact Fp h hb k m.sub (fun b o=>m.off l (y l (by simp[Lf.owns])) v b qce k o)
  ·rename_i d hb;exact ae2 G h qce k m.sub (fun b o=>m.off l (y l (by simp[Lf.owns])) v b qce k o)
  ·rename_i d hb;obtain⟨F,c,s⟩:=h.bY l _ hb;rw[k]at c;injection c with c
   subst c;exact bQ.mono s m.sub
  ·exact k
 | part l i j C f=>
  obtain⟨A,n,p,t,rfl,B,z,rfl⟩:=k;have u:∀d q,bQ S M' w d (.slice A n p)->VI S C i j d=some q->bQ S M' w q (sliced A i j p C):=by
   intro d q H r;unfold VI at r;split at r
   ·rename_i E;have E:=Qa E
    grind [bQ.slice',ShOk.D7,CZ]
   ·cases r
  simp only[Lf.view];split
  ·rename_i e d hb;split
   ·rename_i q r;exact u d q (Fp h hb t m.sub (fun b o=>m.off l (y l (by simp[Lf.owns])) _ b qce t o)) r
   ·trivial
  ·rename_i d hb;split
   ·rename_i q r;obtain⟨F,c,s⟩:=h.bY l _ hb;rw[t]at c;injection c with c
    subst c;exact u d q (bQ.mono s m.sub) r
   ·trivial
  ·exact⟨A,n,p,t,rfl,B,z,rfl⟩
 | dat d=>exact bQ.mono k m.sub
 | elt d i j=>obtain⟨a,n,p,B,z⟩:=k;exact⟨a,n,p,B.mono m.sub,z⟩
 | xt e=>exact Xt.Rel.mono k m.sub
 | _=>exact k
theorem aN.view (c:ShOk S)(h:Hp S w0 N blk g al w)(d:ani N blk g jd M'):∀{a:List (Lf D)} {b:List Value},(∀l∈a.flatMap Lf.owns,l∈jd)->aN S (aJ N blk g) w g a b->aN S M' w g (a.map (Lf.view blk)) b
 | [],[],_,_=>trivial
 | x::a,v::b,f,e=>⟨e.1.view c h d (fun l hl=>f l qcl),aN.view c h d (fun l hl=>f l qP) e.2⟩
theorem Sv.Rel.view (a:ShOk S){x:Sv D}{v:Value}(h:Hp S w0 N blk g al w)(b:ani N blk g jd M')(d:∀l∈x.owns,l∈jd)(c:x.Rel S (aJ N blk g) w g v):(x.view blk).Rel S M' w g v:=by
 cases x with
 | lf x=>exact Lf.Rel.view a h b d c
 | agg j=>obtain⟨i,f,e⟩:=c;exact⟨i,f,e.view a h b d⟩
theorem fQ.view (c:ShOk S)(h:Hp S w0 N blk g al w)(d:ani N blk g jd M'):∀{a:List (Sv D)} {b:List Value},(∀l∈a.flatMap Sv.owns,l∈jd)->fQ S (aJ N blk g) w g a b->fQ S M' w g (a.map (Sv.view blk)) b
 | [],[],_,_=>trivial
 | x::a,v::b,f,e=>⟨e.1.view c h d (fun l hl=>f l qcl),fQ.view c h d (fun l hl=>f l qP) e.2⟩
theorem Sl.Rel.view (a:ShOk S){x:Sl D}{v:Value}(h:Hp S w0 N blk g al w)(b:ani N blk g jd M')(d:∀l∈x.owns,l∈jd)(c:x.Rel S (aJ N blk g) w g v):(x.view blk).Rel S M' w g v:=by
 cases x with
 | one x=>exact Sv.Rel.view a h b d c
 | tup j=>obtain⟨i,f,e⟩:=c;exact⟨i,f,e.view a h b d⟩
theorem d_.view (c:ShOk S)(h:Hp S w0 N blk g al w)(d:ani N blk g jd M'):∀{a:List (Sl D)} {b:List Value},(∀l∈a.flatMap Sl.owns,l∈jd)->d_ S (aJ N blk g) w g a b->d_ S M' w g (a.map (Sl.view blk)) b
 | [],[],_,_=>trivial
 | x::a,v::b,f,e=>⟨e.1.view c h d (fun l hl=>f l qcl),d_.view c h d (fun l hl=>f l qP) e.2⟩
theorem d_.less (d:∀b,M' b->M b):∀{a:List (Sl D)} {c:List Value},d_ S M w g a c->d_ S M' w g a c
 | [],[],_=>trivial
 | x::a,v::c,j=>by
  refine⟨?_,d_.less d j.2⟩;have:=j.1.ren (g':=g) (M':=M') (f:=fun l=>l) (fun _ _ _ k=>k) (fun _=>d);have e:x.ren (fun l=>l)=x:=by
   have h:∀y:Lf D,y.ren (fun l=>l)=y:=fun y=>by cases y<;>simp[Lf.ren]
   have i:∀y:Sv D,y.ren (fun l=>l)=y:=fun y=>by cases y with
    | lf y=>simp[Sv.ren,h]
    | agg m=>simp only[Sv.ren];congr 1;exact(Qbq fun y _=>h y).trans (Qdq _)
   cases x with
   | one y=>simp[Sl.ren,i]
   | tup m=>simp only[Sl.ren];congr 1;exact(Qbq fun y _=>i y).trans (Qdq _)
  rwa [e]at this
theorem d_.app:∀{a c:List (Sl D)} {b d:List Value},d_ S M w g a b->d_ S M w g c d->d_ S M w g (a++c) (b++d)
 | [],_,[],_,_,h=>h
 | _::_,_,_::_,_,h,e=>⟨h.1,d_.app h.2 e⟩
theorem lg:∀(r ids:List Nat) (l:Nat),l∈mi ids r ↔ l∈ids\/l∈r
 | [],ids,l=>by simp[mi]
 | x::r,ids,l=>by
  unfold mi;rw[lg r]
  grind [fB]
theorem ahv {x:Lf D}{l:Nat}(a:l∈x.owns):((∃d,rwD (blk l)=some d)\/hot (blk l)=false\/l∈(x.view blk).refs):=by
 cases x with
 | own b=>
  simp[Lf.owns]at a;subst a;simp only[Lf.view];split
  ·rename_i e d hb;exact .inl ⟨d,by rw[hb];rfl⟩
  ·rename_i d hb;exact .inl ⟨d,by rw[hb];rfl⟩
  ·rename_i d hb;exact .inr (.inl qce)
  ·exact .inr (.inr qb6)
 | part b i j c f=>
  simp[Lf.owns]at a;subst a;simp only[Lf.view];split
  ·rename_i e d hb;exact .inl ⟨d,by rw[hb];rfl⟩
  ·rename_i d hb;exact .inr (.inl qce)
  ·exact .inr (.inr qb6)
 | _=>simp[Lf.owns]at a
theorem aki {x:Sv D}{l:Nat}(a:l∈x.owns):((∃d,rwD (blk l)=some d)\/hot (blk l)=false\/l∈(x.view blk).refs):=by
 cases x with
 | lf x=>exact ahv a
 | agg c=>
  obtain⟨y,b,a⟩:=Qa1.1 a;rcases ahv (blk:=blk) a with h | h | h
  ·exact .inl h
  ·grind
  ·exact .inr (.inr (Qa1.2 ⟨_,Qbf.2 ⟨y,b,rfl⟩,h⟩))
theorem ail {x:Sl D}{l:Nat}(a:l∈x.owns):((∃d,rwD (blk l)=some d)\/hot (blk l)=false\/l∈(x.view blk).refs):=by
 cases x with
 | one x=>exact aki a
 | tup c=>
  obtain⟨y,b,a⟩:=Qa1.1 a;rcases aki (blk:=blk) a with h | h | h
  ·exact .inl h
  ·grind
  ·exact .inr (.inr (Qa1.2 ⟨_,Qbf.2 ⟨y,b,rfl⟩,h⟩))
theorem asJ {x:Lf D}{v:Value}{l:Nat}(b:x.Rel S M w g v)(a:l∈x.owns):∃u,g l=some u:=by
 cases x with
 | own c=>simp[Lf.owns]at a;subst a;exact⟨v,b⟩
 | part c i j k f=>simp[Lf.owns]at a;subst a;obtain⟨e,n,d,h,_⟩:=b;grind
 | _=>simp[Lf.owns]at a
theorem ahP {l:Nat}:∀{b:List (Lf D)} {c:List Value},aN S M w g b c->l∈b.flatMap Lf.owns->∃u,g l=some u
 | [],[],_,a=>by simp at a
 | x::b,v::c,d,a=>by
  rw[Qco,xN]at a;exact a.elim (asJ d.1) (ahP d.2)
theorem atu {x:Sv D}{v:Value}{l:Nat}(b:x.Rel S M w g v)(a:l∈x.owns):∃u,g l=some u:=by
 cases x with
 | lf x=>exact asJ b a
 | agg d=>obtain⟨e,_,c⟩:=b;exact ahP c a
theorem aid {l:Nat}:∀{b:List (Sv D)} {c:List Value},fQ S M w g b c->l∈b.flatMap Sv.owns->∃u,g l=some u
 | [],[],_,a=>by simp at a
 | x::b,v::c,d,a=>by
  rw[Qco,xN]at a;exact a.elim (atu d.1) (aid d.2)
theorem aBl {x:Sl D}{v:Value}{l:Nat}(b:x.Rel S M w g v)(a:l∈x.owns):∃u,g l=some u:=by
 cases x with
 | one x=>exact atu b a
 | tup d=>obtain⟨e,_,c⟩:=b;exact aid c a
theorem Xp {l:Nat}:∀{b:List (Sl D)} {c:List Value},d_ S M w g b c->l∈b.flatMap Sl.owns->∃u,g l=some u
 | [],[],_,a=>by simp at a
 | x::b,v::c,d,a=>by
  rw[Qco,xN]at a;exact a.elim (aBl d.1) (Xp d.2)
theorem V3:∀{a:List Nat} {d:List Value},a.map g=d.map some->(∀l∈a,∃b,g l=some (.pointer (some ⟨b,0,none⟩)))->d_ S M w g (a.map fun l=> .one (.lf (.ptr l 0))) d
 | [],[],_,_=>trivial
 | c::a,v::d,h,e=>by
  simp only[MQ,Qc5]at h;obtain⟨b,f⟩:=e c oG;refine⟨⟨b,f,?_⟩,V3 h.2 fun l hl=>e l qcl⟩
  grind
 | [],_::_,h,_=>by simp at h
 | _::_,[],h,_=>by simp at h
theorem af4 (hS:ShOk S){c:Call}{f:FuncId}{j:List Nat}{L:Operand}(ho:o.op= .call c)(hc:c.callee= .value L)(hf:aI slot L= .one (.lf (.fn f j)))(hΓ:∀f z,Γ f=some z->CtOk P S f z)(h:Hp S w0 N blk g al w)(hfr:∀n,fr<=n->n < fr+64->¬al n)
  (Y:∀t,(slot t).Rel S (aJ N blk g) w g (a.tmps.getD t undef)) (i:VZ Γ f blk (c.args.toList.map (aI slot)++j.map fun l=> .one (.lf (.ptr l 0))) fr=some out) (hp:kF out.pre) (aIl:j.all (fun l=>isCells (blk l))=true) (hK:Post S w0 N blk g al w fr out o.dst a K):o.wp P a w K Q:=by
 have E:=mM Y L;rw[hf]at E;obtain⟨r,T,O⟩:=E;have aJx:∀l∈j,∃b,g l=some (.pointer (some ⟨b,0,none⟩)):=by
  intro l m;have:=Qa3.1 aIl l m;cases k:blk l with
  | none=>rw[k]at this;simp[isCells]at this
  | some bk=>
   cases bk with
   | cells cs=>obtain⟨v,hv,b,vs,t,rfl,_⟩:=h.bY l _ k;grind
   | row e d=>rw[k]at this;simp[isCells]at this
   | ve d=>rw[k]at this;simp[isCells]at this
   | iter s p=>rw[k]at this;simp[isCells]at this
   | map kvs=>rw[k]at this;simp[isCells]at this
   | tc t cs=>rw[k]at this;simp[isCells]at this
 have B:d_ S (aJ N blk g) w g (c.args.toList.map (aI slot)++j.map fun l=> .one (.lf (.ptr l 0))) (c.args.toList.map a.eval++r):=(Jq Y c.args.toList).app (V3 O aJx);unfold VZ at i;split at i
 ·cases i
 ·rename_i z X;have F:=hΓ f z X;have G:(execOp a.eval o).run P w= .ok (.enter f (c.args.toList.map a.eval++r).toArray) w:=by
   have hen:=F.enters (c.args.toList.map a.eval++r).toArray w;simp only[execOp,ho,resolve,hc,Deferred.ofValue,T,Sem.run_bind,Sem.run_pure,Result.andThen_ok,invoke];have:(#[]++c.args.map a.eval:Array Value)++r.toArray=(c.args.toList.map a.eval++r).toArray:=by grind
   rw[this,hen]
  have W:(Calls P f (c.args.toList.map a.eval++r).toArray w fun e w'=>∃v g',e= .returned v/\More g g'/\Keeps (aJ N blk g) w (aJ N (iU blk out.blks) g') w'/\Hp S w0 N (iU blk out.blks) g' (fun n=>al n\/(fr<=n/\n < fr+64)) w'/\
    out.val.Rel S (aJ N (iU blk out.blks) g') w' g' v)->o.wp P a w K Q:=by
   intro C;simp only[Oper.wp,G,Oper.upon_enter];refine C.mono ?_;rintro e w' ⟨v,g',rfl,A,h2,h3,h4⟩;exact hK v w' g' A h2 h3 h4
  dsimp only at i;have hn:=B.norm;generalize (c.args.toList.map (aI slot)++j.map fun l=>(.one (.lf (.ptr l 0)):Sl D)).map Sl.norm=J at hn i;cases A:IX z blk fr (J.map (Sl.view blk)) (mi [] (J.flatMap Sl.owns))with
  | some out'=>
   rw[A]at i;simp only[zl,Og]at i;subst i;refine W (tK hS F h hfr (fun ids bY hg hv=> ?_) (fun l m=> ?_) (fun l m=> ?_) A hp)
   ·refine d_.view hS (jd:=mi [] (J.flatMap Sl.owns)) h ⟨fun b k=>(rW hg b k).1,fun l m v b I u y k=> ?_⟩ (fun l m=>(lg _ _ _).2 (.inr m)) hn;rcases(rW hg b k).2 with q | ⟨Z,U,⟨V,q2,H,M⟩ | ⟨V,q2,H,M⟩⟩
    ·exact h.adQ I u y q
    ·have:=h.sep l Z v U b I V u H y M
     grind
    ·have:=h.sep l Z v U b I q2 u H y M
     grind
   ·grind [lg,Xp]
   ·obtain⟨x,hx,R⟩:=Qa1.1 (((lg _ _ _).1 m).resolve_left oG);rcases ail (blk:=blk) R with q | q | q
    ·exact .inl q
    ·exact .inr (.inl q)
    ·exact .inr (.inr (Qa1.2 ⟨_,Qbf.2 ⟨x,hx,rfl⟩,q⟩))
  | none=>
   rw[A]at i;simp only[zl]at i
   grind [d_.less,tK,rW]
theorem aaB (z:∀t G,T t=some G->TyOk P t G)(W:∀f R,Γ f=some R->CtOk P S f R)(J:ShOk S)(h:Hp S w0 N blk g al w)(F:∀n,fr<=n->n < fr+64->¬al n)
  (I:∀t,(slot t).Rel S (aJ N blk g) w g (a.tmps.getD t undef)) (e:xOp T S Γ slot blk fr o.op=some out) (C:kF out.pre) (p:Post S w0 N blk g al w fr out o.dst a K):o.wp P a w K Q:=by
 have r:=mM I;cases k:o.op with
 | move x=>rw[k]at e;injection e with e;subst e;exact aP (v:=a.eval x) (by simp[execOp,k]) h p rfl (r x)
 | assign x=>rw[k]at e;injection e with e;subst e;exact aP (v:=a.eval x) (by simp[execOp,k]) h p rfl (r x)
 | pick c x y=>rw[k]at e;exact aeZ k h (r c) (r x) (r y) e p
 | alloc t=>
  rw[k]at e;simp only[xOp]at e
  grind [abm]
 | box t x=>
  rw[k]at e;simp only[xOp]at e;split at e
  ·rename_i u Y;split at e
   ·rename_i X;injection e with e
    subst e;have A:=r x;rw[Y]at A;exact akY k h F A X p
   ·cases e
  ·cases e
 | build t parts=>rw[k]at e;exact acK k z h I e p
 | buildSlice t n parts=>rw[k]at e;exact sound_row J k z h I F e p
 | load t x=>
  rw[k]at e;simp only[xOp]at e;cases s:T t with
  | none=>simp[LH,s]at e
  | some G=>exact ad4 k (z _ _ s) s h (r x) e C p
 | store t x y=>
  rw[k]at e;simp only[xOp]at e;cases s:T t with
  | none=>simp[Ym,s]at e
  | some G=>grind [acu]
 | nilCheck x=>
  rw[k]at e;simp only[xOp]at e;have A:=r x;split at e
  ·rename_i l q D;rw[D]at A;injection e with e;subst e
   refine aP (v:=a.eval x) ?_ h p rfl A;obtain⟨b,_,E⟩:=A;simp[execOp,k,E]
  ·rename_i d i j D;rw[D]at A;injection e with e;subst e
   refine aP (v:=a.eval x) ?_ h p rfl A;obtain⟨ad,n,V,_,_,E⟩:=A;simp[execOp,k,E]
  ·rename_i l i j sz D;rw[D]at A;injection e with e;subst e
   refine aP (v:=a.eval x) ?_ h p rfl A;obtain⟨b,n,V,_,E⟩:=A;simp[execOp,k,E]
  ·rename_i f B D;rw[D]at A;injection e with e;subst e
   refine aP (v:=a.eval x) ?_ h p rfl A;obtain⟨vs,E,_⟩:=A;simp[execOp,k,E]
  ·cases e
 | binOp O t x y yt=>
  rw[k]at e;simp only[xOp]at e;cases M:aiA T S O t (aI slot x) (aI slot y)with
  | some aa=>
   rw[M]at e;injection e with e
   grind [afE]
  | none=>
   rw[M]at e;exact amD k z h (r x) (r y) e C p
 | unOp O t x=>rw[k]at e;exact aqQ k h (r x) e C p
 | fieldAddr t x f=>
  rw[k]at e;simp only[xOp]at e;cases s:T t with
  | none=>simp[BD,s]at e
  | some G=>exact acL k (z _ _ s) s h (r x) e p
 | field t x f=>
  rw[k]at e;simp only[xOp]at e;cases s:T t with
  | none=>simp[ajx,s]at e
  | some G=>exact aeh k (z _ _ s) s h (r x) e p
 | indexAddr t x i=>rw[k]at e;exact aau k z h (r x) (r i) e C p
 | extract x i=>rw[k]at e;exact Uy k h (r x) e p
 | call c=>
  rw[k]at e;simp only[xOp]at e;split at e
  ·grind [alx]
  ·grind [U6]
  ·grind [U6]
  ·grind [Yd]
  ·grind [afV]
  ·rename_i fo Z;split at e
   ·rename_i f B hf;split at e
    ·rename_i L;exact af4 J k Z hf W h F I e C L p
    ·cases e
   ·cases e
  ·cases e
 | makeFunc fn first B=>
  rw[k]at e;cases fn with
  | func f=>
   simp only[xOp]at e;split at e
   ·rename_i H;split at e
    ·rename_i ls U;injection e with e
     subst e;have H:first= #[]:=by simpa using H
     subst H;refine aP (v:= .func (.func f) #[] (B.map a.eval)) ?_ h p rfl ⟨(B.map a.eval).toList,rfl,by rw[ahL I _ _ U,Array.toList_map]⟩;simp[execOp,k,Instr.makeFunc]
    ·cases e
   ·cases e
  | _=>simp[xOp]at e
 | makeSlice t x y=>rw[k]at e;exact aet J k z h F (r x) (r y) e C p
 | index t x i=>rw[k]at e;exact aa0 k z h (r x) (r i) e C p
 | convert src dst x=>rw[k]at e;exact afO k z h (r x) e C p
 | slice t x lo hi mx=>
  cases mx with
  | some m=>rw[k]at e;simp[xOp]at e
  | none=>rw[k]at e;exact ack J k z h r e C p
 | _=>rw[k]at e;simp[xOp]at e
end
end Go.Vc
namespace Go.Vc
open Go.RowKit
section
variable {D:Type}
def uP:List Operand->List Nat
 | []=>[]
 | .tmp t::r=>t::uP r
 | _::r=>uP r
def ajL (c:List Nat)(a:Nat->Sl D)(b:Nat->Option (Bk D)):Nat->Sl D:=fun t=>if ql t c then(a t).view b else a t
def isRow:Option (Bk D)->Bool
 | some (.row _ _)=>true
 | some (.map _)=>true
 | some (.ve _)=>true
 | _=>false
def atd:Op->Bool
 | .store _ _ _=>true
 | .buildSlice _ _ _=>true
 | _=>false
def oU (a:Nat->Sl D)(b:Op):List Nat:=mi [] ((uP b.operands.toList).flatMap fun t=>(a t).owns)
def aAJ (T:TypeId->Option Ty)(S:Sh D)(g:FuncId->Option (Ct D))(b:Nat->Sl D)(a:Nat->Option (Bk D))(f:Nat)(d:Op):Option (Out D):=
 let e:=oU b d
 if atd d && e.all (fun l=>isRow (a l))then
  (match xOp T S g (ajL (uP d.operands.toList) b a) (iU a (e.filterMap (jQ a))) f d with
  | some c=>some ⟨c.pre,c.val,e.filterMap (jQ a)++c.blks⟩
  | none=>none)
 else none
def aED (T:TypeId->Option Ty)(S:Sh D)(d:FuncId->Option (Ct D))(a:Nat->Sl D)(b:Nat->Option (Bk D))(c:Nat)(e:Op):Option (Out D):=
 match xOp T S d a b c e with
 | some f=>some f
 | none=>aAJ T S d a b c e
theorem BA {b c:Type}{f a:b->Option c}:∀{l:List b},(∀x∈l,f x=a x)->l.filterMap f=l.filterMap a
 | [],_=>rfl
 | x::l,h=>by
  rw[List.filterMap_cons,List.filterMap_cons,h x oG,BA fun y d=>h y (by simp[d])]
theorem P9 {c:Type}:∀(a b:List (Nat×c)) (f:Nat->c),iU f (a++b)=iU (iU f a) b
 | [],_,_=>rfl
 | (k,v)::a,b,f=>P9 a b (upd f k v)
end
section
variable {D:Type}{P:Program}{S:Sh D}{T:TypeId->Option Ty}{Γ:FuncId->Option (Ct D)}{M M' N:Nat->Prop}{w w':World}{w0:Bs}{g g':Nat->Option Value}{blk blk':Nat->Option (Bk D)}{al:Nat->Prop}
 {a:Act} {o:Oper} {K:Act->World->Prop} {Q:Exit->Act->World->Prop} {slot:Nat->Sl D} {out:Out D} {fr:Nat} {ids jd:List Nat}
theorem Keeps.comp {d c a:Nat->Prop}{g e f:World}(h:Keeps d g c e)(k:Keeps c e a f):Keeps d g a f:=
 ⟨zW h.size k.size,fun b i j=>by
  obtain⟨m,l⟩:=h.same b i j
  grind [same,size]⟩
theorem awE {l:Nat}{p:Nat×Option (Bk D)}(h:jQ blk l=some p):p.1=l:=by
 unfold jQ at h
 grind
theorem Hp.Dt (I:ShOk S):∀(s:List Nat) (a:Nat->Option (Bk D)),s.Nodup->Hp S w0 N a g al w->
  Hp S w0 N (iU a (s.filterMap (jQ a))) g al w/\Keeps (aJ N a g) w (aJ N (iU a (s.filterMap (jQ a))) g) w/\
   (∀n,hot (iU a (s.filterMap (jQ a)) n)=true->hot (a n)=true)/\∀l∈s,isRow (a l)=true->hot (iU a (s.filterMap (jQ a)) l)=false
 | [],a,_,h=>⟨h,⟨lH _,fun b _ R=>⟨R,rfl⟩⟩,fun n p=>p,fun l E=>by simp at E⟩
 | l::r,a,p,h=>by
  obtain⟨E,O⟩:=List.nodup_cons.1 p;have P:∀{x:Option (Bk D)} (y:Nat->Option (Bk D)),iU y (r.filterMap (jQ a)) l=y l:=fun{x} y=>uJ fun v V=>by
   obtain⟨k,c,U⟩:=Qc9.1 V;have:=awE U
   grind
  by_cases j:∃d,rwD (a l)=some d
  ·obtain⟨d,f⟩:=j;have F:jQ a l=some (l,some (.ve d)):=by unfold jQ;rw[f]
   have G:=YB f;obtain⟨ab,L,_⟩:=iI G;rw[List.filterMap_cons_some F];have K:r.filterMap (jQ a)=r.filterMap (jQ (upd a l (some (.ve d)))):=by
    refine BA fun k c=> ?_;have M:k≠l:=fun e=>E (e▸c)
    unfold jQ;rw[bI _ _ _ _ M]
   obtain⟨v,B,_⟩:=h.bY l _ L;have aa:hot (upd a l (some (Bk.ve d)) l)=false:=by rw[upd_same];rfl
   have i:∀n,hot (upd a l (some (Bk.ve d)) n)=true->hot (a n)=true:=fun n p=>by
    grind [bI]
   have Z:∀b,aJ N (upd a l (some (Bk.ve d))) g b->aJ N a g b:=by
    rintro b (f | ⟨n,u,J,o,W⟩)
    ·exact .inl f
    ·exact .inr ⟨n,u,i n J,o,W⟩
   obtain⟨J,Y⟩:=h.aJl l (some (.ve d)) rfl (fun bk t=>by
    injection t with t
    subst t;refine⟨v,B,ae2 I h f B Z fun b C=> ?_⟩;rintro(q | ⟨n,u,T,X,Q⟩)
    ·exact h.adQ G B C q
    ·have:=h.sep l n v u b G (i n T) B X C Q
     grind)
   obtain⟨o,A,z,H⟩:=Hp.Dt I r (upd a l (some (.ve d))) O J;rw[<-K]at o A z H;refine⟨o,Y.comp A,fun n p=>i n (z n p),fun k c m=> ?_⟩;rcases IP.1 c with rfl | c
   ·show hot (iU (upd a k (some (.ve d))) (r.filterMap (jQ a)) k)=false
    grind
   ·refine H k c ?_
    grind [bI]
  ·have F:jQ a l=none:=by
    unfold jQ
    grind
   rw[List.filterMap_cons_none F];obtain⟨o,A,z,H⟩:=Hp.Dt I r a O h;refine⟨o,A,z,fun k c m=> ?_⟩;rcases IP.1 c with rfl | c
   ·rw[P (x:=none)];unfold isRow at m;split at m
    ·rename_i e d f;exact absurd ⟨d,by rw[f];rfl⟩ j
    ·rename_i d f;exact absurd ⟨d,by rw[f];rfl⟩ j
    ·rename_i d f;rw[f];rfl
    ·cases m
   grind
theorem amr (L:∀t y,T t=some y->TyOk P t y)(J:∀f G,Γ f=some G->CtOk P S f G)(s:ShOk S)(h:Hp S w0 N blk g al w)(F:∀n,fr<=n->n < fr+64->¬al n)
  (B:∀t,(slot t).Rel S (aJ N blk g) w g (a.tmps.getD t undef)) (c:aED T S Γ slot blk fr o.op=some out) (O:kF out.pre) (R:Post S w0 N blk g al w fr out o.dst a K):o.wp P a w K Q:=by
 unfold aED at c;split at c
 ·grind [aaB]
 ·unfold aAJ at c;dsimp only at c;split at c
  ·rename_i M;simp only[iW,Qa3]at M;split at c
   ·rename_i d W;injection c with c
    subst c;have D:(oU slot o.op).Nodup:=nV _ _ List.nodup_nil;obtain⟨V,H,C,X⟩:=Hp.Dt s (oU slot o.op) blk D h;refine aaB L J s V F (fun t=> ?_) W O (fun v w' g' m k E U=> ?_)
    ·unfold ajL;split
     ·rename_i r;have r:=fB.1 r;refine Sl.Rel.view (jd:=oU slot o.op) s h ⟨?_,fun l z v b A I i=> ?_⟩ (fun l z=>(lg _ _ _).2 (.inr (Qa1.2 ⟨t,r,z⟩))) (B t)
      ·rintro b (i | ⟨n,u,p,x,j⟩)
       ·exact .inl i
       ·exact .inr ⟨n,u,C n p,x,j⟩
      ·rintro(q | ⟨n,u,p,x,j⟩)
       ·exact h.adQ A I i q
       ·have:=h.sep l n v u b A (C n p) I x i j
        grind
     ·exact(B t).keep H (More.refl _)
    ·have e:iU blk ((oU slot o.op).filterMap (jQ blk)++d.blks)=iU (iU blk ((oU slot o.op).filterMap (jQ blk))) d.blks:=P9 _ _ _;refine R v w' g' m ?_ ?_ ?_
     ·rw[e];exact H.comp k
     ·rw[e];exact E
     ·rw[e];exact U
   ·cases c
  ·cases c
end
end Go.Vc
namespace Go.Vc
open Go.RowKit
section
variable {D:Type}
def Lf.pv:Lf D->Option Pv
 | .bool b=>some (.bool b)
 | .val (.bool b)=>some (.bool b)
 | .int k n=>some (.int k n)
 | .str s=>some (.str s)
 | _=>none
def pvs:List (Lf D)->Option (List Pv)
 | []=>some []
 | x::b=>(match x.pv,pvs b with
  | some p,some a=>some (p::a)
  | _,_=>none)
def aEr (T:TypeId->Option Ty)(t:TypeId)(x:Sl D):Option (Out D):=
 match T t with
 | none=>none
 | some c=>if Nat.beq c.kind 0 then none else(match x with
  | .one (.lf x)=>(match x.pv with
   | some p=>kN none (.Uo (some ⟨t,false,[p]⟩))
   | none=>none)
  | .one (.agg b)=>(match pvs b with
   | some a=>kN none (.Uo (some ⟨t,true,a⟩))
   | none=>none)
  | _=>none)
def xO.is (v:Option xO)(t:TypeId):Bool:=
 match v with
 | some i=>Nat.beq i.t t
 | none=>false
def xO.get (v:Option xO)(t:TypeId)(j:Nat):Option Pv:=
 match v with
 | some i=>if Nat.beq i.t t then i.xs[j]? else none
 | none=>none
def Pv.gB:Option Pv->Bool
 | some (.bool b)=>b
 | _=>false
def Pv.gI:Option Pv->Int
 | some (.int _ n)=>n
 | _=>0
def Pv.gS:Option Pv->List UInt8
 | some (.str s)=>s
 | _=>[]
def zf (z:Value)(p:Option Pv):Option (Lf D):=
 match z with
 | .bool false=>some (.bool (Pv.gB p))
 | .int k 0=>some (.int k (Pv.gI p))
 | .string s=>(match s.data.toList with
  | []=>some (.str (Pv.gS p))
  | _=>none)
 | _=>none
def r_ (v:Option xO)(t:TypeId):List Value->Nat->Option (List (Lf D))
 | [],_=>some []
 | z::a,j=>(match zf z (xO.get v t j),r_ v t a (j+1)with
  | some x,some b=>some (x::b)
  | _,_=>none)
def ZX:Value->Pv->Bool
 | .bool _, .bool _=>true
 | .int k _, .int a _=>Yl k a
 | .string _, .str _=>true
 | _,_=>false
def CG:List Value->List Pv->Bool
 | [],[]=>true
 | z::b,p::a=>ZX z p && CG b a
 | _,_=>false
def xO.ok (v:Option xO)(t:TypeId)(b:Bool)(a:List Value):Bool:=
 match v with
 | some i=> !Nat.beq i.t t || ((i.agg==b) && CG a i.xs)
 | none=>true
def Zf (T:TypeId->Option Ty)(t:TypeId)(x:Sl D):Option (Out D):=
 match T t with
 | none=>none
 | some a=>if Nat.beq a.kind 0 || !(a.agg==a.zag)then none else(match x with
  | .one (.lf (.Uo v))=>(match r_ v t a.zero 0 with
   | none=>none
   | some b=>if a.agg then some ⟨some (dp (xO.ok v t true a.zero=true)), .tup [.agg b, .lf (.bool (xO.is v t))],[]⟩
    else(match b with
     | [l]=>some ⟨some (dp (xO.ok v t false a.zero=true)), .tup [.lf l, .lf (.bool (xO.is v t))],[]⟩
     | _=>none))
  | _=>none)
end
section
variable {D:Type}{P:Program}{S:Sh D}{T:TypeId->Option Ty}{Γ:FuncId->Option (Ct D)}{M M' N:Nat->Prop}{w w':World}{w0:Bs}{g g':Nat->Option Value}{blk blk':Nat->Option (Bk D)}{al:Nat->Prop}
 {a:Act} {o:Oper} {K:Act->World->Prop} {Q:Exit->Act->World->Prop} {slot gu:Nat->Sl D} {out:Out D} {fr:Nat}
theorem TD {x:Lf D}{p:Pv}{v:Value}(h:x.pv=some p)(a:x.Rel S M w g v):v=p.val/\p.fits:=by
 unfold Lf.pv at h;split at h<;>first | (injection h with h;subst h;exact⟨a,trivial⟩) | (injection h with h;subst h;exact a) | (cases h;done)
theorem Om:∀{b:List (Lf D)} {a:List Pv} {c:List Value},pvs b=some a->aN S M w g b c->c=a.map Pv.val/\∀p∈a,p.fits
 | [],a,[],h,_=>by simp[pvs]at h;grind
 | x::b,a,v::c,h,d=>by
  unfold pvs at h;split at h
  ·rename_i p i f e;injection h with h
   subst h;obtain⟨l,k⟩:=TD f d.1;obtain⟨j,m⟩:=Om e d.2
   grind
  ·cases h
theorem wH {t:TypeId}{b:Ty}(h:TyOk P t b)(e:b.kind≠0):P.concrete t=true:=by
 obtain⟨d,c,a⟩:=lK h;unfold Program.concrete;rw[c];cases d<;>first | rfl | (exfalso;apply e;rw[<-a];rfl)
theorem ama {t:TypeId}{x:Operand}(n:o.op= .makeInterface t x)(u:∀t j,T t=some j->TyOk P t j)(h:Hp S w0 N blk g al w)(f:(aI slot x).Rel S (aJ N blk g) w g (a.eval x))
  (b:aEr T t (aI slot x)=some out) (m:Post S w0 N blk g al w fr out o.dst a K):o.wp P a w K Q:=by
 unfold aEr at b;split at b
 ·cases b
 ·rename_i j s;split at b
  ·cases b
  ·rename_i l;have l:j.kind≠0:=fun e=>l qcr
   have d:=run_makeInterface (P:=P) w t (a.eval x) (wH (u _ _ s) l);split at b
   ·rename_i y i;rw[i]at f;split at b
    ·rename_i p c;injection b with b
     subst b;have k:=(TD c f).1;refine aP (v:= .iface t (a.eval x)) ?_ h m rfl ⟨by rw[k];rfl,fun q z=>by have:=Be.1 z;subst this;exact(TD c f).2⟩;simp[execOp,n,d]
    ·cases b
   ·rename_i B i;rw[i]at f;obtain⟨C,k,r⟩:=f;split at b
    ·rename_i A c;injection b with b
     subst b;have:=(Om c r).1;refine aP (v:= .iface t (a.eval x)) ?_ h m rfl ⟨by rw[k,this];rfl,(Om c r).2⟩;simp[execOp,n,d]
    ·cases b
   ·cases b
theorem amj {z:Value}{x:Lf D}(h:zf z none=some x):x.Rel S M w g z:=by
 unfold zf at h;split at h
 ·injection h with h;subst h;rfl
 ·injection h with h;subst h;rfl
 ·rename_i s;split at h
  ·rename_i b;injection h with h
   subst h;cases s with
   | mk a=>
    have:a= #[]:=by
     grind
    subst this;exact⟨rfl,by simp[Pv.gS]⟩
  ·cases h
 ·cases h
theorem amI {b:Bool}{q:Option Pv}{x:Lf D}(h:zf (.bool b) q=some x):x= .bool (Pv.gB q):=by
 cases b
 ·injection h with h;exact h.symm
 ·cases h
theorem atY {k:IntKind}{n:Int}{q:Option Pv}{x:Lf D}(h:zf (.int k n) q=some x):x= .int k (Pv.gI q):=by
 unfold zf at h
 grind
theorem arZ {s:ByteArray}{q:Option Pv}{x:Lf D}(h:zf (.string s) q=some x):x= .str (Pv.gS q):=by
 simp only[zf]at h
 grind
theorem alU {z:Value}{p:Pv}{x:Lf D}(a:ZX z p=true)(h:zf z (some p)=some x)(b:p.fits):x.Rel S M w g p.val:=by
 cases z<;>cases p<;>simp only[ZX,Qbl]at a
 ·rw[amI h];rfl
 ·rename_i k n c d;have a:k=c:=by simpa[Yl]using a
  subst a;rw[atY h];rfl
 ·rw[arZ h];exact⟨rfl,b⟩
theorem Ll {v:Option xO}{t:TypeId}(c:∀j,xO.get v t j=none):∀(a:List Value) (j:Nat) (b:List (Lf D)),r_ v t a j=some b->aN S M w g b a
 | [],j,b,h=>by simp[r_]at h;subst h;trivial
 | z::a,j,b,h=>by
  unfold r_ at h;rw[c j]at h;split at h
  ·rename_i x f e d;injection h with h
   subst h;exact⟨amj e,Ll c a (j+1) f d⟩
  ·cases h
theorem KI {i:xO}:∀(c:List Value) (b:List Pv) (j:Nat) (d:List (Lf D)),CG c b=true->(∀k,xO.get (some i) i.t (j+k)=b[k]?)->r_ (some i) i.t c j=some d->(∀p∈b,p.fits)->aN S M w g d (b.map Pv.val)
 | [],[],j,d,_,_,h,_=>by simp[r_]at h;subst h;trivial
 | z::c,p::b,j,d,a,l,h,e=>by
  simp only[CG,iW]at a;unfold r_ at h;have f:=l 0;simp only[Qba,Qb4]at f;rw[f]at h;split at h
  ·rename_i x o n m;injection h with h
   subst h;exact⟨alU a.1 n (e p oG),KI c b (j+1) o a.2 (fun k=>by have:=l (k+1);grind) m (fun q r=>e q (by simp[r]))⟩
  ·cases h
 | [],_::_,_,_,a,_,_,_=>by simp[CG]at a
 | _::_,[],_,_,a,_,_,_=>by simp[CG]at a
theorem UI {t st:TypeId}{v:Option xO}{z:Value}(a:P.concrete t=true)(g:xO.is v t=false)(f:(zeroValue t).run P w= .ok z w):(Instr.typeAssert (zF v) st t true).run P w= .ok (.tuple #[z, .bool false]) w:=by
 unfold Program.concrete at a;cases b:P.underlying t with
 | none=>grind
 | some d=>
  rw[b]at a;cases v with
  | none=>cases d<;>first | (cases a;done) | simp[Instr.typeAssert,run_underlying b,zF,f]
  | some i=>
   have c:¬i.t=t:=fun e=>by simp[xO.is,e]at g
   cases d<;>first | (cases a;done) | simp[Instr.typeAssert,run_underlying b,zF,c,f]
theorem PM {st:TypeId}{i:xO}(a:P.concrete i.t=true):(Instr.typeAssert (zF (some i)) st i.t true).run P w= .ok (.tuple #[i.inner, .bool true]) w:=by
 unfold Program.concrete at a;cases b:P.underlying i.t with
 | none=>grind
 | some d=>
  rw[b]at a;cases d<;>first | (cases a;done) | simp[Instr.typeAssert,run_underlying b,zF]
theorem X5 {t st:TypeId}{x:Operand}(B:o.op= .typeAssert x st t true)(H:∀t d,T t=some d->TyOk P t d)(h:Hp S w0 N blk g al w)(n:(aI slot x).Rel S (aJ N blk g) w g (a.eval x))
  (b:Zf T t (aI slot x)=some out) (V:kF out.pre) (A:Post S w0 N blk g al w fr out o.dst a K):o.wp P a w K Q:=by
 unfold Zf at b;split at b
 ·cases b
 ·rename_i d F;split at b
  ·cases b
  ·rename_i hk;simp only[Qbg,Qa5,not_or]at hk;have Z:d.kind≠0:=fun e=>hk.1 qcr
   have q:d.agg=d.zag:=by
    grind
   have U:=wH (H _ _ F) Z;obtain⟨z,hz,D,r⟩:=aeF (H _ _ F) w;split at b
   ·rename_i v hex;rw[hex]at n;obtain⟨n,Y⟩:a.eval x=zF v/\aux v:=n;split at b
    ·cases b
    ·rename_i O G;by_cases c:xO.is v t=true
     ·obtain⟨i,rfl,X⟩:∃i,v=some i/\i.t=t:=by
       cases v with
       | none=>simp[xO.is]at c
       | some i=>exact⟨i,rfl,Qa c⟩
      subst X;have J:∀k,xO.get (some i) i.t (0+k)=i.xs[k]? :=fun k=>by simp[xO.get]
      have f:=PM (P:=P) (w:=w) (st:=st) (i:=i) U;have C:∀L,xO.ok (some i) i.t L d.zero=true->i.agg=L/\aN S (aJ N blk g) w g O (i.xs.map Pv.val):=by
       intro L u;simp only[xO.ok,Nat.beq_refl,Qdg,Bool.false_or,iW,Qb6]at u;exact⟨u.1,KI d.zero i.xs 0 O u.2 J G Y⟩
      split at b
      ·injection b with b
       subst b;obtain⟨R,y⟩:=C true V;refine aP (v:= .tuple #[i.inner, .bool true]) ?_ h A rfl ⟨[i.inner, .bool true],rfl,⟨⟨_,?_,y⟩,by rw[c];rfl,trivial⟩⟩
       ·simp[execOp,B,n,f]
       ·unfold xO.inner;rw[R]
      ·split at b
       ·rename_i l;injection b with b
        subst b;obtain⟨R,y⟩:=C false V;obtain⟨p,E⟩:∃p,i.xs=[p]:=by
         have:=y.length;simp only[Na,Qbe]at this;exact List.length_eq_one_iff.1 this.symm
        have W:i.inner=p.val:=by unfold xO.inner;rw[R,E]
        rw[E]at y;refine aP (v:= .tuple #[i.inner, .bool true]) ?_ h A rfl ⟨[i.inner, .bool true],rfl,⟨?_,by rw[c];rfl,trivial⟩⟩
        ·simp[execOp,B,n,f]
        ·rw[W];exact y.1
       ·cases b
     ·have c:xO.is v t=false:=by simpa using c
      have f:=UI (P:=P) (w:=w) (st:=st) U c hz;have hno:∀j,xO.get v t j=none:=by
       intro j;cases v with
       | none=>rfl
       | some i=>simp only[xO.is]at c;simp[xO.get,c]
      have I:=Ll (S:=S) (M:=aJ N blk g) (w:=w) (g:=g) hno d.zero 0 O G;split at b
      ·rename_i m;injection b with b
       subst b;have s:z= .agg d.zero.toArray:=by
        rw[m]at q;rw[<-q]at r;cases z<;>simp[xw]at r
        rw[<-D];rfl
       refine aP (v:= .tuple #[z, .bool false]) ?_ h A rfl ⟨[z, .bool false],rfl,⟨⟨_,s,I⟩,by rw[c];rfl,trivial⟩⟩;simp[execOp,B,n,f]
      ·rename_i m;split at b
       ·rename_i l;injection b with b
        subst b;have s:d.zero=[z]:=by
         have m:d.agg=false:=by simpa using m
         rw[m]at q;rw[<-q]at r;rw[<-D];cases z<;>first | rfl | simp[xw]at r
        rw[s]at I;refine aP (v:= .tuple #[z, .bool false]) ?_ h A rfl ⟨[z, .bool false],rfl,⟨I.1,by rw[c];rfl,trivial⟩⟩;simp[execOp,B,n,f]
       ·cases b
   ·cases b
end
end Go.Vc
namespace Go.Vc
open Go.RowKit
section
variable {D:Type}
def Ir (S:Sh D)(d:D)(a:Nat):Nat->Nat->List (Lf D)
 | _,0=>[]
 | i,n+1=>yT S d i 0 a++Ir S d a (i+1) n
def JF (T:TypeId->Option Ty)(t:TypeId):Option (TypeId×Nat×Nat):=
 match T t with
 | none=>none
 | some b=>(match b.arr with
  | none=>none
  | some (e,n)=>(match T e with
   | none=>none
   | some a=>if Nat.blt 0 a.size && Nat.beq b.size (n*a.size) && b.agg then some (e,n,a.size)else none))
def Qg (T:TypeId->Option Ty)(t:TypeId):Option (TypeId×Nat×Nat):=
 match T t with
 | none=>none
 | some a=>if a.lit then none else JF T t
def XM (T:TypeId->Option Ty)(S:Sh D)(a:Nat)(t:TypeId):Option (Out D):=
 match Qg T t with
 | none=>none
 | some (e,n,b)=>(match T t with
  | none=>none
  | some c=>(match S.make e n (c.zero.map fun v=>(vk v).norm)with
   | none=>none
   | some d=>if Nat.beq (S.size d) b && Nat.ble n 1000000 then some ⟨none, .one (.lf (.opt a 0 0 b)),[(a,some (.row t d))]⟩else none))
def agI (T:TypeId->Option Ty)(S:Sh D)(b:Nat->Option (Bk D))(t:TypeId)(x:Sl D):Option (Out D):=
 match Qg T t with
 | none=>none
 | some (e,n,a)=>(match x with
  | .one (.lf (.opt l i j s))=>if Nat.beq i 0 && (Nat.beq j 0 && Nat.beq s a)then(match b l with
   | some (.row _ d)=>if Nat.beq a (S.size d)then some ⟨some (dp (S.len d=n)), .one (.agg (Ir S d a 0 n)),[]⟩else none
   | _=>none)else none
  | .one (.lf (.glb k))=>(match S.MW k with
   | some d=>if Nat.beq a (S.size d)then some ⟨some (dp (S.len d=n)), .one (.agg (Ir S d a 0 n)),[]⟩else none
   | none=>none)
  | _=>none)
def Yg (T:TypeId->Option Ty)(S:Sh D)(t:TypeId)(x i:Sl D):Option (Out D):=
 match Qg T t with
 | none=>none
 | some (e,n,a)=>(match x,i with
  | .one (.lf (.opt l b j s)), .one (.lf (.int _ m))=>if Nat.beq b 0 && (Nat.beq j 0 && Nat.beq s a)then kN (some (dp (0<=m/\m < n))) (.opt l m.toNat 0 a)else none
  | .one (.lf (.glb k)), .one (.lf (.int _ m))=>(match S.MW k with
   | some d=>if Nat.beq a (S.size d)then kN (some (dp (0<=m/\m < n/\m < S.len d))) (.elt d m.toNat 0)else none
   | none=>none)
  | _,_=>none)
def Y7 (T:TypeId->Option Ty)(S:Sh D)(c:Nat->Option (Bk D))(t:TypeId)(x y:Sl D):Option (Out D):=
 match Qg T t with
 | none=>none
 | some (e,n,a)=>(match x,y with
  | .one (.lf (.opt l i j s)), .one (.agg cs)=>if Nat.beq i 0 && (Nat.beq j 0 && Nat.beq s a) && cs.all Lf.storable then(match c l with
   | some (.row f d)=>(match S.make e n (cs.map Lf.norm)with
    | some b=>if Nat.beq a (S.size d) && Nat.beq a (S.size b)then some ⟨some (dp (S.len d=n)), .one (.lf .any),[(l,some (.row f b))]⟩else none
    | none=>none)
   | _=>none)else none
  | _,_=>none)
def WQ (cs:List (Lf D))(a j:Nat):Nat->Nat->List (Lf D)
 | _,0=>[]
 | r,n+1=>(match cs[r*a+j]? with
  | some x=>x
  | none=> .any)::WQ cs a j (r+1) n
def intsOf (k:IntKind):List (Lf D)->Option (List Int)
 | []=>some []
 | .int a n::r=>if Yl k a then(match intsOf k r with
  | some l=>some (n::l)
  | none=>none)else none
 | _=>none
def strsOf:List (Lf D)->Option (List (List UInt8))
 | []=>some []
 | .str s::r=>(match strsOf r with
  | some l=>some (s::l)
  | none=>none)
 | _=>none
def Ij:List (Lf D)->Option (List Bool)
 | []=>some []
 | .bool b::r=>(match Ij r with
  | some l=>some (b::l)
  | none=>none)
 | _=>none
def ag5 (cs:List (Lf D))(i:Nat):Option (Lf D):=
 match cs with
 | .int k n::r=>(match intsOf k (.int k n::r)with
  | some l=>some (.int k (l.getD i 0))
  | none=>none)
 | .str s::r=>(match strsOf (.str s::r)with
  | some l=>some (.str (l.getD i []))
  | none=>none)
 | .bool b::r=>(match Ij (.bool b::r)with
  | some l=>some (.bool (l.getD i false))
  | none=>none)
 | _=>none
def pickRow (cs:List (Lf D))(a n i:Nat):Nat->Nat->Option (List (Lf D))
 | _,0=>some []
 | j,m+1=>(match ag5 (WQ cs a j 0 n) i,pickRow cs a n i (j+1) m with
  | some x,some b=>some (x::b)
  | _,_=>none)
def YO (T:TypeId->Option Ty)(t:TypeId)(x i:Sl D):Option (Out D):=
 match JF T t with
 | none=>none
 | some (e,n,a)=>(match T e with
  | none=>none
  | some c=>(match x,i with
   | .one (.agg cs), .one (.lf (.int _ m))=>if Nat.beq cs.length (n*a) && Nat.beq c.size a then(match pickRow (cs.map Lf.norm) a n m.toNat 0 a with
    | some b=>if c.agg then some ⟨some (dp (0<=m/\m < n)), .one (.agg b),[]⟩else(match b with
     | [l]=>some ⟨some (dp (0<=m/\m < n)), .one (.lf l),[]⟩
     | _=>none)
    | none=>none)else none
   | _,_=>none))
def Xn (T:TypeId->Option Ty)(a:Nat->Sl D)(t:TypeId)(parts:Array (Nat×Operand)):Option (Out D):=
 match JF T t with
 | none=>none
 | some (e,n,c)=>(match T t with
  | none=>none
  | some b=>(match Hy c a parts.toList (b.zero.map vk)with
   | some cs=>some ⟨none, .one (.agg cs),[]⟩
   | none=>none))
def afy (T:TypeId->Option Ty)(S:Sh D)(c:Nat->Option (Bk D))(m:Array TypeId)(x:Sl D):Option (Out D):=
 match m.toList with
 | [t]=>(match T t with
  | none=>none
  | some k=>(match k.elem with
   | none=>none
   | some e=>(match T e with
    | none=>none
    | some b=>(match x with
     | .one (.lf (.part l i j a f))=>(match c l with
      | some (.row g d)=>if Nat.beq a b.size && (Nat.beq a (S.size d) && (Nat.blt 0 a && Nat.beq b.zero.length a))then
       (match S.sub d 0 i,S.zero e (j - i) (b.zero.map fun v=>(vk v).norm)with
       | some p,some z=>(match S.cat p z with
        | some h=>some ⟨some (dp (j=S.len d)), .tup [],[(l,some (.row g h))]⟩
        | none=>none)
       | _,_=>none)else none
      | _=>none)
     | _=>none))))
 | _=>none
def azX (T:TypeId->Option Ty)(S:Sh D)(a:Nat->Sl D)(b:Nat->Option (Bk D))(d:Nat)(e:Op):Option (Out D):=
 match e with
 | .alloc t=>XM T S d t
 | .load t x=>agI T S b t (aI a x)
 | .store t x y=>Y7 T S b t (aI a x) (aI a y)
 | .indexAddr t x i=>Yg T S t (aI a x) (aI a i)
 | .index t x i=>YO T t (aI a x) (aI a i)
 | .build t parts=>Xn T a t parts
 | .call c=>(match c.callee with
  | .builtin .clear=>(match c.args.toList with
   | [x]=>afy T S b c.argTypes (aI a x)
   | _=>none)
  | _=>none)
 | .makeInterface t x=>aEr T t (aI a x)
 | .typeAssert x _ t true=>Zf T t (aI a x)
 | _=>none
def aDU (T:TypeId->Option Ty)(S:Sh D)(f:FuncId->Option (Ct D))(a:Nat->Sl D)(b:Nat->Option (Bk D))(c:Nat)(d:Op):Option (Out D):=
 match azX T S a b c d with
 | some e=>some e
 | none=>aED T S f a b c d
end
section
variable {D:Type}{P:Program}{S:Sh D}{T:TypeId->Option Ty}{Γ:FuncId->Option (Ct D)}{M M' N:Nat->Prop}{w w':World}{w0:Bs}{g g':Nat->Option Value}{blk blk':Nat->Option (Bk D)}{al:Nat->Prop}
 {a:Act} {o:Oper} {K:Act->World->Prop} {Q:Exit->Act->World->Prop} {slot gu:Nat->Sl D} {out:Out D} {fr:Nat}
theorem wJ (d:∀t a,T t=some a->TyOk P t a){t e:TypeId}{n f:Nat}(h:JF T t=some (e,n,f)):∃a c,T t=some a/\T e=some c/\c.size=f/\0 < f/\a.size=n*f/\a.agg=true/\P.underlying t=some (.array n e)/\TyOk P t a/\TyOk P e c:=by
 unfold JF at h;split at h
 ·cases h
 ·rename_i a b;split at h
  ·cases h
  ·rename_i o p i;split at h
   ·cases h
   ·rename_i c g;split at h
    ·rename_i j;simp only[iW]at j;injection h with h
     injection h with l h
     injection h with k m
     subst l k m;exact⟨a,c,b,g,rfl,by simp_all,Qa j.1.2,j.2,aC_ (d _ _ b) i,d _ _ b,d _ _ g⟩
    ·cases h
theorem uQ (d:∀t a,T t=some a->TyOk P t a){t e:TypeId}{n b:Nat}(h:Qg T t=some (e,n,b)):∃a c,T t=some a/\T e=some c/\c.size=b/\0 < b/\a.size=n*b/\a.agg=true/\P.underlying t=some (.array n e)/\TyOk P t a/\TyOk P e c:=by
 unfold Qg at h;split at h
 ·cases h
 ·split at h
  ·cases h
  ·exact wJ d h
theorem vZ {d:D}{ad:Addr}{sz:Nat}:∀(n i:Nat),(∀r,r < n->∃a:List Value,a.length=sz/\aN S M w g (yT S d (i+r) 0 sz) a/\∀k u,a[k]? =some u->w.cell? (ad.add ((i+r)*sz+k))=some u)->
  ∃a:List Value,a.length=n*sz/\aN S M w g (Ir S d sz i n) a/\∀k u,a[k]? =some u->w.cell? (ad.add (i*sz+k))=some u
 | 0,i,_=>⟨[],by simp,trivial,fun k u b=>by simp at b⟩
 | n+1,i,h=>by
  obtain⟨e,l1,c,l⟩:=h 0 ah;obtain⟨f,o,j,p⟩:=vZ n (i+1) (fun r m=>by have:=h (r+1) ah;rwa [show i+(r+1)=i+1+r by omega]at this);refine⟨e++f,by grind,c.append j,fun k u b=> ?_⟩
  grind
theorem aBG {i j s a:Nat}(h:(Nat.beq i 0 && (Nat.beq j 0 && Nat.beq s a))=true):i=0/\j=0/\s=a:=by
 simp_all
theorem ab7 {t:TypeId}{x:Operand}(ho:o.op= .load t x)(U:∀t E,T t=some E->TyOk P t E)(h:Hp S w0 N blk g al w)(y:(aI slot x).Rel S (aJ N blk g) w g (a.eval x))
  (c:agI T S blk t (aI slot x)=some out) (B:kF out.pre) (Y:Post S w0 N blk g al w fr out o.dst a K):o.wp P a w K Q:=by
 unfold agI at c;split at c
 ·cases c
 ·rename_i e n sz G;obtain⟨E,te,hty,hte,hsz,h0,W,R,vJ,C,Fa⟩:=uQ U G;have I:=uK C w;have MX:=jG C w;have fin:∀(ad:Addr) (f:List Value) (H:List (Lf D)),a.eval x= .pointer (some ad)->f.length=n*sz->aN S (aJ N blk g) w g H f->(∀k u,f[k]? =some u->w.cell? (ad.add (0*sz+k))=some u)->out=⟨out.pre, .one (.agg H),[]⟩->o.wp P a w K Q:=by
   intro ad f H L F q A J;have m:=run_loadCells (P:=P) (w:=w) ad f 0 #[] (fun k u hk=>by grind);rw[F,<-W]at m;refine aP (v:= .agg f.toArray) ?_ h Y (by rw[J]) (by rw[J];exact⟨_,rfl,q⟩);simp[execOp,ho,Instr.loadAt,Instr.sureAddr,L,loadVar,I,R,MX,loadCells,m]
  split at c
  ·rename_i l i j s z;rw[z]at y;obtain⟨b,n',cap,hg,L⟩:=y;split at c
   ·rename_i A;obtain⟨rfl,rfl,rfl⟩:=aBG A;split at c
    ·rename_i e' d X;split at c
     ·rename_i p;have p:=Qa p;injection c with c
      subst c;have B:S.len d=n:=B;obtain⟨f,F,q,A⟩:=vZ (S:=S) (M:=aJ N blk g) (w:=w) (g:=g) (d:=d) (ad:=⟨b,0,none⟩) (sz:=s) n 0 (fun r q=>by
       obtain⟨f,h1,Z,h3⟩:=ut h X hg (i:=0+r) ah s 0 ah
       grind [jY])
      grind
     ·cases c
    ·cases c
   ·cases c
  ·rename_i k z;rw[z]at y;have y:a.eval x= .pointer (some ⟨k,0,none⟩):=y;split at c
   ·rename_i d V;split at c
    ·rename_i p;have p:=Qa p;injection c with c
     subst c;have B:S.len d=n:=B;have O:=h.gl k d V;obtain⟨f,F,q,A⟩:=vZ (S:=S) (M:=aJ N blk g) (w:=w) (g:=g) (d:=d) (ad:=⟨k,0,none⟩) (sz:=sz) n 0 (fun r q=>by
      obtain⟨f,h1,Z,h3⟩:=vT (g:=g) O (i:=0+r) ah sz 0 ah
      grind)
     grind
    ·cases c
   ·cases c
  ·cases c
theorem Yr {t:TypeId}{x r:Operand}(F:o.op= .indexAddr t x r)(J:∀t y,T t=some y->TyOk P t y)(h:Hp S w0 N blk g al w)(p:(aI slot x).Rel S (aJ N blk g) w g (a.eval x))
  (f:(aI slot r).Rel S (aJ N blk g) w g (a.eval r)) (c:Yg T S t (aI slot x) (aI slot r)=some out) (D:kF out.pre) (E:Post S w0 N blk g al w fr out o.dst a K):o.wp P a w K Q:=by
 unfold Yg at c;split at c
 ·cases c
 ·rename_i e n sz C;obtain⟨y,te,Y,W,u,h0,UX,Z,I,X,U⟩:=uQ J C;have G:=jG U w;split at c
  ·rename_i l i0 j s k m q i;rw[q]at p;rw[i]at f;simp only[Sl.Rel,Sv.Rel,Lf.Rel]at f;obtain⟨b,M,H,V,R⟩:=p;split at c
   ·rename_i O;obtain⟨rfl,rfl,rfl⟩:=aBG O;injection c with c
    subst c;obtain⟨B,z⟩:=D;refine aP (v:= .pointer (some ⟨b,m.toNat*s+0,none⟩)) ?_ h E rfl ⟨b,M,H,V,rfl⟩;simp[execOp,F,Instr.indexAt,Instr.sureAddr,f,asIntOf,run_underlying I,R,B,z,G,u,jY]
   ·cases c
  ·rename_i k ki m q i;rw[q]at p;rw[i]at f;simp only[Sl.Rel,Sv.Rel,Lf.Rel]at f p;split at c
   ·rename_i d L;split at c
    ·rename_i A;have A:=Qa A;injection c with c
     subst c;obtain⟨B,z,p3⟩:=D;refine aP (v:= .pointer (some (Addr.add ⟨k,0,none⟩ (m.toNat*S.size d+0)))) ?_ h E rfl ⟨_,_,_,h.gl k d L,by omega,rfl⟩;simp[execOp,F,Instr.indexAt,Instr.sureAddr,f,asIntOf,run_underlying I,p,B,z,G,u,A]
    ·cases c
   ·cases c
  ·cases c
theorem Yw {t:TypeId}(A:ShOk S)(X:o.op= .alloc t)(I:∀t p,T t=some p->TyOk P t p)(h:Hp S w0 N blk g al w)(E:∀n,fr<=n->n < fr+64->¬al n)
  (c:XM T S fr t=some out) (V:Post S w0 N blk g al w fr out o.dst a K):o.wp P a w K Q:=by
 unfold XM at c;split at c
 ·cases c
 ·rename_i e n sz y;obtain⟨p,te,G,aa,ab,h0,UX,ac,vJ,F,Fa⟩:=uQ I y;rw[G]at c;dsimp only at c;split at c
  ·cases c
  ·rename_i d C;split at c
   ·rename_i x;simp only[iW]at x;have hs:=Qa x.1;have hn:=Qa0 x.2;injection c with c
    subst c;obtain⟨z,W,D⟩:=zi F w;obtain⟨m,M,R⟩:=A.make _ _ _ _ C;rw[Na]at M;have f:z.cells.size=n*S.size d:=by grind
    have s:(execOp a.eval o).run P w= .ok (.value (.pointer (some ⟨w.heap.size,0,none⟩))) (w.alloc (.cells z.cells t)):=by
     simp[execOp,X,Instr.alloc,W,newVar,newRow,newObj,Sem.run]
    have Y:Below w.heap.size w (w.alloc (.cells z.cells t)):=(Below.refl w.heap.size w).alloc (lH _) _;obtain⟨O,U,Z⟩:=h.add (l:=fr) (bk:= .row t d) (v:= .slice (some ⟨w.heap.size,0,none⟩) n n) Y (E fr (lH _) ah) (fun b u=>by simp[dB]at u;omega)
     (fun M' hk _=>by
      refine⟨⟨fun b u=> .inl ?_,by rw[m];omega,A.aap _ _ _ _ C⟩,z.cells.toList,⟨?_, .inr ⟨w.heap.size,n,z.cells,by rw[m],qR _,heap_alloc_new w _,by omega,by simp only[maxLen];omega,f,?_⟩⟩,fun k j i B=> ?_⟩
      ·simp only[dB,Og]at u;have:=h.below.size;omega
      ·rw[Qbp,m,f]
      ·rw[Qda];rw[Qbp,m,f];exact lH _
      ·rw[m]at i;obtain⟨x0,q,J⟩:=R k j i B;have L:=qf i B;have r:k*S.size d+j < z.cells.size:=by rw[f];exact L
       refine⟨z.cells[k*S.size d+j],by simp[r],A.data _ _ _ ah B,J.rel ?_⟩;have H:p.zero[k*S.size d+j]? =some z.cells[k*S.size d+j]:=by rw[<-D];simp[r]
       simp only[Qb5,H,Qbh,Og]at q;rw[<-q];exact(xZ _).norm)
    exact jA s (V _ _ _ Z U (O.weaken Po) ⟨w.heap.size,n,n,upd_same _ _ _,by simp⟩)
   ·cases c
theorem aad {t:TypeId}{x y:Operand}(V:ShOk S)(ho:o.op= .store t x y)(W:∀t r,T t=some r->TyOk P t r)(h:Hp S w0 N blk g al w)(hx:(aI slot x).Rel S (aJ N blk g) w g (a.eval x))(O:(aI slot y).Rel S (aJ N blk g) w g (a.eval y))
  (c:Y7 T S blk t (aI slot x) (aI slot y)=some out) (D:kF out.pre) (hK:Post S w0 N blk g al w fr out o.dst a K):o.wp P a w K Q:=by
 unfold Y7 at c;split at c
 ·cases c
 ·rename_i e n sz G;obtain⟨r,te,hty,hte,hsz,h0,UX,hag,vJ,hok,Fa⟩:=uQ W G;have MX:=jG hok w;split at c
  ·rename_i l i j s cs hex Ag;rw[hex]at hx;rw[Ag]at O;obtain⟨b,n',cap,hg,hv⟩:=hx;split at c
   ·rename_i M;simp only[iW]at M;obtain⟨⟨F,B,J⟩,c4⟩:=M;have F:=Qa F;have B:=Qa B;have J:=Qa J;subst F B J;split at c
    ·rename_i H d Z;split at c
     ·rename_i d' hd;split at c
      ·rename_i E;simp only[iW]at E;have hs:=Qa E.1;have hs':=Qa E.2;injection c with c
       subst c;have D:S.len d=n:=D;obtain⟨U,m2,m3⟩:=V.make _ _ _ _ hd;rw[Na]at m2;obtain⟨m,aa,p⟩:=O;have hul:=p.length;obtain⟨v,k,hm,xs,⟨hxl,I⟩,hcell⟩:=h.bY l _ Z;rw[hg]at k;injection k with k
       subst k;rcases I with⟨q0,_⟩ | ⟨b',cap',f,ab,_,hh,hnc,X,hcs,htake⟩
       ·cases q0
       ·injection ab with q q2 q3
        injection q with q
        injection q with q
        subst q q2 q3;have hh':w.heap[b]? =some (.cells (f.toList).toArray H (0,0)):=by simpa using hh
        have hcap:S.len d*S.size d<=f.toList.length:=by grind
        have hlu:m.length=S.len d*S.size d:=by grind
        obtain⟨w',A,Y,C,R,r1,r2,r3⟩:=jZ (P:=P) b H m w f.toList 0 0 hh' ah (jq h.refs c4 p);have u:(execOp a.eval o).run P w= .ok .skip w':=by
         have L:m.length=r.size:=by grind
         simp[execOp,ho,Instr.storeAt,Instr.sureAddr,hv,storeVar,MX,aa,Value.cells,L,A]
        obtain⟨ad,hk'⟩:=h.write (bk':= .row H d') Z rfl rfl hg rfl r1 r2 r3 R C (fun hk=>by
         refine⟨⟨hm.1,by omega,by apply V.aap;assumption⟩,m,⟨by grind, .inr ⟨b,cap,(f.toList.take (0+0)++(m++f.toList.drop (0+0+m.length))).toArray,by rw[U,<-D],qR _,Y,by omega,X,?_,?_⟩⟩,fun i' j' z hj'=> ?_⟩
         ·grind
         ·grind
         ·rw[U]at z;obtain⟨x0,ac,hle⟩:=m3 i' j' z hj';obtain⟨uv,huv,hrv⟩:=p.norm.get _ ac
          grind [Lf.Le.rel,Lf.Rel.keep,More.refl,ShOk.data])
        exact Ic u (hK _ _ _ (More.refl _) hk' (ad.weaken fun n C=> .inl C) trivial)
      ·cases c
     ·cases c
    ·cases c
   ·cases c
  ·cases c
theorem ajQ {cs:List (Lf D)}{a j:Nat}:∀(n r k:Nat),k < n->(WQ cs a j r n)[k]? =some (match cs[(r+k)*a+j]? with
  | some x=>x
  | none=> .any)
 | 0,r,k,h=>by omega
 | n+1,r,0,h=>by simp[WQ]
 | n+1,r,k+1,h=>by
  simp only[WQ,List.getElem?_cons_succ];rw[ajQ n (r+1) k ah,show r+1+k=r+(k+1) by omega]
theorem aaR {k:IntKind}:∀{cs:List (Lf D)} {l:List Int},intsOf k cs=some l->∀(i:Nat) (x:Lf D),cs[i]? =some x->x= .int k (l.getD i 0)
 | [],l,h,i,x,hx=>by simp at hx
 | c::cs,l,h,i,x,hx=>by
  cases c with
  | int d n=>
   simp only[intsOf]at h;split at h
   ·rename_i a;have a:k=d:=by simpa[Yl]using a
    subst a;split at h
    ·rename_i e b;injection h with h
     subst h;cases i with
     | zero=>grind
     | succ i=>have:=aaR b i x qco;grind
    ·cases h
   ·cases h
  | _=>simp[intsOf]at h
theorem strs_get:∀{cs:List (Lf D)} {l:List (List UInt8)},strsOf cs=some l->∀(i:Nat) (x:Lf D),cs[i]? =some x->x= .str (l.getD i [])
 | [],l,h,i,x,hx=>by simp at hx
 | c::cs,l,h,i,x,hx=>by
  cases c with
  | str s=>
   simp only[strsOf]at h;split at h
   ·rename_i b a;injection h with h
    subst h;cases i with
    | zero=>grind
    | succ i=>have:=strs_get a i x qco;grind
   ·cases h
  | _=>simp[strsOf]at h
theorem U3:∀{cs:List (Lf D)} {l:List Bool},Ij cs=some l->∀(i:Nat) (x:Lf D),cs[i]? =some x->x= .bool (l.getD i false)
 | [],l,h,i,x,hx=>by simp at hx
 | c::cs,l,h,i,x,hx=>by
  cases c with
  | bool s=>
   simp only[Ij]at h;split at h
   ·rename_i b a;injection h with h
    subst h;cases i with
    | zero=>grind
    | succ i=>have:=U3 a i x qco;grind
   ·cases h
  | _=>simp[Ij]at h
theorem aq1 {cs:List (Lf D)}{i:Nat}{p x:Lf D}(h:ag5 cs i=some p)(a:cs[i]? =some x):x=p:=by
 unfold ag5 at h
 grind [U3,aaR,strs_get]
theorem Lt {cs:List (Lf D)}{b:List Value}{a n i:Nat}(o:aN S M w g cs b)(p:cs.length=n*a)(e:i < n):∀(m j:Nat) (c:List (Lf D)),j+m=a->pickRow cs a n i j m=some c->aN S M w g c ((b.drop (i*a+j)).take m)
 | 0,j,c,t,h=>by simp[pickRow]at h;subst h;simp[aN]
 | m+1,j,c,t,h=>by
  unfold pickRow at h;split at h
  ·rename_i x q v s;injection h with h
   subst h;have z:=qf e (show j < a by omega);have d:i*a+j < cs.length:=by omega
   have y:(WQ cs a j 0 n)[i]? =some cs[i*a+j]:=by
    grind [ajQ]
   have l:=aq1 v y;obtain⟨u,A,k⟩:=o.get (i*a+j) (Qa4 d);have f:i*a+j < b.length:=by grind
   have r:b.drop (i*a+j)=u::b.drop (i*a+(j+1)):=by
    rw[Qa7 f]
    grind
   rw[r,List.take_succ_cons];exact⟨l▸k,Lt o p e m (j+1) q ah s⟩
  ·cases h
theorem Z9 {t:TypeId}{x q:Operand}(R:o.op= .index t x q)(Z:∀t C,T t=some C->TyOk P t C)(h:Hp S w0 N blk g al w)(W:(aI slot x).Rel S (aJ N blk g) w g (a.eval x))
  (s:(aI slot q).Rel S (aJ N blk g) w g (a.eval q)) (b:YO T t (aI slot x) (aI slot q)=some out) (I:kF out.pre) (L:Post S w0 N blk g al w fr out o.dst a K):o.wp P a w K Q:=by
 unfold YO at b;split at b
 ·cases b
 ·rename_i e n c D;obtain⟨C,te,hty,G,A,h0,UX,hag,Y,hok,O⟩:=wJ Z D;rw[G]at b;dsimp only at b;have B:=jG O w;have y:=uK O w;split at b
  ·rename_i cs k m X M;rw[X]at W;rw[M]at s;simp only[Sl.Rel,Sv.Rel,Lf.Rel]at s;obtain⟨d,J,hr⟩:=W;split at b
   ·rename_i H;simp only[iW]at H;have hl:=Qa H.1;split at b
    ·rename_i U V;have z:0<=m/\m < n->aN S (aJ N blk g) w g U ((d.drop (m.toNat*c)).take c):=fun hm=>by
      have:=Lt hr.norm qP (show m.toNat < n by omega) c 0 U ah V;omega
     split at b
     ·rename_i f;injection b with b
      subst b;obtain⟨j,i⟩:=I;have p:=z ⟨j,i⟩;refine aP (v:= .agg ((d.drop (m.toNat*c)).take c).toArray) ?_ h L rfl ⟨_,rfl,p⟩;have he:d.toArray.extract (m.toNat*c) (m.toNat*c+c)=((d.drop (m.toNat*c)).take c).toArray:=by
       grind
      simp[execOp,R,Instr.index,s,asIntOf,run_underlying Y,J,j,i,part,y,f,B,A,he]
     ·rename_i f;split at b
      ·rename_i l;injection b with b
       subst b;obtain⟨j,i⟩:=I;have p:=z ⟨j,i⟩;have F:=p.length;cases E:(d.drop (m.toNat*c)).take c with
       | nil=>grind
       | cons u r=>
        rw[E]at p F;have hu:d[m.toNat*c]? =some u:=by
         have:((d.drop (m.toNat*c)).take c)[0]? =some u:=by rw[E];rfl
         grind
        refine aP (v:=u) ?_ h L rfl p.1;simp[execOp,R,Instr.index,s,asIntOf,run_underlying Y,J,j,i,part,y,f,B,A,hu]
      ·cases b
    ·cases b
   ·cases b
  ·cases b
theorem XL {t:TypeId}{parts:Array (Nat×Operand)}(F:o.op= .build t parts)(y:∀t f,T t=some f->TyOk P t f)(h:Hp S w0 N blk g al w)
  (A:∀t,(slot t).Rel S (aJ N blk g) w g (a.tmps.getD t undef)) (b:Xn T slot t parts=some out) (C:Post S w0 N blk g al w fr out o.dst a K):o.wp P a w K Q:=by
 unfold Xn at b;split at b
 ·cases b
 ·rename_i e n sz j;obtain⟨f,L,s,H,m,M,J,I,G,q,E⟩:=wJ y j;rw[s]at b;dsimp only at b;split at b
  ·rename_i cs B;injection b with b
   subst b;obtain⟨z,D,l⟩:=zi q w;have r:=jG E w;obtain⟨d,c,u⟩:=Qi (a:=a) (sz:=sz) h.refs A parts.toList _ cs z.cells (by rw[l];exact pR _) B;refine aP (v:= .agg d) ?_ h C rfl ⟨d.toList,by simp,u⟩;have k:parts.toList.map (fun p=>(p.1,a.eval p.2))=(parts.map fun(i,x)=>(i,a.eval x)).toList:=by simp
   rw[k]at c;simp at c;simp[execOp,F,Instr.build,D,run_underlying G,r,m,c]
  ·cases b
theorem VY {B:TypeId}{d p z m:D}{b i j n f:Nat}{t:List (Lf D)}{zv:List Value}{cur a:Array Value}{e:TypeId}(o:ShOk S)(W:w0.Mine b)(R:S.len d<=9223372036854775807)
  (T:i<=j) (hj:j=S.len d) (C:n=S.len d) (q:S.sub d 0 i=some p) (O:S.zero e (j - i) t=some z) (A:S.cat p z=some m)
  (N:∀r c,r < S.len d->c < S.size d->∃u,cur[r*S.size d+c]? =some u/\(S.cell d r c).iT=true/\(S.cell d r c).Rel S M w' g u)
  (P:aN S M w' g t zv) (s:n<=f) (v:f<=maxLen) (w:a.size=f*S.size d)
  (H:w'.heap[b]? =some (.cells a B (0,0))) (h1:∀k,k < i*S.size d->a[k]? =cur[k]?) (h2:∀r c,i<=r->r < j->c < S.size d->a[r*S.size d+c]? =zv[c]?):
  qN S M w' g w0 (.row B m) (.slice (some ⟨b,0,none⟩) n f):=by
 obtain⟨a1,a2,a3⟩:=o.sub _ _ _ _ q (qR _) ah;obtain⟨V,Z,z3⟩:=o.zero _ _ _ _ O;obtain⟨J,I,X,Y,c5⟩:=o.cat _ _ _ A;have l:S.size m=S.size d:=by rw[<-J,a1]
 have L:S.size z=S.size d:=by rw[I,l]
 have h:S.len m=S.len d:=by omega
 have U:S.len d*S.size d<=a.size:=by rw[w,<-C];exact Qbb _ s
 refine⟨⟨fun b' x=>by simp only[dB,Og]at x;grind,by omega,o.akv _ _ _ A⟩,a.toList.take (S.len d*S.size d),⟨?_, .inr ⟨b,f,a,by rw[h,C],qR _,H,by omega,v,by grind,by rw[h,l]⟩⟩,fun r c E y=> ?_⟩
 ·grind
 ·rw[h]at E;rw[l]at y;have F:=qf E y;have K:=o.data m r c ah ah;rw[l,Qc8,Ai F,Array.getElem?_toList];by_cases Q:r < i
  ·grind [qf]
  ·have G:S.cell m r c=S.cell z (r - i) c:=by
    grind
   grind [Lf.Le.rel,aN.get]
theorem Jr {z:Array Value}{n k:Nat}(a:k < n*z.size):(Builtin.zeroCells z n).toList[k]? =z[k % z.size]? :=by
 have b:0 < z.size:=by
  grind
 have c:k % z.size < z.size:=Qck _ b;simp[Builtin.zeroCells,a,c]
theorem ac7 {c:Call}{x:Operand}(F:ShOk S)(ho:o.op= .call c)(E:c.callee= .builtin .clear)(hargs:c.args.toList=[x])(hTy:∀t ty,T t=some ty->TyOk P t ty)(h:Hp S w0 N blk g al w)(hx:(aI slot x).Rel S (aJ N blk g) w g (a.eval x))
  (s:afy T S blk c.argTypes (aI slot x)=some out) (hp:kF out.pre) (hK:Post S w0 N blk g al w fr out o.dst a K):o.wp P a w K Q:=by
 unfold afy at s;split at s
 ·rename_i t hts;split at s
  ·cases s
  ·rename_i ty hty;split at s
   ·cases s
   ·rename_i e hel;split at s
    ·cases s
    ·rename_i te hte;split at s
     ·rename_i l i j y f hex;rw[hex]at hx;obtain⟨av,n,Z,O,C,hij,hjn,_⟩:=hx;split at s
      ·rename_i Y d U;split at s
       ·rename_i I;simp only[iW]at I;obtain⟨q1,q2,q3,q4⟩:=I;have q1:=Qa q1;have q2:=Qa q2;have q3:0 < y:=by simp_all
        have q4:=Qa q4;split at s
        ·rename_i p z H hz;split at s
         ·rename_i d' Dy;injection s with s
          subst s;have hj:j=S.len d:=hp;have X:=jr (hTy _ _ hty) hel;obtain⟨zv,hzv,hzc⟩:=zi (hTy _ _ hte) w;have hzs:zv.cells.size=y:=by grind
          obtain⟨v,B,hm,xs,⟨hxl,hown⟩,hcell⟩:=h.bY l _ U;rw[O]at B;injection B with B
          have aa:c.args= #[x]:=by grind
          have R:c.argTypes= #[t]:=by grind
          rcases hown with⟨h0,hn0⟩ | ⟨b,cap',cur,hvv,_,hh,hnc,hcm,hcs,htake⟩
          ·rw[h0]at B;injection B with e1 e2 e3
           subst e1 e2 e3;have hj0:j=0:=by omega
           have hi0:i=0:=by omega
           subst hj0 hi0;obtain⟨a1,a2,a3⟩:=F.sub _ _ _ _ H (qR _) ah;obtain⟨z1,z2,z3⟩:=F.zero _ _ _ _ hz;obtain⟨c1,c2,c3,c4,c5⟩:=F.cat _ _ _ Dy;have hl0:S.len d'=0:=by rw[c3,a2,z1]
           obtain⟨g1,g2⟩:=h.ahq (bk':= .row Y d') U rfl rfl O ⟨⟨fun b U=>by grind,by omega,F.akv _ _ _ Dy⟩,[],⟨by simp[hl0], .inl ⟨rfl,hl0⟩⟩,fun r c hr=>by omega⟩;have A:(execOp a.eval o).run P w= .ok (.value (.tuple #[])) w:=by
            have C:a.eval x= .slice none 0 0:=by rw[C];simp[sliced]
            simp[execOp,ho,resolve,E,invoke,builtin,aa,R,Builtin.clear_,run_underlying X,C]
           exact jA A (hK _ _ _ (More.refl _) g2 (g1.weaken fun n G=> .inl G) ⟨[],rfl,trivial⟩)
          ·rw[hvv]at B;injection B with e1 e2 e3
           subst e1 e2 e3;have hold:∀r c,r < S.len d->c < S.size d->∃u,cur[r*S.size d+c]? =some u/\(S.cell d r c).iT=true/\(S.cell d r c).Rel S (aJ N blk g) w g u:=by
            grind
           have hmb:w0.Mine b:=hm.1 b (by rw[hvv];rfl);have J:aN S (aJ N blk g) w g (te.zero.map fun v=>(vk v:Lf D).norm) zv.cells.toList:=by
            have:=(pR (D:=D) (S:=S) (M:=aJ N blk g) (w:=w) (g:=g) te.zero).norm;rw[Qcb,<-hzc]at this;rw[<-hzc];exact this
           by_cases hlt:i < j
           ·have aIk:¬Z=i:=by omega
            have hva:a.eval x= .slice (some ⟨b,i*y,none⟩) (j - i) (Z - i):=by rw[C];simp[sliced,aIk,jY]
            have hh':w.heap[b]? =some (.cells (cur.toList).toArray Y (0,0)):=by simpa using hh
            have hul:(Builtin.zeroCells zv.cells (j - i)).toList.length=(j - i)*y:=by rw[Qbp,size_zeroCells,hzs]
            have hji:i*y+(j - i)*y=j*y:=by rw[<-Qdj];congr 1;omega
            have hjc:j*y<=cur.toList.length:=by grind
            have hone:(Builtin.zeroCells zv.cells (j - i)).toList.all one'=true:=by
             rw[Qa3];intro u hu;obtain⟨k,W,rfl⟩:=Qc1 hu;have ab:k < (j - i)*zv.cells.size:=by grind
             have O:=Jr ab;rw[Qa4 W]at O;have hmem:(Builtin.zeroCells zv.cells (j - i)).toList[k]∈zv.cells.toList:=by
              grind
             obtain⟨m,hm',he⟩:=Qc1 hmem;obtain⟨x0,hx0,hxr⟩:∃x0:Lf D,(te.zero.map fun v=>(vk v:Lf D).norm)[m]? =some x0/\x0.Rel S (aJ N blk g) w g zv.cells.toList[m]:=by
              have hlm:=J.length;have hm2:m < (te.zero.map fun v=>(vk v:Lf D).norm).length:=by omega
              obtain⟨u,hu1,hu2⟩:=J.get m (Qa4 hm2)
              grind
             obtain⟨z1,z2,z3⟩:=F.zero _ _ _ _ hz;have hmz:m < S.size z:=by grind
             obtain⟨x1,L,hle⟩:=z3 0 m ah hmz;rw[hx0]at L;injection L with L
             subst L;have:=PP (F.data z 0 m ah hmz) (hle.rel hxr);rw[<-he];exact this
            obtain⟨w',A,hb',G,hsm,r1,r2,r3⟩:=jZ (P:=P) b Y (Builtin.zeroCells zv.cells (j - i)).toList w cur.toList (i*y) 0 hh' ah hone;generalize V:(Builtin.zeroCells zv.cells (j - i)).toList=us at*;obtain⟨hp',ab⟩:=h.write (bk':= .row Y d') U rfl rfl O rfl r1 r2 r3 hsm G (fun W=>
             VY (cur:=cur) (zv:=zv.cells.toList) F hmb hm.2.1 hij hj rfl H hz Dy (fun r c hr E=>by grind [Lf.Rel.keep,More.refl])
              (J.keep W (More.refl _)) hnc hcm (by
               rw[<-hcs];simp only[List.size_toArray,kG,zU,Qa9]
               grind) hb' (fun k W=>by
               rw[<-q2]at W
               grind)
              (fun r c hr1 hr2 E=>by
               rw[<-q2]at E⊢;have hpos:i*y<=r*y:=Qbb _ hr1;have hrc:r*y+c - i*y=(r - i)*y+c:=by rw[Nat.sub_mul];omega
               have hlu:(r - i)*y+c < us.length:=by
                rw[hul];exact qf ah E
               rw[List.getElem?_toArray,Qa6 qP];have hidx:r*y+c - (cur.toList.take (i*y+0)).length=(r - i)*y+c:=by
                grind
               rw[hidx,Qca hlu,<-V,Jr qP,hzs,Qcd,Qdm,Qbv E,Array.getElem?_toList]))
            have hrun':(execOp a.eval o).run P w= .ok (.value (.tuple #[])) w':=by
             obtain⟨m,hm'⟩:∃m,j - i=m+1:=⟨j - i - 1,by omega⟩;rw[hm']at hva V;simp[execOp,ho,resolve,E,invoke,builtin,aa,R,Builtin.clear_,run_underlying X,hva,hzv,V,A]
            exact jA hrun' (hK _ _ _ (More.refl _) ab (hp'.weaken fun n G=> .inl G) ⟨[],rfl,trivial⟩)
           ·have hie:i=j:=by omega
            subst hie;obtain⟨g1,g2⟩:=h.ahq (bk':= .row Y d') U rfl rfl O (VY (cur:=cur) (zv:=zv.cells.toList) F hmb hm.2.1 hij hj rfl H hz Dy hold J hnc hcm hcs hh (fun _ _=>rfl) (fun r c h1 h2=>by omega));have A:(execOp a.eval o).run P w= .ok (.value (.tuple #[])) w:=by
             have C:∃q,a.eval x= .slice (some q) 0 (Z - i):=by
              rw[C];unfold sliced
              grind
             obtain⟨q,C⟩:=C;simp[execOp,ho,resolve,E,invoke,builtin,aa,R,Builtin.clear_,run_underlying X,C]
            exact jA A (hK _ _ _ (More.refl _) g2 (g1.weaken fun n G=> .inl G) ⟨[],rfl,trivial⟩)
         ·cases s
        ·cases s
       ·cases s
      ·cases s
     ·cases s
 ·cases s
theorem amx (c:∀t q,T t=some q->TyOk P t q)(r:∀f s,Γ f=some s->CtOk P S f s)(p:ShOk S)(h:Hp S w0 N blk g al w)(j:∀n,fr<=n->n < fr+64->¬al n)
  (k:∀t,(slot t).Rel S (aJ N blk g) w g (a.tmps.getD t undef)) (b:aDU T S Γ slot blk fr o.op=some out) (l:kF out.pre) (i:Post S w0 N blk g al w fr out o.dst a K):o.wp P a w K Q:=by
 unfold aDU at b;split at b
 ·rename_i u e;injection b with b
  subst b;have m:=mM k;unfold azX at e;split at e
  ·rename_i t d;exact Yw p d c h j e i
  ·rename_i t x d;exact ab7 d c h (m x) e l i
  ·grind [aad]
  ·grind [Yr]
  ·grind [Z9]
  ·rename_i t parts d;exact XL d c h k e i
  ·grind [ac7]
  ·rename_i t x d;exact ama d c h (m x) e i
  ·rename_i x v t d;exact X5 d c h (m x) e l i
  ·cases e
 ·exact amr c r p h j k b l i
end
end Go.Vc
namespace Go.Vc
open Go.RowKit
def o5 (s:List UInt8)(p:Nat):Int:=((Utf8.decode ⟨s.toArray⟩ p).1:Nat)
def vG (s:List UInt8)(p:Nat):Nat:=(Utf8.decode ⟨s.toArray⟩ p).2
section
variable {D:Type}
def af5 (T:TypeId->Option Ty)(a:Nat)(t:TypeId)(x:Sl D):Option (Out D):=
 match T t with
 | none=>none
 | some b=>(match x with
  | .one (.lf (.str s))=>if Nat.beq b.kind 3 then some ⟨none, .one (.lf (.ptr a 0)),[(a,some (.iter s 0))]⟩else none
  | _=>none)
def aHL (T:TypeId->Option Ty)(S:Sh D)(d:FuncId->Option (Ct D))(a:Nat->Sl D)(c:Nat->Option (Bk D))(b:Nat)(op:Op):Option (Out D):=
 match op with
 | .range t x=>af5 T b t (aI a x)
 | op=>aDU T S d a c b op
def ao0 (a:Nat->Sl D)(b:Nat->Option (Bk D))(d:Op):Option (Bool×Out D×Out D):=
 match d with
 | .next c true=>(match aI a c with
  | .one (.lf (.ptr l o))=>if Nat.beq o 0 then(match b l with
   | some (.iter s p)=>some (decide (p < s.length),⟨none, .tup [.lf (.val (.bool true)), .lf (.int .i64 p), .lf (.int .i32 (o5 s p))],[(l,some (.iter s (p+vG s p)))]⟩,⟨none, .tup [.lf (.val (.bool false))],[]⟩)
   | _=>none)else none
  | _=>none)
 | _=>none
end
section
variable {D:Type}{P:Program}{S:Sh D}{T:TypeId->Option Ty}{Γ:FuncId->Option (Ct D)}{M M' N:Nat->Prop}{w w':World}{w0:Bs}{g g':Nat->Option Value}{blk blk':Nat->Option (Bk D)}{al:Nat->Prop}
 {a:Act} {o:Oper} {K:Act->World->Prop} {Q:Exit->Act->World->Prop} {slot gu:Nat->Sl D} {out:Out D} {fr:Nat}
theorem acR {t:TypeId}{x:Operand}(C:o.op= .range t x)(u:∀t j,T t=some j->TyOk P t j)(h:Hp S w0 N blk g al w)(p:∀n,fr<=n->n < fr+64->¬al n)(f:(aI slot x).Rel S (aJ N blk g) w g (a.eval x))
  (c:af5 T fr t (aI slot x)=some out) (A:Post S w0 N blk g al w fr out o.dst a K):o.wp P a w K Q:=by
 unfold af5 at c;split at c
 ·cases c
 ·rename_i j q;split at c
  ·rename_i s r;rw[r]at f;simp only[Sl.Rel,Sv.Rel,Lf.Rel]at f;split at c
   ·rename_i e;have e:=Qa e;obtain⟨d,k,m⟩:=lK (u _ _ q);rw[e]at m;have k:P.underlying t=some .string:=by cases d<;>simp_all [kindOf]
    injection c with c
    subst c;have i:(execOp a.eval o).run P w= .ok (.value (.pointer (some ⟨w.heap.size,0,none⟩))) (w.alloc (.stringIter ⟨s.toArray⟩ 0)):=by
     simp[execOp,C,Instr.range,f.1,run_underlying k,newObj,Sem.run]
    have D:Below w.heap.size w (w.alloc (.stringIter ⟨s.toArray⟩ 0)):=(Below.refl w.heap.size w).alloc (lH _) _;obtain⟨y,B,E⟩:=h.add (l:=fr) (bk:= .iter s 0) (v:= .pointer (some ⟨w.heap.size,0,none⟩)) D (p fr (lH _) ah) (fun b z=>by simp[dB]at z;omega)
     (fun M' e _=>⟨f.2,w.heap.size,rfl, .inl h.below.size,heap_alloc_new w _⟩)
    exact jA i (A _ _ _ E B (y.weaken Po) ⟨w.heap.size,upd_same _ _ _,rfl⟩)
   ·cases c
  ·cases c
theorem run_next_at {s:ByteArray}{p b:Nat}{ty:TypeId}(a:w.heap[b]? =some (.stringIter s p))(h:p < s.size):(Instr.next (.pointer (some ⟨b,0,none⟩)) true ty).run P w=
  .ok (.tuple #[.bool true, .int .i64 p, .int .i32 ((Utf8.decode s p).1:Nat)]) {w with heap:=w.heap.setIfInBounds b (.stringIter s (p+(Utf8.decode s p).2))}:=by
 simp only[Instr.next,getObj,setObj,Sem.run_bind,Sem.run,a,Result.andThen,h,if_true];simp[goInt]
theorem abO {s:ByteArray}{p b:Nat}{ty:TypeId}(a:w.heap[b]? =some (.stringIter s p))(h:¬p < s.size):(Instr.next (.pointer (some ⟨b,0,none⟩)) true ty).run P w= .ok (.tuple #[.bool false]) w:=by
 simp[Instr.next,getObj,Sem.run,a,h]
theorem afo {b:Bool}{q r:Out D}(h:Hp S w0 N blk g al w)(M:∀t,(slot t).Rel S (aJ N blk g) w g (a.tmps.getD t undef))
  (d:ao0 slot blk o.op=some (b,q,r)) (k:Post S w0 N blk g al w fr (bif b then q else r) o.dst a K):o.wp P a w K Q:=by
 have O:=mM M;unfold ao0 at d;split at d
 ·rename_i H B;have j:=O H;split at d
  ·rename_i l T F;rw[F]at j;split at d
   ·rename_i f;have f:=Qa f;subst f;obtain⟨z,E,j⟩:=j;split at d
    ·rename_i s p u;injection d with d
     injection d with W d
     injection d with J I
     obtain⟨v,c,x,U,rfl,L,m⟩:=h.bY l _ u;rw[E]at c;injection c with c
     injection c with c
     injection c with c
     injection c with c
     subst c;have R:(ByteArray.mk s.toArray).size=s.length:=by rfl
     by_cases V:p < s.length
     ·have i:b=true:=by grind
      subst i;rw[xU]at k;subst J;have e:=run_next_at (P:=P) (ty:=o.type) m ah;have G:=Nl m;obtain⟨y,C⟩:=h.write (w':={w with heap:=w.heap.setIfInBounds z (.stringIter ⟨s.toArray⟩ (p+vG s p))}) (bk':= .iter s (p+vG s p)) u rfl rfl E rfl rfl rfl rfl oG
       (fun n A=>by
        grind) (fun X=>⟨x,z,rfl,L,by simp[G]⟩)
      refine jA (v:= .tuple #[.bool true, .int .i64 p, .int .i32 (o5 s p)]) ?_ (k _ _ _ (More.refl _) C (y.weaken fun n A=> .inl A) ⟨[.bool true, .int .i64 p, .int .i32 (o5 s p)],rfl,rfl,rfl,rfl,trivial⟩);simp only[execOp,B,j,Sem.run_bind,e,Result.andThen_ok,Sem.run_pure];rfl
     ·have i:b=false:=by grind
      subst i;rw[og]at k;subst I;have e:=abO (P:=P) (ty:=o.type) m ah;refine aP (v:= .tuple #[.bool false]) ?_ h k rfl ⟨[.bool false],rfl,rfl,trivial⟩;simp only[execOp,B,j,Sem.run_bind,e,Result.andThen_ok,Sem.run_pure]
    ·cases d
   ·cases d
  ·cases d
 ·cases d
end
end Go.Vc
