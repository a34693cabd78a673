/- Own engine: Vdh, Vdt, Vdu, Vdv, Vdw. -/
import Derived.Test.YtenjnekcoapajaaGreatDoorEng3
import Derived.Laws.RangeString
set_option linter.unusedVariables false
set_option linter.unusedSimpArgs false
namespace Go.Vc
open Go.RowKit
section
variable {D:Type}{P:Program}{S:Sh D}{T:TypeId->Option Ty}{Γ:FuncId->Option (Ct D)}{M M' N:Nat->Prop}{w w':World}{w0:Bs}{g g':Nat->Option Value}{blk blk':Nat->Option (Bk D)}{al:Nat->Prop}
 {a:Act} {o:Oper} {K:Act->World->Prop} {Q:Exit->Act->World->Prop} {slot:Nat->Sl D} {out:Out D} {fr:Nat} {ids jv:List Nat}
structure aqG (N:Nat->Prop)(blk:Nat->Option (Bk D))(g:Nat->Option Value)(jv:List Nat)(M':Nat->Prop):Prop where
 sub:∀b,M' b->aS N blk g b
 off:∀l∈jv,∀v b,hot (blk l)=true->g l=some v->dE v=some b->¬M' b
theorem Lf.Rel.view (F:ShOk S){x:Lf D}{v:Value}(h:Hp S w0 N blk g al w)(m:aqG N blk g jv M')(B:∀l∈x.owns,l∈jv)(k:x.Rel S (aS N blk g) w g v):(x.view blk).Rel S M' w g v:=by
 cases x with
 | own l=>
  have k:g l=some v:=k;simp only[Lf.view];split
  ·rename_i e d hb;exact JA h hb k m.sub (fun b p=>m.off l (B l (by simp[Lf.owns])) v b qbo k p)
  ·rename_i d hb;exact ajM F h qbo k m.sub (fun b p=>m.off l (B l (by simp[Lf.owns])) v b qbo k p)
  ·rename_i d hb;obtain⟨G,c,s⟩:=h.bY l _ hb;rw[k]at c;injection c with c
   subst c;exact bW.mono s m.sub
  ·exact k
 | part l i j E f=>
  obtain⟨z,n,o,t,rfl,y,A,rfl⟩:=k;have u:∀d r,bW S M' w d (.slice z n o)->aab S E i j d=some r->bW S M' w r (sliced z i j o E):=by
   intro d r H q;unfold aab at q;split at q
   ·rename_i C;have C:=Qa C
    grind [bW.slice',ShOk.EN,Gl]
   ·cases q
  simp only[Lf.view];split
  ·rename_i e d hb;split
   ·rename_i r q;exact u d r (JA h hb t m.sub (fun b p=>m.off l (B l (by simp[Lf.owns])) _ b qbo t p)) q
   ·trivial
  ·rename_i d hb;split
   ·rename_i r q;obtain⟨G,c,s⟩:=h.bY l _ hb;rw[t]at c;injection c with c
    subst c;exact u d r (bW.mono s m.sub) q
   ·trivial
  ·exact⟨z,n,o,t,rfl,y,A,rfl⟩
 | dat d=>exact bW.mono k m.sub
 | elt d i j=>obtain⟨a,n,o,y,A⟩:=k;exact⟨a,n,o,y.mono m.sub,A⟩
 | xt e=>exact Xt.Rel.mono k m.sub
 | _=>exact k
theorem aW.view (c:ShOk S)(h:Hp S w0 N blk g al w)(e:aqG N blk g jv M'):∀{a:List (Lf D)} {b:List Value},(∀l∈a.flatMap Lf.owns,l∈jv)->aW S (aS N blk g) w g a b->aW S M' w g (a.map (Lf.view blk)) b
 | [],[],_,_=>trivial
 | x::a,v::b,d,f=>⟨f.1.view c h e (fun l hl=>d l qbu),aW.view c h e (fun l hl=>d l dm) f.2⟩
theorem Sv.Rel.view (a:ShOk S){x:Sv D}{v:Value}(h:Hp S w0 N blk g al w)(c:aqG N blk g jv M')(b:∀l∈x.owns,l∈jv)(d:x.Rel S (aS N blk g) w g v):(x.view blk).Rel S M' w g v:=by
 cases x with
 | lf x=>exact Lf.Rel.view a h c b d
 | agg j=>obtain⟨f,e,i⟩:=d;exact⟨f,e,i.view a h c b⟩
theorem fP.view (c:ShOk S)(h:Hp S w0 N blk g al w)(e:aqG N blk g jv M'):∀{a:List (Sv D)} {b:List Value},(∀l∈a.flatMap Sv.owns,l∈jv)->fP S (aS N blk g) w g a b->fP S M' w g (a.map (Sv.view blk)) b
 | [],[],_,_=>trivial
 | x::a,v::b,d,f=>⟨f.1.view c h e (fun l hl=>d l qbu),fP.view c h e (fun l hl=>d l dm) f.2⟩
theorem Sl.Rel.view (a:ShOk S){x:Sl D}{v:Value}(h:Hp S w0 N blk g al w)(c:aqG N blk g jv M')(b:∀l∈x.owns,l∈jv)(d:x.Rel S (aS N blk g) w g v):(x.view blk).Rel S M' w g v:=by
 cases x with
 | one x=>exact Sv.Rel.view a h c b d
 | Dh j=>obtain⟨f,e,i⟩:=d;exact⟨f,e,i.view a h c b⟩
theorem eF.view (c:ShOk S)(h:Hp S w0 N blk g al w)(e:aqG N blk g jv M'):∀{a:List (Sl D)} {b:List Value},(∀l∈a.flatMap Sl.owns,l∈jv)->eF S (aS N blk g) w g a b->eF S M' w g (a.map (Sl.view blk)) b
 | [],[],_,_=>trivial
 | x::a,v::b,d,f=>⟨f.1.view c h e (fun l hl=>d l qbu),eF.view c h e (fun l hl=>d l dm) f.2⟩
theorem eF.less (h:∀b,M' b->M b):∀{c:List (Sl D)} {a:List Value},eF S M w g c a->eF S M' w g c a
 | [],[],_=>trivial
 | x::c,v::a,j=>by
  refine⟨?_,eF.less h j.2⟩;have:=j.1.ren (g':=g) (M':=M') (f:=fun l=>l) (fun _ _ _ k=>k) (fun _=>h);have e:x.ren (fun l=>l)=x:=by
   have d:∀y:Lf D,y.ren (fun l=>l)=y:=fun y=>by cases y<;>simp[Lf.ren]
   have i:∀y:Sv D,y.ren (fun l=>l)=y:=fun y=>by cases y with
    | lf y=>simp[Sv.ren,d]
    | agg m=>simp only[Sv.ren];congr 1;exact(Qbl fun y _=>d y).trans (Qd8 _)
   cases x with
   | one y=>simp[Sl.ren,i]
   | Dh m=>simp only[Sl.ren];congr 1;exact(Qbl fun y _=>i y).trans (Qd8 _)
  rwa [e]at this
theorem eF.app:∀{c d:List (Sl D)} {b a:List Value},eF S M w g c b->eF S M w g d a->eF S M w g (c++d) (b++a)
 | [],_,[],_,_,h=>h
 | _::_,_,_::_,_,h,e=>⟨h.1,eF.app h.2 e⟩
theorem lH:∀(r ids:List Nat) (l:Nat),l∈mZ ids r ↔ l∈ids\/l∈r
 | [],ids,l=>by simp[mZ]
 | x::r,ids,l=>by
  unfold mZ;rw[lH r]
  grind [fC]
theorem ami {x:Lf D}{l:Nat}(a:l∈x.owns):((∃d,rwD (blk l)=some d)\/hot (blk l)=false\/l∈(x.view blk).refs):=by
 cases x with
 | own b=>
  simp[Lf.owns]at a;subst a;simp only[Lf.view];split
  ·rename_i e d hb;exact .inl ⟨d,by rw[hb];rfl⟩
  ·rename_i d hb;exact .inl ⟨d,by rw[hb];rfl⟩
  ·rename_i d hb;exact .inr (.inl qbo)
  ·exact .inr (.inr qbe)
 | part b i j c f=>
  simp[Lf.owns]at a;subst a;simp only[Lf.view];split
  ·rename_i e d hb;exact .inl ⟨d,by rw[hb];rfl⟩
  ·rename_i d hb;exact .inr (.inl qbo)
  ·exact .inr (.inr qbe)
 | _=>simp[Lf.owns]at a
theorem alN {x:Sv D}{l:Nat}(a:l∈x.owns):((∃d,rwD (blk l)=some d)\/hot (blk l)=false\/l∈(x.view blk).refs):=by
 cases x with
 | lf x=>exact ami a
 | agg c=>
  obtain⟨y,b,a⟩:=Qa1.1 a;rcases ami (blk:=blk) a with h | h | h
  ·exact .inl h
  ·grind
  ·exact .inr (.inr (Qa1.2 ⟨_,QH.2 ⟨y,b,rfl⟩,h⟩))
theorem akH {x:Sl D}{l:Nat}(a:l∈x.owns):((∃d,rwD (blk l)=some d)\/hot (blk l)=false\/l∈(x.view blk).refs):=by
 cases x with
 | one x=>exact alN a
 | Dh c=>
  obtain⟨y,b,a⟩:=Qa1.1 a;rcases alN (blk:=blk) a with h | h | h
  ·exact .inl h
  ·grind
  ·exact .inr (.inr (Qa1.2 ⟨_,QH.2 ⟨y,b,rfl⟩,h⟩))
theorem avA {x:Lf D}{v:Value}{l:Nat}(b:x.Rel S M w g v)(a:l∈x.owns):∃u,g l=some u:=by
 cases x with
 | own c=>simp[Lf.owns]at a;subst a;exact⟨v,b⟩
 | part c i j k f=>simp[Lf.owns]at a;subst a;obtain⟨h,n,d,e,_⟩:=b;grind
 | _=>simp[Lf.owns]at a
theorem alM {l:Nat}:∀{b:List (Lf D)} {c:List Value},aW S M w g b c->l∈b.flatMap Lf.owns->∃u,g l=some u
 | [],[],_,a=>by simp at a
 | x::b,v::c,d,a=>by
  rw[Qdc,vO]at a;exact a.elim (avA d.1) (alM d.2)
theorem aun {x:Sv D}{v:Value}{l:Nat}(b:x.Rel S M w g v)(a:l∈x.owns):∃u,g l=some u:=by
 cases x with
 | lf x=>exact avA b a
 | agg e=>obtain⟨d,_,c⟩:=b;exact alM c a
theorem am2 {l:Nat}:∀{b:List (Sv D)} {c:List Value},fP S M w g b c->l∈b.flatMap Sv.owns->∃u,g l=some u
 | [],[],_,a=>by simp at a
 | x::b,v::c,d,a=>by
  rw[Qdc,vO]at a;exact a.elim (aun d.1) (am2 d.2)
theorem aEU {x:Sl D}{v:Value}{l:Nat}(b:x.Rel S M w g v)(a:l∈x.owns):∃u,g l=some u:=by
 cases x with
 | one x=>exact aun b a
 | Dh e=>obtain⟨d,_,c⟩:=b;exact am2 c a
theorem acn {l:Nat}:∀{b:List (Sl D)} {c:List Value},eF S M w g b c->l∈b.flatMap Sl.owns->∃u,g l=some u
 | [],[],_,a=>by simp at a
 | x::b,v::c,d,a=>by
  rw[Qdc,vO]at a;exact a.elim (aEU d.1) (acn d.2)
theorem Zu:∀{a:List Nat} {d:List Value},a.map g=d.map some->(∀l∈a,∃b,g l=some (.pointer (some ⟨b,0,none⟩)))->eF S M w g (a.map fun l=> .one (.lf (.ptr l 0))) d
 | [],[],_,_=>trivial
 | c::a,v::d,h,e=>by
  simp only[Qp,Qdk]at h;obtain⟨b,f⟩:=e c jQ;refine⟨⟨b,f,?_⟩,Zu h.2 fun l hl=>e l qbu⟩
  grind
 | [],_::_,h,_=>by simp at h
 | _::_,[],h,_=>by simp at h
theorem ahH (O:ShOk S){c:Call}{f:FuncId}{j:List Nat}{L:Operand}(ho:o.op= .call c)(hc:c.callee= .value L)(hf:aP slot L= .one (.lf (.fn f j)))(aa:∀f u,Γ f=some u->CtOk P S f u)(h:Hp S w0 N blk g al w)(Z:∀n,fr<=n->n < fr+64->¬al n)
  (hs:∀t,(slot t).Rel S (aS N blk g) w g (a.tmps.getD t undef)) (i:Zj Γ f blk (c.args.toList.map (aP slot)++j.map fun l=> .one (.lf (.ptr l 0))) fr=some out) (hp:lG out.pre) (W:j.all (fun l=>isCells (blk l))=true) (hK:Post S w0 N blk g al w fr out o.dst a K):o.wp P a w K Q:=by
 have F:=mD hs L;rw[hf]at F;obtain⟨r,R,V⟩:=F;have U:∀l∈j,∃b,g l=some (.pointer (some ⟨b,0,none⟩)):=by
  intro l m;have:=Qb.1 W l m;cases k:blk l with
  | none=>rw[k]at this;simp[isCells]at this
  | some bk=>
   cases bk with
   | cells cs=>obtain⟨v,hv,b,vs,t,rfl,_⟩:=h.bY l _ k;grind
   | row e d=>rw[k]at this;simp[isCells]at this
   | wY d=>rw[k]at this;simp[isCells]at this
   | iter s p=>rw[k]at this;simp[isCells]at this
   | map kvs=>rw[k]at this;simp[isCells]at this
   | tc t cs=>rw[k]at this;simp[isCells]at this
 have C:eF S (aS N blk g) w g (c.args.toList.map (aP slot)++j.map fun l=> .one (.lf (.ptr l 0))) (c.args.toList.map a.eval++r):=(MZ hs c.args.toList).app (Zu V U);unfold Zj at i;split at i
 ·cases i
 ·rename_i u T;have E:=aa f u T;have H:(execOp a.eval o).run P w= .ok (.enter f (c.args.toList.map a.eval++r).toArray) w:=by
   have hen:=E.enters (c.args.toList.map a.eval++r).toArray w;simp only[execOp,ho,resolve,hc,Deferred.ofValue,R,Sem.run_bind,Sem.run_pure,Result.andThen_ok,invoke];have:(#[]++c.args.map a.eval:Array Value)++r.toArray=(c.args.toList.map a.eval++r).toArray:=by grind
   rw[this,hen]
  have X:(Calls P f (c.args.toList.map a.eval++r).toArray w fun e w'=>∃v g',e= .returned v/\More g g'/\Keeps (aS N blk g) w (aS N (jc blk out.blks) g') w'/\Hp S w0 N (jc blk out.blks) g' (fun n=>al n\/(fr<=n/\n < fr+64)) w'/\
    out.val.Rel S (aS N (jc blk out.blks) g') w' g' v)->o.wp P a w K Q:=by
   intro B;simp only[Oper.wp,H,Oper.upon_enter];refine B.mono ?_;rintro e w' ⟨v,g',rfl,A,h2,h3,h4⟩;exact hK v w' g' A h2 h3 h4
  dsimp only at i;have hn:=C.norm;generalize (c.args.toList.map (aP slot)++j.map fun l=>(.one (.lf (.ptr l 0)):Sl D)).map Sl.norm=G at hn i;cases A:MP u blk fr (G.map (Sl.view blk)) (mZ [] (G.flatMap Sl.owns))with
  | some out'=>
   rw[A]at i;simp only[BR,XM]at i;subst i;refine X (vT O E h Z (fun ids bY Y hv=> ?_) (fun l m=> ?_) (fun l m=> ?_) A hp)
   ·refine eF.view O (jv:=mZ [] (G.flatMap Sl.owns)) h ⟨fun b k=>(uP Y b k).1,fun l m v b M z y k=> ?_⟩ (fun l m=>(lH _ _ _).2 (.inr m)) hn;rcases(uP Y b k).2 with q | ⟨l',v',⟨q1,q2,J,I⟩ | ⟨q1,q2,J,I⟩⟩
    ·exact h.agY M z y q
    ·have:=h.sep l l' v v' b M q1 z J y I
     grind
    ·have:=h.sep l l' v v' b M q2 z J y I
     grind
   ·grind [lH,acn]
   ·obtain⟨x,hx,hlx⟩:=Qa1.1 (((lH _ _ _).1 m).resolve_left jQ);rcases akH (blk:=blk) hlx with q | q | q
    ·exact .inl q
    ·exact .inr (.inl q)
    ·exact .inr (.inr (Qa1.2 ⟨_,QH.2 ⟨x,hx,rfl⟩,q⟩))
  | none=>
   rw[A]at i;simp only[BR]at i
   grind [eF.less,vT,uP]
theorem adD (z:∀t G,T t=some G->TyOk P t G)(U:∀f R,Γ f=some R->CtOk P S f R)(J:ShOk S)(h:Hp S w0 N blk g al w)(F:∀n,fr<=n->n < fr+64->¬al n)
  (I:∀t,(slot t).Rel S (aS N blk g) w g (a.tmps.getD t undef)) (e:xOp T S Γ slot blk fr o.op=some out) (B:lG out.pre) (p:Post S w0 N blk g al w fr out o.dst a K):o.wp P a w K Q:=by
 have r:=mD I;cases k:o.op with
 | move x=>rw[k]at e;injection e with e;subst e;exact aY (v:=a.eval x) (by simp[execOp,k]) h p rfl (r x)
 | assign x=>rw[k]at e;injection e with e;subst e;exact aY (v:=a.eval x) (by simp[execOp,k]) h p rfl (r x)
 | pick c x y=>rw[k]at e;exact ahy k h (r c) (r x) (r y) e p
 | alloc t=>
  rw[k]at e;simp only[xOp]at e
  grind [ae5]
 | box t x=>
  rw[k]at e;simp only[xOp]at e;split at e
  ·rename_i u Z;split at e
   ·rename_i X;injection e with e
    subst e;have A:=r x;rw[Z]at A;exact ann k h F A X p
   ·cases e
  ·cases e
 | build t parts=>rw[k]at e;exact ad9 k z h I e p
 | buildSlice t n parts=>rw[k]at e;exact sound_row J k z h I F e p
 | load t x=>
  rw[k]at e;simp only[xOp]at e;cases s:T t with
  | none=>simp[PL,s]at e
  | some G=>exact aig k (z _ _ s) s h (r x) e B p
 | store t x y=>
  rw[k]at e;simp only[xOp]at e;cases s:T t with
  | none=>simp[acN,s]at e
  | some G=>grind [age]
 | nilCheck x=>
  rw[k]at e;simp only[xOp]at e;have A:=r x;split at e
  ·rename_i l q D;rw[D]at A;injection e with e;subst e
   refine aY (v:=a.eval x) ?_ h p rfl A;obtain⟨b,_,E⟩:=A;simp[execOp,k,E]
  ·rename_i d i j D;rw[D]at A;injection e with e;subst e
   refine aY (v:=a.eval x) ?_ h p rfl A;obtain⟨ad,n,V,_,_,E⟩:=A;simp[execOp,k,E]
  ·rename_i l i j sz D;rw[D]at A;injection e with e;subst e
   refine aY (v:=a.eval x) ?_ h p rfl A;obtain⟨b,n,V,_,E⟩:=A;simp[execOp,k,E]
  ·rename_i f C D;rw[D]at A;injection e with e;subst e
   refine aY (v:=a.eval x) ?_ h p rfl A;obtain⟨vs,E,_⟩:=A;simp[execOp,k,E]
  ·cases e
 | binOp M t x y yt=>
  rw[k]at e;simp only[xOp]at e;cases O:amm T S M t (aP slot x) (aP slot y)with
  | some aa=>
   rw[O]at e;injection e with e
   grind [ahK]
  | none=>
   rw[O]at e;exact ao8 k z h (r x) (r y) e B p
 | unOp M t x=>rw[k]at e;exact avb k h (r x) e B p
 | fieldAddr t x f=>
  rw[k]at e;simp only[xOp]at e;cases s:T t with
  | none=>simp[abK,s]at e
  | some G=>exact afw k (z _ _ s) s h (r x) e p
 | field t x f=>
  rw[k]at e;simp only[xOp]at e;cases s:T t with
  | none=>simp[amF,s]at e
  | some G=>exact ajd k (z _ _ s) s h (r x) e p
 | indexAddr t x i=>rw[k]at e;exact ae_ k z h (r x) (r i) e B p
 | extract x i=>rw[k]at e;exact XU k h (r x) e p
 | call c=>
  rw[k]at e;simp only[xOp]at e;split at e
  ·grind [aof]
  ·grind [aai]
  ·grind [aai]
  ·grind [acL]
  ·rename_i fo hc;split at e
   ·rename_i f C Y;split at e
    ·rename_i L;exact ahH J k hc Y U h F I e B L p
    ·cases e
   ·cases e
  ·cases e
 | makeFunc fn first C=>
  rw[k]at e;cases fn with
  | func f=>
   simp only[xOp]at e;split at e
   ·rename_i H;split at e
    ·rename_i ls W;injection e with e
     subst e;have H:first= #[]:=by simpa using H
     subst H;refine aY (v:= .func (.func f) #[] (C.map a.eval)) ?_ h p rfl ⟨(C.map a.eval).toList,rfl,by rw[akE I _ _ W,Array.toList_map]⟩;simp[execOp,k,Instr.makeFunc]
    ·cases e
   ·cases e
  | _=>simp[xOp]at e
 | makeSlice t x y=>rw[k]at e;exact ahO J k z h F (r x) (r y) e B p
 | index t x i=>rw[k]at e;exact ad_ k z h (r x) (r i) e B p
 | convert src dst x=>rw[k]at e;exact ahQ k z h (r x) e B p
 | slice t x lo hi mx=>
  cases mx with
  | some m=>rw[k]at e;simp[xOp]at e
  | none=>rw[k]at e;exact aen J k z h r e B p
 | _=>rw[k]at e;simp[xOp]at e
end
end Go.Vc
namespace Go.Vc
open Go.RowKit
section
variable {D:Type}
def xe:List Operand->List Nat
 | []=>[]
 | .tmp t::r=>t::xe r
 | _::r=>xe r
def akV (c:List Nat)(a:Nat->Sl D)(b:Nat->Option (Bk D)):Nat->Sl D:=fun t=>if rP t c then(a t).view b else a t
def isRow:Option (Bk D)->Bool
 | some (.row _ _)=>true
 | some (.map _)=>true
 | some (.wY _)=>true
 | _=>false
def ar1:Op->Bool
 | .store _ _ _=>true
 | .buildSlice _ _ _=>true
 | _=>false
def ql (a:Nat->Sl D)(b:Op):List Nat:=mZ [] ((xe b.operands.toList).flatMap fun t=>(a t).owns)
def aB0 (T:TypeId->Option Ty)(S:Sh D)(g:FuncId->Option (Ct D))(c:Nat->Sl D)(a:Nat->Option (Bk D))(f:Nat)(d:Op):Option (Out D):=
 let e:=ql c d
 if ar1 d && e.all (fun l=>isRow (a l))then
  (match xOp T S g (akV (xe d.operands.toList) c a) (jc a (e.filterMap (jY a))) f d with
  | some b=>some ⟨b.pre,b.val,e.filterMap (jY a)++b.blks⟩
  | none=>none)
 else none
def aEH (T:TypeId->Option Ty)(S:Sh D)(f:FuncId->Option (Ct D))(a:Nat->Sl D)(b:Nat->Option (Bk D))(c:Nat)(e:Op):Option (Out D):=
 match xOp T S f a b c e with
 | some d=>some d
 | none=>aB0 T S f a b c e
theorem ED {b c:Type}{f a:b->Option c}:∀{l:List b},(∀x∈l,f x=a x)->l.filterMap f=l.filterMap a
 | [],_=>rfl
 | x::l,h=>by
  rw[Qdj,Qdj,h x jQ,ED fun y d=>h y (by simp[d])]
theorem TW {c:Type}:∀(a b:List (Nat×c)) (f:Nat->c),jc f (a++b)=jc (jc f a) b
 | [],_,_=>rfl
 | (k,v)::a,b,f=>TW a b (upd f k v)
end
section
variable {D:Type}{P:Program}{S:Sh D}{T:TypeId->Option Ty}{Γ:FuncId->Option (Ct D)}{M M' N:Nat->Prop}{w w':World}{w0:Bs}{g g':Nat->Option Value}{blk blk':Nat->Option (Bk D)}{al:Nat->Prop}
 {a:Act} {o:Oper} {K:Act->World->Prop} {Q:Exit->Act->World->Prop} {slot:Nat->Sl D} {out:Out D} {fr:Nat} {ids jv:List Nat}
theorem Keeps.comp {c g d:Nat->Prop}{a e f:World}(h:Keeps c a g e)(k:Keeps g e d f):Keeps c a d f:=
 ⟨Du h.size k.size,fun b i j=>by
  obtain⟨l,m⟩:=h.same b i j
  grind [same,size]⟩
theorem axW {l:Nat}{p:Nat×Option (Bk D)}(h:jY blk l=some p):p.1=l:=by
 unfold jY at h
 grind
theorem Hp.Gq (E:ShOk S):∀(o:List Nat) (a:Nat->Option (Bk D)),o.Nodup->Hp S w0 N a g al w->
  Hp S w0 N (jc a (o.filterMap (jY a))) g al w/\Keeps (aS N a g) w (aS N (jc a (o.filterMap (jY a))) g) w/\
   (∀n,hot (jc a (o.filterMap (jY a)) n)=true->hot (a n)=true)/\∀l∈o,isRow (a l)=true->hot (jc a (o.filterMap (jY a)) l)=false
 | [],a,_,h=>⟨h,⟨pJ _,fun b _ Z=>⟨Z,rfl⟩⟩,fun n s=>s,fun l H=>by simp at H⟩
 | l::r,a,s,h=>by
  obtain⟨H,O⟩:=List.nodup_cons.1 s;have K:∀{x:Option (Bk D)} (y:Nat->Option (Bk D)),jc y (r.filterMap (jY a)) l=y l:=fun{x} y=>xP fun v U=>by
   obtain⟨k,c,Q⟩:=Qc6.1 U;have:=axW Q
   grind
  by_cases j:∃d,rwD (a l)=some d
  ·obtain⟨d,f⟩:=j;have I:jY a l=some (l,some (.wY d)):=by unfold jY;rw[f]
   have J:=abJ f;obtain⟨aa,P,_⟩:=iM J;rw[List.filterMap_cons_some I];have L:r.filterMap (jY a)=r.filterMap (jY (upd a l (some (.wY d)))):=by
    refine ED fun k c=> ?_;have M:k≠l:=fun e=>H (e▸c)
    unfold jY;rw[bM _ _ _ _ M]
   obtain⟨v,A,_⟩:=h.bY l _ P;have ab:hot (upd a l (some (Bk.wY d)) l)=false:=by rw[upd_same];rfl
   have i:∀n,hot (upd a l (some (Bk.wY d)) n)=true->hot (a n)=true:=fun n s=>by
    grind [bM]
   have X:∀b,aS N (upd a l (some (Bk.wY d))) g b->aS N a g b:=by
    rintro b (f | ⟨n,u,G,p,W⟩)
    ·exact .inl f
    ·exact .inr ⟨n,u,i n G,p,W⟩
   obtain⟨G,Y⟩:=h.aJo l (some (.wY d)) rfl (fun bk t=>by
    injection t with t
    subst t;refine⟨v,A,ajM E h f A X fun b C=> ?_⟩;rintro(q | ⟨n,u,V,T,R⟩)
    ·exact h.agY J A C q
    ·have:=h.sep l n v u b J (i n V) A T C R
     grind)
   obtain⟨p,B,z,F⟩:=Hp.Gq E r (upd a l (some (.wY d))) O G;rw[<-L]at p B z F;refine⟨p,Y.comp B,fun n s=>i n (z n s),fun k c m=> ?_⟩;rcases yw.1 c with rfl | c
   ·show hot (jc (upd a k (some (.wY d))) (r.filterMap (jY a)) k)=false
    grind
   ·refine F k c ?_
    grind [bM]
  ·have I:jY a l=none:=by
    unfold jY
    grind
   rw[List.filterMap_cons_none I];obtain⟨p,B,z,F⟩:=Hp.Gq E r a O h;refine⟨p,B,z,fun k c m=> ?_⟩;rcases yw.1 c with rfl | c
   ·rw[K (x:=none)];unfold isRow at m;split at m
    ·rename_i e d f;exact absurd ⟨d,by rw[f];rfl⟩ j
    ·rename_i d f;exact absurd ⟨d,by rw[f];rfl⟩ j
    ·rename_i d f;rw[f];rfl
    ·cases m
   grind
theorem ap9 (y:∀t B,T t=some B->TyOk P t B)(E:∀f z,Γ f=some z->CtOk P S f z)(j:ShOk S)(h:Hp S w0 N blk g al w)(D:∀n,fr<=n->n < fr+64->¬al n)
  (G:∀t,(slot t).Rel S (aS N blk g) w g (a.tmps.getD t undef)) (c:aEH T S Γ slot blk fr o.op=some out) (O:lG out.pre) (W:Post S w0 N blk g al w fr out o.dst a K):o.wp P a w K Q:=by
 unfold aEH at c;split at c
 ·grind [adD]
 ·unfold aB0 at c;dsimp only at c;split at c
  ·rename_i V;simp only[iZ,Qb]at V;split at c
   ·rename_i d R;injection c with c
    subst c;have F:(ql slot o.op).Nodup:=oG _ _ Qdr;obtain⟨M,L,I,X⟩:=Hp.Gq j (ql slot o.op) blk F h;refine adD y E j M D (fun t=> ?_) R O (fun v w' g' m k J U=> ?_)
    ·unfold akV;split
     ·rename_i x;have x:=fC.1 x;refine Sl.Rel.view (jv:=ql slot o.op) j h ⟨?_,fun l A v b H C i=> ?_⟩ (fun l A=>(lH _ _ _).2 (.inr (Qa1.2 ⟨t,x,A⟩))) (G t)
      ·rintro b (i | ⟨n,u,s,r,p⟩)
       ·exact .inl i
       ·exact .inr ⟨n,u,I n s,r,p⟩
      ·rintro(q | ⟨n,u,s,r,p⟩)
       ·exact h.agY H C i q
       ·have:=h.sep l n v u b H (I n s) C r i p
        grind
     ·exact(G t).keep L (More.refl _)
    ·have e:jc blk ((ql slot o.op).filterMap (jY blk)++d.blks)=jc (jc blk ((ql slot o.op).filterMap (jY blk))) d.blks:=TW _ _ _;refine W v w' g' m ?_ ?_ ?_
     ·rw[e];exact L.comp k
     ·rw[e];exact J
     ·rw[e];exact U
   ·cases c
  ·cases c
end
end Go.Vc
namespace Go.Vc
open Go.RowKit
section
variable {D:Type}
def Lf.pv:Lf D->Option Pv
 | .bool b=>some (.bool b)
 | .val (.bool b)=>some (.bool b)
 | .int k n=>some (.int k n)
 | .str s=>some (.str s)
 | _=>none
def pvs:List (Lf D)->Option (List Pv)
 | []=>some []
 | x::a=>(match x.pv,pvs a with
  | some p,some b=>some (p::b)
  | _,_=>none)
def Ifc.is (v:Option Ifc)(t:TypeId):Bool:=
 match v with
 | some i=>Nat.beq i.t t
 | none=>false
def Ifc.get (v:Option Ifc)(t:TypeId)(j:Nat):Option Pv:=
 match v with
 | some i=>if Nat.beq i.t t then i.xs[j]? else none
 | none=>none
def Pv.gI:Option Pv->Int
 | some (.int _ n)=>n
 | _=>0
def azF:Value->Pv->Bool
 | .bool _, .bool _=>true
 | .int k _, .int a _=>kEq k a
 | .string _, .str _=>true
 | _,_=>false
def alI:List Value->List Pv->Bool
 | [],[]=>true
 | z::a,p::b=>azF z p && alI a b
 | _,_=>false
def Ifc.ok (v:Option Ifc)(t:TypeId)(a:Bool)(b:List Value):Bool:=
 match v with
 | some i=> !Nat.beq i.t t || ((i.agg==a) && alI b i.xs)
 | none=>true
end
section
variable {D:Type}{P:Program}{S:Sh D}{T:TypeId->Option Ty}{Γ:FuncId->Option (Ct D)}{M M' N:Nat->Prop}{w w':World}{w0:Bs}{g g':Nat->Option Value}{blk blk':Nat->Option (Bk D)}{al:Nat->Prop}
 {a:Act} {o:Oper} {K:Act->World->Prop} {Q:Exit->Act->World->Prop} {slot gz:Nat->Sl D} {out:Out D} {fr:Nat}
theorem aif {x:Lf D}{p:Pv}{v:Value}(h:x.pv=some p)(a:x.Rel S M w g v):v=p.val/\p.fits:=by
 unfold Lf.pv at h;split at h<;>first | (injection h with h;subst h;exact⟨a,trivial⟩) | (injection h with h;subst h;exact a) | (cases h;done)
theorem alC:∀{c:List (Lf D)} {a:List Pv} {b:List Value},pvs c=some a->aW S M w g c b->b=a.map Pv.val/\∀p∈a,p.fits
 | [],a,[],h,_=>by simp[pvs]at h;grind
 | x::c,a,v::b,h,d=>by
  unfold pvs at h;split at h
  ·rename_i p i e f;injection h with h
   subst h;obtain⟨l,k⟩:=aif e d.1;obtain⟨j,m⟩:=alC f d.2
   grind
  ·cases h
theorem OQ {t:TypeId}{a:Ty}(h:TyOk P t a)(e:a.kind≠0):P.concrete t=true:=by
 obtain⟨d,c,b⟩:=mV h;unfold Program.concrete;rw[c];cases d<;>first | rfl | (exfalso;apply e;rw[<-b];rfl)
end
end Go.Vc
namespace Go.Vc
open Go.RowKit
section
variable {D:Type}
def Jk (S:Sh D)(d:D)(a:Nat):Nat->Nat->List (Lf D)
 | _,0=>[]
 | i,n+1=>BP S d i 0 a++Jk S d a (i+1) n
def MR (T:TypeId->Option Ty)(t:TypeId):Option (TypeId×Nat×Nat):=
 match T t with
 | none=>none
 | some a=>(match a.arr with
  | none=>none
  | some (e,n)=>(match T e with
   | none=>none
   | some b=>if Nat.blt 0 b.size && Nat.beq a.size (n*b.size) && a.agg then some (e,n,b.size)else none))
def WO (T:TypeId->Option Ty)(t:TypeId):Option (TypeId×Nat×Nat):=
 match T t with
 | none=>none
 | some a=>if a.lit then none else MR T t
def abx (T:TypeId->Option Ty)(S:Sh D)(a:Nat)(t:TypeId):Option (Out D):=
 match WO T t with
 | none=>none
 | some (e,n,b)=>(match T t with
  | none=>none
  | some c=>(match S.make e n (c.zero.map fun v=>(Jr v).norm)with
   | none=>none
   | some d=>if Nat.beq (S.size d) b && Nat.ble n 1000000 then some ⟨none, .one (.lf (.opt a 0 0 b)),[(a,some (.row t d))]⟩else none))
def ajF (T:TypeId->Option Ty)(S:Sh D)(b:Nat->Option (Bk D))(t:TypeId)(x:Sl D):Option (Out D):=
 match WO T t with
 | none=>none
 | some (e,n,a)=>(match x with
  | .one (.lf (.opt l i j s))=>if Nat.beq i 0 && (Nat.beq j 0 && Nat.beq s a)then(match b l with
   | some (.row _ d)=>if Nat.beq a (S.size d)then some ⟨some (dp (S.len d=n)), .one (.agg (Jk S d a 0 n)),[]⟩else none
   | _=>none)else none
  | .one (.lf (.glb k))=>(match S.MB k with
   | some d=>if Nat.beq a (S.size d)then some ⟨some (dp (S.len d=n)), .one (.agg (Jk S d a 0 n)),[]⟩else none
   | none=>none)
  | _=>none)
def aa5 (T:TypeId->Option Ty)(S:Sh D)(t:TypeId)(x i:Sl D):Option (Out D):=
 match WO T t with
 | none=>none
 | some (e,n,a)=>(match x,i with
  | .one (.lf (.opt l b j s)), .one (.lf (.int _ m))=>if Nat.beq b 0 && (Nat.beq j 0 && Nat.beq s a)then lF (some (dp (0<=m/\m < n))) (.opt l m.toNat 0 a)else none
  | .one (.lf (.glb k)), .one (.lf (.int _ m))=>(match S.MB k with
   | some d=>if Nat.beq a (S.size d)then lF (some (dp (0<=m/\m < n/\m < S.len d))) (.elt d m.toNat 0)else none
   | none=>none)
  | _,_=>none)
def acp (T:TypeId->Option Ty)(S:Sh D)(c:Nat->Option (Bk D))(t:TypeId)(x y:Sl D):Option (Out D):=
 match WO T t with
 | none=>none
 | some (e,n,a)=>(match x,y with
  | .one (.lf (.opt l i j s)), .one (.agg cs)=>if Nat.beq i 0 && (Nat.beq j 0 && Nat.beq s a) && cs.all Lf.storable then(match c l with
   | some (.row f d)=>(match S.make e n (cs.map Lf.norm)with
    | some b=>if Nat.beq a (S.size d) && Nat.beq a (S.size b)then some ⟨some (dp (S.len d=n)), .one (.lf .any),[(l,some (.row f b))]⟩else none
    | none=>none)
   | _=>none)else none
  | _,_=>none)
def Zy (cs:List (Lf D))(a j:Nat):Nat->Nat->List (Lf D)
 | _,0=>[]
 | r,n+1=>(match cs[r*a+j]? with
  | some x=>x
  | none=> .any)::Zy cs a j (r+1) n
def intsOf (k:IntKind):List (Lf D)->Option (List Int)
 | []=>some []
 | .int a n::r=>if kEq k a then(match intsOf k r with
  | some l=>some (n::l)
  | none=>none)else none
 | _=>none
def strsOf:List (Lf D)->Option (List (List UInt8))
 | []=>some []
 | .str s::r=>(match strsOf r with
  | some l=>some (s::l)
  | none=>none)
 | _=>none
def J6:List (Lf D)->Option (List Bool)
 | []=>some []
 | .bool b::r=>(match J6 r with
  | some l=>some (b::l)
  | none=>none)
 | _=>none
def ahR (cs:List (Lf D))(i:Nat):Option (Lf D):=
 match cs with
 | .int k n::r=>(match intsOf k (.int k n::r)with
  | some l=>some (.int k (l.getD i 0))
  | none=>none)
 | .str s::r=>(match strsOf (.str s::r)with
  | some l=>some (.str (l.getD i []))
  | none=>none)
 | .bool b::r=>(match J6 (.bool b::r)with
  | some l=>some (.bool (l.getD i false))
  | none=>none)
 | _=>none
def pickRow (cs:List (Lf D))(a n i:Nat):Nat->Nat->Option (List (Lf D))
 | _,0=>some []
 | j,m+1=>(match ahR (Zy cs a j 0 n) i,pickRow cs a n i (j+1) m with
  | some x,some b=>some (x::b)
  | _,_=>none)
def abr (T:TypeId->Option Ty)(t:TypeId)(x i:Sl D):Option (Out D):=
 match MR T t with
 | none=>none
 | some (e,n,a)=>(match T e with
  | none=>none
  | some c=>(match x,i with
   | .one (.agg cs), .one (.lf (.int _ m))=>if Nat.beq cs.length (n*a) && Nat.beq c.size a then(match pickRow (cs.map Lf.norm) a n m.toNat 0 a with
    | some b=>if c.agg then some ⟨some (dp (0<=m/\m < n)), .one (.agg b),[]⟩else(match b with
     | [l]=>some ⟨some (dp (0<=m/\m < n)), .one (.lf l),[]⟩
     | _=>none)
    | none=>none)else none
   | _,_=>none))
def acF (T:TypeId->Option Ty)(a:Nat->Sl D)(t:TypeId)(parts:Array (Nat×Operand)):Option (Out D):=
 match MR T t with
 | none=>none
 | some (e,n,b)=>(match T t with
  | none=>none
  | some c=>(match La b a parts.toList (c.zero.map Jr)with
   | some cs=>some ⟨none, .one (.agg cs),[]⟩
   | none=>none))
def aBq (T:TypeId->Option Ty)(S:Sh D)(a:Nat->Sl D)(b:Nat->Option (Bk D))(c:Nat)(d:Op):Option (Out D):=
 match d with
 | .alloc t=>abx T S c t
 | .load t x=>ajF T S b t (aP a x)
 | .store t x y=>acp T S b t (aP a x) (aP a y)
 | .indexAddr t x i=>aa5 T S t (aP a x) (aP a i)
 | .index t x i=>abr T t (aP a x) (aP a i)
 | .build t parts=>acF T a t parts
 | _=>none
def aDw (T:TypeId->Option Ty)(S:Sh D)(f:FuncId->Option (Ct D))(a:Nat->Sl D)(b:Nat->Option (Bk D))(c:Nat)(e:Op):Option (Out D):=
 match aBq T S a b c e with
 | some d=>some d
 | none=>aEH T S f a b c e
end
section
variable {D:Type}{P:Program}{S:Sh D}{T:TypeId->Option Ty}{Γ:FuncId->Option (Ct D)}{M M' N:Nat->Prop}{w w':World}{w0:Bs}{g g':Nat->Option Value}{blk blk':Nat->Option (Bk D)}{al:Nat->Prop}
 {a:Act} {o:Oper} {K:Act->World->Prop} {Q:Exit->Act->World->Prop} {slot gz:Nat->Sl D} {out:Out D} {fr:Nat}
theorem yB (d:∀t a,T t=some a->TyOk P t a){t e:TypeId}{n f:Nat}(h:MR T t=some (e,n,f)):∃a c,T t=some a/\T e=some c/\c.size=f/\0 < f/\a.size=n*f/\a.agg=true/\P.underlying t=some (.array n e)/\TyOk P t a/\TyOk P e c:=by
 unfold MR at h;split at h
 ·cases h
 ·rename_i a b;split at h
  ·cases h
  ·rename_i p o i;split at h
   ·cases h
   ·rename_i c g;split at h
    ·rename_i j;simp only[iZ]at j;injection h with h
     injection h with k h
     injection h with l m
     subst k l m;exact⟨a,c,b,g,rfl,by simp_all,Qa j.1.2,j.2,aEI (d _ _ b) i,d _ _ b,d _ _ g⟩
    ·cases h
theorem xU (d:∀t a,T t=some a->TyOk P t a){t e:TypeId}{n b:Nat}(h:WO T t=some (e,n,b)):∃a c,T t=some a/\T e=some c/\c.size=b/\0 < b/\a.size=n*b/\a.agg=true/\P.underlying t=some (.array n e)/\TyOk P t a/\TyOk P e c:=by
 unfold WO at h;split at h
 ·cases h
 ·split at h
  ·cases h
  ·exact yB d h
theorem yM {d:D}{ad:Addr}{sz:Nat}:∀(n i:Nat),(∀r,r < n->∃a:List Value,a.length=sz/\aW S M w g (BP S d (i+r) 0 sz) a/\∀k u,a[k]? =some u->w.cell? (ad.add ((i+r)*sz+k))=some u)->
  ∃a:List Value,a.length=n*sz/\aW S M w g (Jk S d sz i n) a/\∀k u,a[k]? =some u->w.cell? (ad.add (i*sz+k))=some u
 | 0,i,_=>⟨[],by simp,trivial,fun k u b=>by simp at b⟩
 | n+1,i,h=>by
  obtain⟨e,l1,f,m⟩:=h 0 aj;obtain⟨j,o,c,l⟩:=yM n (i+1) (fun r p=>by have:=h (r+1) aj;rwa [show i+(r+1)=i+1+r by omega]at this);refine⟨e++j,by grind,f.append c,fun k u b=> ?_⟩
  grind
theorem aFK {i j s a:Nat}(h:(Nat.beq i 0 && (Nat.beq j 0 && Nat.beq s a))=true):i=0/\j=0/\s=a:=by
 simp_all
theorem adQ {t:TypeId}{x:Operand}(X:o.op= .load t x)(L:∀t F,T t=some F->TyOk P t F)(h:Hp S w0 N blk g al w)(q:(aP slot x).Rel S (aS N blk g) w g (a.eval x))
  (c:ajF T S blk t (aP slot x)=some out) (A:lG out.pre) (hK:Post S w0 N blk g al w fr out o.dst a K):o.wp P a w K Q:=by
 unfold ajF at c;split at c
 ·cases c
 ·rename_i e n sz H;obtain⟨F,te,hty,hte,hsz,h0,V,R,yh,C,IV⟩:=xU L H;have I:=wZ C w;have QJ:=kJ C w;have fin:∀(ad:Addr) (f:List Value) (G:List (Lf D)),a.eval x= .pointer (some ad)->f.length=n*sz->aW S (aS N blk g) w g G f->(∀k u,f[k]? =some u->w.cell? (ad.add (0*sz+k))=some u)->out=⟨out.pre, .one (.agg G),[]⟩->o.wp P a w K Q:=by
   intro ad f G U E y B J;have m:=run_loadCells (P:=P) (w:=w) ad f 0 #[] (fun k u hk=>by grind);rw[E,<-V]at m;refine aY (v:= .agg f.toArray) ?_ h hK (by rw[J]) (by rw[J];exact⟨_,rfl,y⟩);simp[execOp,X,Instr.loadAt,Instr.sureAddr,U,loadVar,I,R,QJ,loadCells,m]
  split at c
  ·rename_i l i j s p;rw[p]at q;obtain⟨b,n',cap,hg,U⟩:=q;split at c
   ·rename_i B;obtain⟨rfl,rfl,rfl⟩:=aFK B;split at c
    ·rename_i e' d hb;split at c
     ·rename_i z;have z:=Qa z;injection c with c
      subst c;have A:S.len d=n:=A;obtain⟨f,E,y,B⟩:=yM (S:=S) (M:=aS N blk g) (w:=w) (g:=g) (d:=d) (ad:=⟨b,0,none⟩) (sz:=s) n 0 (fun r y=>by
       obtain⟨f,W,Z,h3⟩:=xJ h hb hg (i:=0+r) aj s 0 aj
       grind [lg])
      grind
     ·cases c
    ·cases c
   ·cases c
  ·rename_i k p;rw[p]at q;have q:a.eval x= .pointer (some ⟨k,0,none⟩):=q;split at c
   ·rename_i d Y;split at c
    ·rename_i z;have z:=Qa z;injection c with c
     subst c;have A:S.len d=n:=A;have O:=h.gl k d Y;obtain⟨f,E,y,B⟩:=yM (S:=S) (M:=aS N blk g) (w:=w) (g:=g) (d:=d) (ad:=⟨k,0,none⟩) (sz:=sz) n 0 (fun r y=>by
      obtain⟨f,W,Z,h3⟩:=yN (g:=g) O (i:=0+r) aj sz 0 aj
      grind)
     grind
    ·cases c
   ·cases c
  ·cases c
theorem ab6 {t:TypeId}{x r:Operand}(F:o.op= .indexAddr t x r)(E:∀t y,T t=some y->TyOk P t y)(h:Hp S w0 N blk g al w)(p:(aP slot x).Rel S (aS N blk g) w g (a.eval x))
  (f:(aP slot r).Rel S (aS N blk g) w g (a.eval r)) (c:aa5 T S t (aP slot x) (aP slot r)=some out) (G:lG out.pre) (I:Post S w0 N blk g al w fr out o.dst a K):o.wp P a w K Q:=by
 unfold aa5 at c;split at c
 ·cases c
 ·rename_i e n sz A;obtain⟨y,te,W,Z,u,h0,X5,Y,D,X,R⟩:=xU E A;have J:=kJ R w;split at c
  ·rename_i l i0 j s k m i q;rw[i]at p;rw[q]at f;simp only[Sl.Rel,Sv.Rel,Lf.Rel]at f;obtain⟨b,M,H,O,U⟩:=p;split at c
   ·rename_i V;obtain⟨rfl,rfl,rfl⟩:=aFK V;injection c with c
    subst c;obtain⟨C,z⟩:=G;refine aY (v:= .pointer (some ⟨b,m.toNat*s+0,none⟩)) ?_ h I rfl ⟨b,M,H,O,rfl⟩;simp[execOp,F,Instr.indexAt,Instr.sureAddr,f,asIntOf,run_underlying D,U,C,z,J,u,lg]
   ·cases c
  ·rename_i k ki m i q;rw[i]at p;rw[q]at f;simp only[Sl.Rel,Sv.Rel,Lf.Rel]at f p;split at c
   ·rename_i d L;split at c
    ·rename_i B;have B:=Qa B;injection c with c
     subst c;obtain⟨C,z,p3⟩:=G;refine aY (v:= .pointer (some (Addr.add ⟨k,0,none⟩ (m.toNat*S.size d+0)))) ?_ h I rfl ⟨_,_,_,h.gl k d L,by omega,rfl⟩;simp[execOp,F,Instr.indexAt,Instr.sureAddr,f,asIntOf,run_underlying D,p,C,z,J,u,B]
    ·cases c
   ·cases c
  ·cases c
theorem aaB {t:TypeId}(u:ShOk S)(V:o.op= .alloc t)(C:∀t p,T t=some p->TyOk P t p)(h:Hp S w0 N blk g al w)(J:∀n,fr<=n->n < fr+64->¬al n)
  (c:abx T S fr t=some out) (Z:Post S w0 N blk g al w fr out o.dst a K):o.wp P a w K Q:=by
 unfold abx at c;split at c
 ·cases c
 ·rename_i e n sz y;obtain⟨p,te,E,ac,aa,h0,X5,ab,yh,H,IV⟩:=xU C y;rw[E]at c;dsimp only at c;split at c
  ·cases c
  ·rename_i d D;split at c
   ·rename_i B;simp only[iZ]at B;have hs:=Qa B.1;have hn:=Qat B.2;injection c with c
    subst c;obtain⟨z,O,F⟩:=Fq H w;obtain⟨k,M,U⟩:=u.make _ _ _ _ D;rw[Qbx]at M;have f:z.cells.size=n*S.size d:=by grind
    have s:(execOp a.eval o).run P w= .ok (.value (.pointer (some ⟨w.heap.size,0,none⟩))) (w.alloc (.cells z.cells t)):=by
     simp[execOp,V,Instr.alloc,O,newVar,newRow,newObj,Sem.run]
    have W:Below w.heap.size w (w.alloc (.cells z.cells t)):=(Below.refl w.heap.size w).alloc (pJ _) _;obtain⟨Y,R,X⟩:=h.add (l:=fr) (bk:= .row t d) (v:= .slice (some ⟨w.heap.size,0,none⟩) n n) W (J fr (pJ _) aj) (fun b A=>by simp[dE]at A;omega)
     (fun M' hk _=>by
      refine⟨⟨fun b A=> .inl ?_,by rw[k];omega,u.Xy _ _ _ _ D⟩,z.cells.toList,⟨?_, .inr ⟨w.heap.size,n,z.cells,by rw[k],Gw _,heap_alloc_new w _,by omega,by simp only[maxLen];omega,f,?_⟩⟩,fun m j i x=> ?_⟩
      ·simp only[dE,XM]at A;have:=h.below.size;omega
      ·rw[Qd4,k,f]
      ·rw[Qb2];rw[Qd4,k,f];exact pJ _
      ·rw[k]at i;obtain⟨x0,r,L⟩:=U m j i x;have I:=D5 i x;have q:m*S.size d+j < z.cells.size:=by rw[f];exact I
       refine⟨z.cells[m*S.size d+j],by simp[q],u.data _ _ _ aj x,L.rel ?_⟩;have G:p.zero[m*S.size d+j]? =some z.cells[m*S.size d+j]:=by rw[<-F];simp[q]
       simp only[Qb1,G,Qbm,XM]at r;rw[<-r];exact(Ec _).norm)
    exact mW s (Z _ _ _ X R (Y.weaken XP) ⟨w.heap.size,n,n,upd_same _ _ _,by simp⟩)
   ·cases c
theorem acE {t:TypeId}{x y:Operand}(M:ShOk S)(ho:o.op= .store t x y)(O:∀t r,T t=some r->TyOk P t r)(h:Hp S w0 N blk g al w)(hx:(aP slot x).Rel S (aS N blk g) w g (a.eval x))(R:(aP slot y).Rel S (aS N blk g) w g (a.eval y))
  (c:acp T S blk t (aP slot x) (aP slot y)=some out) (I:lG out.pre) (hK:Post S w0 N blk g al w fr out o.dst a K):o.wp P a w K Q:=by
 unfold acp at c;split at c
 ·cases c
 ·rename_i e n sz B;obtain⟨r,te,hty,hte,hsz,h0,X5,hag,yh,ad,IV⟩:=xU O B;have QJ:=kJ ad w;split at c
  ·rename_i l i j s cs hex Gy;rw[hex]at hx;rw[Gy]at R;obtain⟨b,n',V,hg,hv⟩:=hx;split at c
   ·rename_i Y;simp only[iZ]at Y;obtain⟨⟨D,C,F⟩,c4⟩:=Y;have D:=Qa D;have C:=Qa C;have F:=Qa F;subst D C F;split at c
    ·rename_i J d hb;split at c
     ·rename_i d' hd;split at c
      ·rename_i E;simp only[iZ]at E;have hs:=Qa E.1;have hs':=Qa E.2;injection c with c
       subst c;have I:S.len d=n:=I;obtain⟨m1,m2,m3⟩:=M.make _ _ _ _ hd;rw[Qbx]at m2;obtain⟨m,ab,p⟩:=R;have hul:=p.length;obtain⟨v,k,hm,xs,⟨hxl,H⟩,hcell⟩:=h.bY l _ hb;rw[hg]at k;injection k with k
       subst k;rcases H with⟨q0,_⟩ | ⟨b',cap',f,aa,_,hh,hnc,U,hcs,htake⟩
       ·cases q0
       ·injection aa with q q2 q3
        injection q with q
        injection q with q
        subst q q2 q3;have ac:w.heap[b]? =some (.cells (f.toList).toArray J (0,0)):=by simpa using hh
        have hcap:S.len d*S.size d<=f.toList.length:=by grind
        have hlu:m.length=S.len d*S.size d:=by grind
        obtain⟨w',A,X,G,hsm,r1,r2,r3⟩:=nZ (P:=P) b J m w f.toList 0 0 ac aj (JM h.refs c4 p);have u:(execOp a.eval o).run P w= .ok .skip w':=by
         have L:m.length=r.size:=by grind
         simp[execOp,ho,Instr.storeAt,Instr.sureAddr,hv,storeVar,QJ,ab,Value.cells,L,A]
        obtain⟨hp',ag⟩:=h.write (bk':= .row J d') hb rfl rfl hg rfl r1 r2 r3 hsm G (fun hk=>by
         refine⟨⟨hm.1,by omega,by apply M.Xy;assumption⟩,m,⟨by grind, .inr ⟨b,V,(f.toList.take (0+0)++(m++f.toList.drop (0+0+m.length))).toArray,by rw[m1,<-I],Gw _,X,by omega,U,?_,?_⟩⟩,fun i' j' z W=> ?_⟩
         ·grind
         ·grind
         ·rw[m1]at z;obtain⟨x0,Z,hle⟩:=m3 i' j' z W;obtain⟨uv,huv,hrv⟩:=p.norm.get _ Z
          grind [Lf.Le.rel,Lf.Rel.keep,More.refl,ShOk.data])
        exact J_ u (hK _ _ _ (More.refl _) ag (hp'.weaken fun n G=> .inl G) trivial)
      ·cases c
     ·cases c
    ·cases c
   ·cases c
  ·cases c
theorem alX {cs:List (Lf D)}{a j:Nat}:∀(n r k:Nat),k < n->(Zy cs a j r n)[k]? =some (match cs[(r+k)*a+j]? with
  | some x=>x
  | none=> .any)
 | 0,r,k,h=>by omega
 | n+1,r,0,h=>by simp[Zy]
 | n+1,r,k+1,h=>by
  simp only[Zy,List.getElem?_cons_succ];rw[alX n (r+1) k aj,show r+1+k=r+(k+1) by omega]
theorem ad6 {k:IntKind}:∀{cs:List (Lf D)} {l:List Int},intsOf k cs=some l->∀(i:Nat) (x:Lf D),cs[i]? =some x->x= .int k (l.getD i 0)
 | [],l,h,i,x,hx=>by simp at hx
 | c::cs,l,h,i,x,hx=>by
  cases c with
  | int b n=>
   simp only[intsOf]at h;split at h
   ·rename_i a;have a:k=b:=by simpa[kEq]using a
    subst a;split at h
    ·rename_i e d;injection h with h
     subst h;cases i with
     | zero=>grind
     | succ i=>have:=ad6 d i x qby;grind
    ·cases h
   ·cases h
  | _=>simp[intsOf]at h
theorem strs_get:∀{cs:List (Lf D)} {l:List (List UInt8)},strsOf cs=some l->∀(i:Nat) (x:Lf D),cs[i]? =some x->x= .str (l.getD i [])
 | [],l,h,i,x,hx=>by simp at hx
 | c::cs,l,h,i,x,hx=>by
  cases c with
  | str s=>
   simp only[strsOf]at h;split at h
   ·rename_i b a;injection h with h
    subst h;cases i with
    | zero=>grind
    | succ i=>have:=strs_get a i x qby;grind
   ·cases h
  | _=>simp[strsOf]at h
theorem Y1:∀{cs:List (Lf D)} {l:List Bool},J6 cs=some l->∀(i:Nat) (x:Lf D),cs[i]? =some x->x= .bool (l.getD i false)
 | [],l,h,i,x,hx=>by simp at hx
 | c::cs,l,h,i,x,hx=>by
  cases c with
  | bool s=>
   simp only[J6]at h;split at h
   ·rename_i b a;injection h with h
    subst h;cases i with
    | zero=>grind
    | succ i=>have:=Y1 a i x qby;grind
   ·cases h
  | _=>simp[J6]at h
theorem arc {cs:List (Lf D)}{i:Nat}{p x:Lf D}(h:ahR cs i=some p)(a:cs[i]? =some x):x=p:=by
 unfold ahR at h
 grind [Y1,ad6,strs_get]
theorem PD {cs:List (Lf D)}{b:List Value}{a n i:Nat}(e:aW S M w g cs b)(q:cs.length=n*a)(k:i < n):∀(m j:Nat) (c:List (Lf D)),j+m=a->pickRow cs a n i j m=some c->aW S M w g c ((b.drop (i*a+j)).take m)
 | 0,j,c,y,h=>by simp[pickRow]at h;subst h;simp[aW]
 | m+1,j,c,y,h=>by
  unfold pickRow at h;split at h
  ·rename_i x v p s;injection h with h
   subst h;have z:=D5 k (show j < a by omega);have l:i*a+j < cs.length:=by omega
   have r:(Zy cs a j 0 n)[i]? =some cs[i*a+j]:=by
    grind [alX]
   have o:=arc p r;obtain⟨u,A,d⟩:=e.get (i*a+j) (Qas l);have f:i*a+j < b.length:=by grind
   have t:b.drop (i*a+j)=u::b.drop (i*a+(j+1)):=by
    rw[Qbq f]
    grind
   rw[t,Qck];exact⟨o▸d,PD e q k m (j+1) v aj s⟩
  ·cases h
theorem ab8 {t:TypeId}{x q:Operand}(I:o.op= .index t x q)(G:∀t C,T t=some C->TyOk P t C)(h:Hp S w0 N blk g al w)(M:(aP slot x).Rel S (aS N blk g) w g (a.eval x))
  (s:(aP slot q).Rel S (aS N blk g) w g (a.eval q)) (b:abr T t (aP slot x) (aP slot q)=some out) (L:lG out.pre) (Z:Post S w0 N blk g al w fr out o.dst a K):o.wp P a w K Q:=by
 unfold abr at b;split at b
 ·cases b
 ·rename_i e n c D;obtain⟨C,te,hty,R,y,h0,X5,hag,E,hok,U⟩:=yB G D;rw[R]at b;dsimp only at b;have z:=kJ U w;have B:=wZ U w;split at b
  ·rename_i cs k m F V;rw[F]at M;rw[V]at s;simp only[Sl.Rel,Sv.Rel,Lf.Rel]at s;obtain⟨d,W,hr⟩:=M;split at b
   ·rename_i Y;simp only[iZ]at Y;have hl:=Qa Y.1;split at b
    ·rename_i O X;have A:0<=m/\m < n->aW S (aS N blk g) w g O ((d.drop (m.toNat*c)).take c):=fun hm=>by
      have:=PD hr.norm dm (show m.toNat < n by omega) c 0 O aj X;omega
     split at b
     ·rename_i j;injection b with b
      subst b;obtain⟨p,f⟩:=L;have i:=A ⟨p,f⟩;refine aY (v:= .agg ((d.drop (m.toNat*c)).take c).toArray) ?_ h Z rfl ⟨_,rfl,i⟩;have he:d.toArray.extract (m.toNat*c) (m.toNat*c+c)=((d.drop (m.toNat*c)).take c).toArray:=by
       grind
      simp[execOp,I,Instr.index,s,asIntOf,run_underlying E,W,p,f,part,B,j,z,y,he]
     ·rename_i j;split at b
      ·rename_i l;injection b with b
       subst b;obtain⟨p,f⟩:=L;have i:=A ⟨p,f⟩;have J:=i.length;cases H:(d.drop (m.toNat*c)).take c with
       | nil=>grind
       | cons u r=>
        rw[H]at i J;have hu:d[m.toNat*c]? =some u:=by
         have:((d.drop (m.toNat*c)).take c)[0]? =some u:=by rw[H];rfl
         grind
        refine aY (v:=u) ?_ h Z rfl i.1;simp[execOp,I,Instr.index,s,asIntOf,run_underlying E,W,p,f,part,B,j,z,y,hu]
      ·cases b
    ·cases b
   ·cases b
  ·cases b
theorem aa6 {t:TypeId}{parts:Array (Nat×Operand)}(D:o.op= .build t parts)(l:∀t f,T t=some f->TyOk P t f)(h:Hp S w0 N blk g al w)
  (F:∀t,(slot t).Rel S (aS N blk g) w g (a.tmps.getD t undef)) (b:acF T slot t parts=some out) (G:Post S w0 N blk g al w fr out o.dst a K):o.wp P a w K Q:=by
 unfold acF at b;split at b
 ·cases b
 ·rename_i e n sz k;obtain⟨f,M,m,I,r,L,J,H,A,s,E⟩:=yB l k;rw[m]at b;dsimp only at b;split at b
  ·rename_i cs C;injection b with b
   subst b;obtain⟨z,B,q⟩:=Fq s w;have u:=kJ E w;obtain⟨d,c,y⟩:=UH (a:=a) (sz:=sz) h.refs F parts.toList _ cs z.cells (by rw[q];exact ug _) C;refine aY (v:= .agg d) ?_ h G rfl ⟨d.toList,by simp,y⟩;have j:parts.toList.map (fun p=>(p.1,a.eval p.2))=(parts.map fun(i,x)=>(i,a.eval x)).toList:=by simp
   rw[j]at c;simp at c;simp[execOp,D,Instr.build,B,run_underlying A,u,r,c]
  ·cases b
theorem apj (c:∀t r,T t=some r->TyOk P t r)(l:∀f q,Γ f=some q->CtOk P S f q)(m:ShOk S)(h:Hp S w0 N blk g al w)(j:∀n,fr<=n->n < fr+64->¬al n)
  (k:∀t,(slot t).Rel S (aS N blk g) w g (a.tmps.getD t undef)) (b:aDw T S Γ slot blk fr o.op=some out) (p:lG out.pre) (i:Post S w0 N blk g al w fr out o.dst a K):o.wp P a w K Q:=by
 unfold aDw at b;split at b
 ·rename_i s d;injection b with b
  subst b;have u:=mD k;unfold aBq at d;split at d
  ·rename_i t e;exact aaB m e c h j d i
  ·rename_i t x e;exact adQ e c h (u x) d p i
  ·grind [acE]
  ·grind [ab6]
  ·grind [ab8]
  ·rename_i t parts e;exact aa6 e c h k d i
  ·cases d
 ·exact ap9 c l m h j k b p i
end
end Go.Vc
namespace Go.Vc
open Go.RowKit
def Ak (s:List UInt8)(p:Nat):Int:=((Utf8.decode ⟨s.toArray⟩ p).1:Nat)
def BG (s:List UInt8)(p:Nat):Nat:=(Utf8.decode ⟨s.toArray⟩ p).2
section
variable {D:Type}
def ais (T:TypeId->Option Ty)(a:Nat)(t:TypeId)(x:Sl D):Option (Out D):=
 match T t with
 | none=>none
 | some b=>(match x with
  | .one (.lf (.str s))=>if Nat.beq b.kind 3 then some ⟨none, .one (.lf (.ptr a 0)),[(a,some (.iter s 0))]⟩else none
  | _=>none)
def aHm (T:TypeId->Option Ty)(S:Sh D)(d:FuncId->Option (Ct D))(a:Nat->Sl D)(c:Nat->Option (Bk D))(b:Nat)(op:Op):Option (Out D):=
 match op with
 | .range t x=>ais T b t (aP a x)
 | op=>aDw T S d a c b op
def auI (a:Nat->Sl D)(b:Nat->Option (Bk D))(c:Op):Option (Bool×Out D×Out D):=
 match c with
 | .next d true=>(match aP a d with
  | .one (.lf (.ptr l o))=>if Nat.beq o 0 then(match b l with
   | some (.iter s p)=>some (decide (p < s.length),⟨none, .Dh [.lf (.val (.bool true)), .lf (.int .i64 p), .lf (.int .i32 (Ak s p))],[(l,some (.iter s (p+BG s p)))]⟩,⟨none, .Dh [.lf (.val (.bool false))],[]⟩)
   | _=>none)else none
  | _=>none)
 | _=>none
end
section
variable {D:Type}{P:Program}{S:Sh D}{T:TypeId->Option Ty}{Γ:FuncId->Option (Ct D)}{M M' N:Nat->Prop}{w w':World}{w0:Bs}{g g':Nat->Option Value}{blk blk':Nat->Option (Bk D)}{al:Nat->Prop}
 {a:Act} {o:Oper} {K:Act->World->Prop} {Q:Exit->Act->World->Prop} {slot gz:Nat->Sl D} {out:Out D} {fr:Nat}
theorem afH {t:TypeId}{x:Operand}(z:o.op= .range t x)(m:∀t j,T t=some j->TyOk P t j)(h:Hp S w0 N blk g al w)(r:∀n,fr<=n->n < fr+64->¬al n)(e:(aP slot x).Rel S (aS N blk g) w g (a.eval x))
  (c:ais T fr t (aP slot x)=some out) (E:Post S w0 N blk g al w fr out o.dst a K):o.wp P a w K Q:=by
 unfold ais at c;split at c
 ·cases c
 ·rename_i j q;split at c
  ·rename_i s k;rw[k]at e;simp only[Sl.Rel,Sv.Rel,Lf.Rel]at e;split at c
   ·rename_i f;have f:=Qa f;obtain⟨d,p,u⟩:=mV (m _ _ q);rw[f]at u;have p:P.underlying t=some .string:=by cases d<;>simp_all [kindOf]
    injection c with c
    subst c;have i:(execOp a.eval o).run P w= .ok (.value (.pointer (some ⟨w.heap.size,0,none⟩))) (w.alloc (.stringIter ⟨s.toArray⟩ 0)):=by
     simp[execOp,z,Instr.range,e.1,run_underlying p,newObj,Sem.run]
    have A:Below w.heap.size w (w.alloc (.stringIter ⟨s.toArray⟩ 0)):=(Below.refl w.heap.size w).alloc (pJ _) _;obtain⟨C,y,B⟩:=h.add (l:=fr) (bk:= .iter s 0) (v:= .pointer (some ⟨w.heap.size,0,none⟩)) A (r fr (pJ _) aj) (fun b D=>by simp[dE]at D;omega)
     (fun M' f _=>⟨e.2,w.heap.size,rfl, .inl h.below.size,heap_alloc_new w _⟩)
    exact mW i (E _ _ _ B y (C.weaken XP) ⟨w.heap.size,upd_same _ _ _,rfl⟩)
   ·cases c
  ·cases c
theorem run_next_at {s:ByteArray}{p b:Nat}{ty:TypeId}(a:w.heap[b]? =some (.stringIter s p))(h:p < s.size):(Instr.next (.pointer (some ⟨b,0,none⟩)) true ty).run P w=
  .ok (.tuple #[.bool true, .int .i64 p, .int .i32 ((Utf8.decode s p).1:Nat)]) {w with heap:=w.heap.setIfInBounds b (.stringIter s (p+(Utf8.decode s p).2))}:=by
 simp only[Instr.next,getObj,setObj,Sem.run_bind,Sem.run,a,Result.andThen,h,if_true];simp[goInt]
theorem agj {s:ByteArray}{p b:Nat}{ty:TypeId}(a:w.heap[b]? =some (.stringIter s p))(h:¬p < s.size):(Instr.next (.pointer (some ⟨b,0,none⟩)) true ty).run P w= .ok (.tuple #[.bool false]) w:=by
 simp[Instr.next,getObj,Sem.run,a,h]
theorem aiJ {b:Bool}{y q:Out D}(h:Hp S w0 N blk g al w)(M:∀t,(slot t).Rel S (aS N blk g) w g (a.tmps.getD t undef))
  (d:auI slot blk o.op=some (b,y,q)) (k:Post S w0 N blk g al w fr (bif b then y else q) o.dst a K):o.wp P a w K Q:=by
 have J:=mD M;unfold auI at d;split at d
 ·rename_i L x;have j:=J L;split at d
  ·rename_i l R r;rw[r]at j;split at d
   ·rename_i f;have f:=Qa f;subst f;obtain⟨u,C,j⟩:=j;split at d
    ·rename_i s p F;injection d with d
     injection d with X d
     injection d with I H
     obtain⟨v,c,z,W,rfl,O,m⟩:=h.bY l _ F;rw[C]at c;injection c with c
     injection c with c
     injection c with c
     injection c with c
     subst c;have T:(ByteArray.mk s.toArray).size=s.length:=by rfl
     by_cases U:p < s.length
     ·have i:b=true:=by grind
      subst i;rw[cond_true]at k;subst I;have e:=run_next_at (P:=P) (ty:=o.type) m aj;have A:=RJ m;obtain⟨G,B⟩:=h.write (w':={w with heap:=w.heap.setIfInBounds u (.stringIter ⟨s.toArray⟩ (p+BG s p))}) (bk':= .iter s (p+BG s p)) F rfl rfl C rfl rfl rfl rfl jQ
       (fun n E=>by
        grind) (fun V=>⟨z,u,rfl,O,by simp[A]⟩)
      refine mW (v:= .tuple #[.bool true, .int .i64 p, .int .i32 (Ak s p)]) ?_ (k _ _ _ (More.refl _) B (G.weaken fun n E=> .inl E) ⟨[.bool true, .int .i64 p, .int .i32 (Ak s p)],rfl,rfl,rfl,rfl,trivial⟩);simp only[execOp,x,j,Sem.run_bind,e,Result.andThen_ok,Sem.run_pure];rfl
     ·have i:b=false:=by grind
      subst i;rw[lL]at k;subst H;have e:=agj (P:=P) (ty:=o.type) m aj;refine aY (v:= .tuple #[.bool false]) ?_ h k rfl ⟨[.bool false],rfl,rfl,trivial⟩;simp only[execOp,x,j,Sem.run_bind,e,Result.andThen_ok,Sem.run_pure]
    ·cases d
   ·cases d
  ·cases d
 ·cases d
end
end Go.Vc
