/- Own engine: Vdh, Vdt, Vdu, Vdv, Vdw. -/
import Derived.Test.YtgdmjfkdbfafjaaGreatDoorEng3
import Derived.Laws.RangeString
set_option linter.unusedVariables false
set_option linter.unusedSimpArgs false
namespace Go.Vc
open Go.RowKit
section
variable {D:Type}{P:Program}{S:Sh D}{T:TypeId->Option Ty}{Γ:FuncId->Option (Ct D)}{M M' N:Nat->Prop}{w w':World}{w0:Bs}{g g':Nat->Option Value}{blk blk':Nat->Option (Bk D)}{al:Nat->Prop}
 {a:Act} {o:Oper} {K:Act->World->Prop} {Q:Exit->Act->World->Prop} {slot:Nat->Sl D} {out:Out D} {fr:Nat} {ids jU:List Nat}
structure ar7 (N:Nat->Prop)(blk:Nat->Option (Bk D))(g:Nat->Option Value)(jU:List Nat)(M':Nat->Prop):Prop where
 sub:∀b,M' b->bi N blk g b
 off:∀l∈jU,∀v b,hot (blk l)=true->g l=some v->fJ v=some b->¬M' b
theorem Lf.Rel.view (B:jE S){x:Lf D}{v:Value}(h:Hp S w0 N blk g al w)(m:ar7 N blk g jU M')(A:∀l∈x.owns,l∈jU)(k:x.Rel S (bi N blk g) w g v):(x.view blk).Rel S M' w g v:=by
 cases x with
 | own l=>
  have k:g l=some v:=k;simp only[Lf.view];split
  ·rename_i e d hb;exact MX h hb k m.sub (fun b q=>m.off l (A l (by simp[Lf.owns])) v b qck k q)
  ·rename_i d hb;exact ajd B h qck k m.sub (fun b q=>m.off l (A l (by simp[Lf.owns])) v b qck k q)
  ·rename_i d hb;obtain⟨J,c,s⟩:=h.dW l _ hb;rw[k]at c;injection c with c
   subst c;exact dN.mono s m.sub
  ·exact k
 | part l i j E f=>
  obtain⟨z,n,p,u,rfl,t,C,rfl⟩:=k;have y:∀d r,dN S M' w d (.slice z n p)->aa_ S E i j d=some r->dN S M' w r (sliced z i j p E):=by
   intro d r G o;unfold aa_ at o;split at o
   ·rename_i F;have F:=Qa F;obtain⟨K,I,H,_⟩:=dN.slice' G (B.Jc _ _ _ _ o).1;injection H with _ H _
    have:=Gt B G o t au
    grind
   ·cases o
  simp only[Lf.view];split
  ·rename_i e d hb;split
   ·rename_i r o;exact y d r (MX h hb u m.sub (fun b q=>m.off l (A l (by simp[Lf.owns])) _ b qck u q)) o
   ·trivial
  ·rename_i d hb;split
   ·rename_i r o;obtain⟨J,c,s⟩:=h.dW l _ hb;rw[u]at c;injection c with c
    subst c;exact y d r (dN.mono s m.sub) o
   ·trivial
  ·exact⟨z,n,p,u,rfl,t,C,rfl⟩
 | dat d=>exact dN.mono k m.sub
 | elt d i j=>obtain⟨a,n,p,t,C⟩:=k;exact⟨a,n,p,t.mono m.sub,C⟩
 | xt e=>exact Xt.Rel.mono k m.sub
 | _=>exact k
theorem bu.view (d:jE S)(h:Hp S w0 N blk g al w)(f:ar7 N blk g jU M'):∀{a:List (Lf D)} {b:List Value},(∀l∈a.flatMap Lf.owns,l∈jU)->bu S (bi N blk g) w g a b->bu S M' w g (a.map (Lf.view blk)) b
 | [],[],_,_=>trivial
 | x::a,v::b,c,e=>⟨e.1.view d h f (fun l hl=>c l qcp),bu.view d h f (fun l hl=>c l rf) e.2⟩
theorem Sv.Rel.view (b:jE S){x:Sv D}{v:Value}(h:Hp S w0 N blk g al w)(d:ar7 N blk g jU M')(a:∀l∈x.owns,l∈jU)(c:x.Rel S (bi N blk g) w g v):(x.view blk).Rel S M' w g v:=by
 cases x with
 | lf x=>exact Lf.Rel.view b h d a c
 | agg j=>obtain⟨f,e,i⟩:=c;exact⟨f,e,i.view b h d a⟩
theorem jh.view (d:jE S)(h:Hp S w0 N blk g al w)(f:ar7 N blk g jU M'):∀{a:List (Sv D)} {b:List Value},(∀l∈a.flatMap Sv.owns,l∈jU)->jh S (bi N blk g) w g a b->jh S M' w g (a.map (Sv.view blk)) b
 | [],[],_,_=>trivial
 | x::a,v::b,c,e=>⟨e.1.view d h f (fun l hl=>c l qcp),jh.view d h f (fun l hl=>c l rf) e.2⟩
theorem Sl.Rel.view (b:jE S){x:Sl D}{v:Value}(h:Hp S w0 N blk g al w)(d:ar7 N blk g jU M')(a:∀l∈x.owns,l∈jU)(c:x.Rel S (bi N blk g) w g v):(x.view blk).Rel S M' w g v:=by
 cases x with
 | one x=>exact Sv.Rel.view b h d a c
 | x8 j=>obtain⟨f,e,i⟩:=c;exact⟨f,e,i.view b h d a⟩
theorem iY.view (d:jE S)(h:Hp S w0 N blk g al w)(f:ar7 N blk g jU M'):∀{a:List (Sl D)} {b:List Value},(∀l∈a.flatMap Sl.owns,l∈jU)->iY S (bi N blk g) w g a b->iY S M' w g (a.map (Sl.view blk)) b
 | [],[],_,_=>trivial
 | x::a,v::b,c,e=>⟨e.1.view d h f (fun l hl=>c l qcp),iY.view d h f (fun l hl=>c l rf) e.2⟩
theorem iY.less (d:∀b,M' b->M b):∀{a:List (Sl D)} {c:List Value},iY S M w g a c->iY S M' w g a c
 | [],[],_=>trivial
 | x::a,v::c,j=>by
  refine⟨?_,iY.less d j.2⟩;have:=j.1.ren (g':=g) (M':=M') (f:=fun l=>l) (fun _ _ _ k=>k) (fun _=>d);have e:x.ren (fun l=>l)=x:=by
   have h:∀y:Lf D,y.ren (fun l=>l)=y:=fun y=>by cases y<;>simp[Lf.ren]
   have i:∀y:Sv D,y.ren (fun l=>l)=y:=fun y=>by cases y with
    | lf y=>simp[Sv.ren,h]
    | agg m=>simp only[Sv.ren];congr 1;exact(Qbb fun y _=>h y).trans (List.map_id _)
   cases x with
   | one y=>simp[Sl.ren,i]
   | x8 m=>simp only[Sl.ren];congr 1;exact(Qbb fun y _=>i y).trans (List.map_id _)
  rwa [e]at this
theorem iY.app:∀{b a:List (Sl D)} {c d:List Value},iY S M w g b c->iY S M w g a d->iY S M w g (b++a) (c++d)
 | [],_,[],_,_,h=>h
 | _::_,_,_::_,_,h,e=>⟨h.1,iY.app h.2 e⟩
theorem fU:∀(r ids:List Nat) (l:Nat),l∈nM ids r ↔ l∈ids\/l∈r
 | [],ids,l=>by simp[nM]
 | x::r,ids,l=>by
  unfold nM;rw[fU r];split
  ·rename_i a;have:=iL.1 a
   grind
  grind
theorem amg {x:Lf D}{l:Nat}(a:l∈x.owns):((∃d,rwD (blk l)=some d)\/hot (blk l)=false\/l∈(x.view blk).refs):=by
 cases x with
 | own b=>
  simp[Lf.owns]at a;subst a;simp only[Lf.view];split
  ·rename_i e d hb;exact .inl ⟨d,by rw[hb];rfl⟩
  ·rename_i d hb;exact .inl ⟨d,by rw[hb];rfl⟩
  ·rename_i d hb;exact .inr (.inl qck)
  ·exact .inr (.inr qb7)
 | part b i j c f=>
  simp[Lf.owns]at a;subst a;simp only[Lf.view];split
  ·rename_i e d hb;exact .inl ⟨d,by rw[hb];rfl⟩
  ·rename_i d hb;exact .inr (.inl qck)
  ·exact .inr (.inr qb7)
 | _=>simp[Lf.owns]at a
theorem aoS {x:Sv D}{l:Nat}(a:l∈x.owns):((∃d,rwD (blk l)=some d)\/hot (blk l)=false\/l∈(x.view blk).refs):=by
 cases x with
 | lf x=>exact amg a
 | agg c=>
  obtain⟨y,b,a⟩:=zA.1 a;rcases amg (blk:=blk) a with h | h | h
  ·exact .inl h
  ·grind
  ·exact .inr (.inr (zA.2 ⟨_,MN.2 ⟨y,b,rfl⟩,h⟩))
theorem amo {x:Sl D}{l:Nat}(a:l∈x.owns):((∃d,rwD (blk l)=some d)\/hot (blk l)=false\/l∈(x.view blk).refs):=by
 cases x with
 | one x=>exact aoS a
 | x8 c=>
  obtain⟨y,b,a⟩:=zA.1 a;rcases aoS (blk:=blk) a with h | h | h
  ·exact .inl h
  ·grind
  ·exact .inr (.inr (zA.2 ⟨_,MN.2 ⟨y,b,rfl⟩,h⟩))
theorem as3 {x:Lf D}{v:Value}{l:Nat}(b:x.Rel S M w g v)(a:l∈x.owns):∃u,g l=some u:=by
 cases x with
 | own c=>simp[Lf.owns]at a;subst a;exact⟨v,b⟩
 | part c i j e f=>simp[Lf.owns]at a;subst a;obtain⟨h,n,d,k,_⟩:=b;grind
 | _=>simp[Lf.owns]at a
theorem an1 {l:Nat}:∀{b:List (Lf D)} {c:List Value},bu S M w g b c->l∈b.flatMap Lf.owns->∃u,g l=some u
 | [],[],_,a=>by simp at a
 | x::b,v::c,d,a=>by
  rw[Qcf,yH]at a;exact a.elim (as3 d.1) (an1 d.2)
theorem ayd {x:Sv D}{v:Value}{l:Nat}(b:x.Rel S M w g v)(a:l∈x.owns):∃u,g l=some u:=by
 cases x with
 | lf x=>exact as3 b a
 | agg d=>obtain⟨e,_,c⟩:=b;exact an1 c a
theorem amF {l:Nat}:∀{b:List (Sv D)} {c:List Value},jh S M w g b c->l∈b.flatMap Sv.owns->∃u,g l=some u
 | [],[],_,a=>by simp at a
 | x::b,v::c,d,a=>by
  rw[Qcf,yH]at a;exact a.elim (ayd d.1) (amF d.2)
theorem aHt {x:Sl D}{v:Value}{l:Nat}(b:x.Rel S M w g v)(a:l∈x.owns):∃u,g l=some u:=by
 cases x with
 | one x=>exact ayd b a
 | x8 d=>obtain⟨e,_,c⟩:=b;exact amF c a
theorem aef {l:Nat}:∀{b:List (Sl D)} {c:List Value},iY S M w g b c->l∈b.flatMap Sl.owns->∃u,g l=some u
 | [],[],_,a=>by simp at a
 | x::b,v::c,d,a=>by
  rw[Qcf,yH]at a;exact a.elim (aHt d.1) (aef d.2)
theorem abB:∀{a:List Nat} {d:List Value},a.map g=d.map some->(∀l∈a,∃b,g l=some (.pointer (some ⟨b,0,none⟩)))->iY S M w g (a.map fun l=> .one (.lf (.ptr l 0))) d
 | [],[],_,_=>trivial
 | c::a,v::d,h,e=>by
  simp only[Kq,Qc5]at h;obtain⟨b,f⟩:=e c qb;refine⟨⟨b,f,?_⟩,abB h.2 fun l hl=>e l qcp⟩
  grind
 | [],_::_,h,_=>by simp at h
 | _::_,[],h,_=>by simp at h
theorem ajj (T:jE S){c:Call}{f:FuncId}{j:List Nat}{M:Operand}(ho:o.op= .call c)(hc:c.callee= .value M)(hf:aN slot M= .one (.lf (.fn f j)))(hΓ:∀f u,Γ f=some u->gZ P S f u)(h:Hp S w0 N blk g al w)(I:∀n,fr<=n->n < fr+64->¬al n)
  (Z:∀t,(slot t).Rel S (bi N blk g) w g (a.tmps.getD t undef)) (i:Lr Γ f blk (c.args.toList.map (aN slot)++j.map fun l=> .one (.lf (.ptr l 0))) fr=some out) (hp:nJ out.pre) (aMD:j.all (fun l=>isCells (blk l))=true) (hK:Post S w0 N blk g al w fr out o.dst a K):o.wp P a w K Q:=by
 have J:=qh Z M;rw[hf]at J;obtain⟨r,Y,hcg⟩:=J;have aNN:∀l∈j,∃b,g l=some (.pointer (some ⟨b,0,none⟩)):=by
  intro l m;have:=Qa2.1 aMD l m;cases k:blk l with
  | none=>rw[k]at this;simp[isCells]at this
  | some bk=>
   cases bk with
   | cells cs=>obtain⟨v,hv,b,vs,t,rfl,_⟩:=h.dW l _ k;grind
   | row e d=>rw[k]at this;simp[isCells]at this
   | xZ d=>rw[k]at this;simp[isCells]at this
   | iter s p=>rw[k]at this;simp[isCells]at this
   | map kvs=>rw[k]at this;simp[isCells]at this
   | tc t cs=>rw[k]at this;simp[isCells]at this
 have F:iY S (bi N blk g) w g (c.args.toList.map (aN slot)++j.map fun l=> .one (.lf (.ptr l 0))) (c.args.toList.map a.eval++r):=(OW Z c.args.toList).app (abB hcg aNN);unfold Lr at i;split at i
 ·cases i
 ·rename_i u hct;have z:=hΓ f u hct;have R:(execOp a.eval o).run P w= .ok (.enter f (c.args.toList.map a.eval++r).toArray) w:=by
   have hen:=z.enters (c.args.toList.map a.eval++r).toArray w;simp only[execOp,ho,resolve,hc,Deferred.ofValue,Y,Sem.run_bind,Sem.run_pure,Result.andThen_ok,invoke];have:(#[]++c.args.map a.eval:Array Value)++r.toArray=(c.args.toList.map a.eval++r).toArray:=by grind
   rw[this,hen]
  have H:(Calls P f (c.args.toList.map a.eval++r).toArray w fun e w'=>∃v g',e= .returned v/\More g g'/\Keeps (bi N blk g) w (bi N (mM blk out.blks) g') w'/\Hp S w0 N (mM blk out.blks) g' (fun n=>al n\/(fr<=n/\n < fr+64)) w'/\
    out.val.Rel S (bi N (mM blk out.blks) g') w' g' v)->o.wp P a w K Q:=by
   intro C;simp only[Oper.wp,R,Oper.upon_enter];refine C.mono ?_;rintro e w' ⟨v,g',rfl,B,h2,h3,h4⟩;exact hK v w' g' B h2 h3 h4
  dsimp only at i;have E:=F.norm;generalize (c.args.toList.map (aN slot)++j.map fun l=>(.one (.lf (.ptr l 0)):Sl D)).map Sl.norm=O at E i;cases B:DY u blk fr (O.map (Sl.view blk)) (nM [] (O.flatMap Sl.owns))with
  | some out'=>
   rw[B]at i;simp only[Dz,P7]at i;subst i;refine H (xy T z h I (fun ids dW G hv=> ?_) (fun l m=> ?_) (fun l m=> ?_) B hp)
   ·refine iY.view T (jU:=nM [] (O.flatMap Sl.owns)) h ⟨fun b k=>(wG G b k).1,fun l m v b U A y k=> ?_⟩ (fun l m=>(fU _ _ _).2 (.inr m)) E;rcases(wG G b k).2 with q | ⟨l',v',⟨q1,X,V,L⟩ | ⟨q1,X,V,L⟩⟩
    ·exact h.aiH U A y q
    ·have:=h.sep l l' v v' b U q1 A V y L
     grind
    ·have:=h.sep l l' v v' b U X A V y L
     grind
   ·exact aef E (((fU _ _ _).1 m).resolve_left qb)
   ·obtain⟨x,hx,W⟩:=zA.1 (((fU _ _ _).1 m).resolve_left qb);rcases amo (blk:=blk) W with q | q | q
    ·exact .inl q
    ·exact .inr (.inl q)
    ·exact .inr (.inr (zA.2 ⟨_,MN.2 ⟨x,hx,rfl⟩,q⟩))
  | none=>
   rw[B]at i;simp only[Dz]at i;exact H (xy (jU:=[]) T z h I (fun ids dW G hv=>E.less fun b k=>(wG G b k).1) (fun l m=>by simp at m) (fun l m=>by simp at m) i hp)
theorem af0 (s:∀t I,T t=some I->gW P t I)(W:∀f R,Γ f=some R->gZ P S f R)(H:jE S)(h:Hp S w0 N blk g al w)(D:∀n,fr<=n->n < fr+64->¬al n)
  (J:∀t,(slot t).Rel S (bi N blk g) w g (a.tmps.getD t undef)) (e:DL T S Γ slot blk fr o.op=some out) (B:nJ out.pre) (r:Post S w0 N blk g al w fr out o.dst a K):o.wp P a w K Q:=by
 have p:=qh J;cases k:o.op with
 | move x=>rw[k]at e;injection e with e;subst e;exact bz (v:=a.eval x) (by simp[execOp,k]) h r rfl (p x)
 | assign x=>rw[k]at e;injection e with e;subst e;exact bz (v:=a.eval x) (by simp[execOp,k]) h r rfl (p x)
 | pick c x y=>rw[k]at e;exact ajR k h (p c) (p x) (p y) e r
 | alloc t=>
  rw[k]at e;simp only[DL]at e;split at e
  ·rename_i I z;injection e with e
   subst e;exact agS k (s _ _ z) h D r
  ·cases e
 | box t x=>
  rw[k]at e;simp only[DL]at e;split at e
  ·rename_i u Y;split at e
   ·rename_i hw;injection e with e
    subst e;have A:=p x;rw[Y]at A;exact arP k h D A hw r
   ·cases e
  ·cases e
 | build t parts=>rw[k]at e;exact air k s h J e r
 | buildSlice t n parts=>rw[k]at e;exact sound_row H k s h J D e r
 | load t x=>
  rw[k]at e;simp only[DL]at e;cases z:T t with
  | none=>simp[F9,z]at e
  | some I=>exact akG k (s _ _ z) z h (p x) e B r
 | store t x y=>
  rw[k]at e;simp only[DL]at e;cases z:T t with
  | none=>simp[J3,z]at e
  | some I=>exact ahI k (s _ _ z) z h (p x) (p y) e H B r
 | nilCheck x=>
  rw[k]at e;simp only[DL]at e;have A:=p x;split at e
  ·rename_i l q F;rw[F]at A;injection e with e;subst e
   refine bz (v:=a.eval x) ?_ h r rfl A;obtain⟨b,_,G⟩:=A;simp[execOp,k,G]
  ·rename_i d i j F;rw[F]at A;injection e with e;subst e
   refine bz (v:=a.eval x) ?_ h r rfl A;obtain⟨ad,n,V,_,_,G⟩:=A;simp[execOp,k,G]
  ·rename_i l i j sz F;rw[F]at A;injection e with e;subst e
   refine bz (v:=a.eval x) ?_ h r rfl A;obtain⟨b,n,V,_,G⟩:=A;simp[execOp,k,G]
  ·rename_i f E F;rw[F]at A;injection e with e;subst e
   refine bz (v:=a.eval x) ?_ h r rfl A;obtain⟨vs,G,_⟩:=A;simp[execOp,k,G]
  ·cases e
 | binOp X t x y yt=>
  rw[k]at e;simp only[DL]at e;cases M:ano T S X t (aN slot x) (aN slot y)with
  | some Z=>
   rw[M]at e;injection e with e
   subst e;exact aks k s h (p x) (p y) M r
  | none=>
   rw[M]at e;exact ao9 k s h (p x) (p y) e B r
 | unOp X t x=>rw[k]at e;exact asy k h (p x) e B r
 | fieldAddr t x f=>
  rw[k]at e;simp only[DL]at e;cases z:T t with
  | none=>simp[ED,z]at e
  | some I=>exact ah3 k (s _ _ z) z h (p x) e r
 | field t x f=>
  rw[k]at e;simp only[DL]at e;cases z:T t with
  | none=>simp[anB,z]at e
  | some I=>exact ajU k (s _ _ z) z h (p x) e r
 | indexAddr t x i=>rw[k]at e;exact afx k s h (p x) (p i) e B r
 | extract x i=>rw[k]at e;exact Zn k h (p x) e r
 | call c=>
  rw[k]at e;simp only[DL]at e;split at e
  ·rename_i C;split at e
   ·rename_i x A;exact aq4 k C A s h (p x) e r
   ·cases e
  ·rename_i C;split at e
   ·rename_i x y A;exact aau (.inl rfl) k C A h (p x) (p y) e r
   ·cases e
  ·rename_i C;split at e
   ·rename_i x y A;exact aau (.inr rfl) k C A h (p x) (p y) e r
   ·cases e
  ·rename_i C;split at e
   ·rename_i x y A;exact ab7 H k C A s h D (p x) (p y) e B r
   ·cases e
  ·rename_i C;split at e
   ·rename_i x y A;exact aiQ H k C A s h (p x) (p y) e r
   ·cases e
  ·rename_i fo C;split at e
   ·rename_i f E hf;split at e
    ·rename_i O;exact ajj H k C hf W h D J e B O r
    ·cases e
   ·cases e
  ·cases e
 | makeFunc fn first E=>
  rw[k]at e;cases fn with
  | func f=>
   simp only[DL]at e;split at e
   ·rename_i L;split at e
    ·rename_i ls U;injection e with e
     subst e;have L:first= #[]:=by simpa using L
     subst L;refine bz (v:= .func (.func f) #[] (E.map a.eval)) ?_ h r rfl ⟨(E.map a.eval).toList,rfl,by rw[am6 J _ _ U,Array.toList_map]⟩;simp[execOp,k,Instr.makeFunc]
    ·cases e
   ·cases e
  | _=>simp[DL]at e
 | makeSlice t x y=>rw[k]at e;exact ajg H k s h D (p x) (p y) e B r
 | index t x i=>rw[k]at e;exact agr k s h (p x) (p i) e B r
 | convert src dst x=>rw[k]at e;exact aji k s h (p x) e B r
 | slice t x lo hi mx=>
  cases mx with
  | some m=>rw[k]at e;simp[DL]at e
  | none=>rw[k]at e;exact agB H k s h p e B r
 | _=>rw[k]at e;simp[DL]at e
end
end Go.Vc
namespace Go.Vc
open Go.RowKit
section
variable {D:Type}
def rM:List Operand->List Nat
 | []=>[]
 | .tmp t::r=>t::rM r
 | _::r=>rM r
def Ei (c:List Nat)(a:Nat->Sl D)(b:Nat->Option (Bk D)):Nat->Sl D:=fun t=>if uZ t c then(a t).view b else a t
def isRow:Option (Bk D)->Bool
 | some (.row _ _)=>true
 | some (.map _)=>true
 | some (.xZ _)=>true
 | _=>false
def N9:Op->Bool
 | .store _ _ _=>true
 | .buildSlice _ _ _=>true
 | _=>false
def jl (a:Nat->Sl D)(b:Op):List Nat:=nM [] ((rM b.operands.toList).flatMap fun t=>(a t).owns)
def ayJ (T:TypeId->Option Ty)(S:Sh D)(g:FuncId->Option (Ct D))(b:Nat->Sl D)(a:Nat->Option (Bk D))(f:Nat)(d:Op):Option (Out D):=
 let e:=jl b d
 if N9 d && e.all (fun l=>isRow (a l))then
  (match DL T S g (Ei (rM d.operands.toList) b a) (mM a (e.filterMap (jM a))) f d with
  | some c=>some ⟨c.pre,c.val,e.filterMap (jM a)++c.blks⟩
  | none=>none)
 else none
def apu (T:TypeId->Option Ty)(S:Sh D)(d:FuncId->Option (Ct D))(a:Nat->Sl D)(b:Nat->Option (Bk D))(c:Nat)(f:Op):Option (Out D):=
 match DL T S d a b c f with
 | some e=>some e
 | none=>ayJ T S d a b c f
theorem uC {b c:Type}{f a:b->Option c}:∀{l:List b},(∀x∈l,f x=a x)->l.filterMap f=l.filterMap a
 | [],_=>rfl
 | x::l,h=>by
  rw[List.filterMap_cons,List.filterMap_cons,h x qb,uC fun y hy=>h y qcy]
theorem W_ {c:Type}:∀(b a:List (Nat×c)) (f:Nat->c),mM f (b++a)=mM (mM f b) a
 | [],_,_=>rfl
 | (k,v)::b,a,f=>W_ b a (upd f k v)
end
section
variable {D:Type}{P:Program}{S:Sh D}{T:TypeId->Option Ty}{Γ:FuncId->Option (Ct D)}{M M' N:Nat->Prop}{w w':World}{w0:Bs}{g g':Nat->Option Value}{blk blk':Nat->Option (Bk D)}{al:Nat->Prop}
 {a:Act} {o:Oper} {K:Act->World->Prop} {Q:Exit->Act->World->Prop} {slot:Nat->Sl D} {out:Out D} {fr:Nat} {ids jU:List Nat}
theorem Keeps.comp {i d e:Nat->Prop}{a c g:World}(h:Keeps i a d c)(k:Keeps d c e g):Keeps i a e g:=
 ⟨yI h.size k.size,fun b f l=>by
  obtain⟨j,m⟩:=h.same b f l;obtain⟨n,o⟩:=k.same b (Qb5 f h.size) j
  grind⟩
theorem aDL {l:Nat}{p:Nat×Option (Bk D)}(h:jM blk l=some p):p.1=l:=by
 unfold jM at h
 grind
theorem Hp.Iq (I:jE S):∀(p:List Nat) (a:Nat->Option (Bk D)),p.Nodup->Hp S w0 N a g al w->
  Hp S w0 N (mM a (p.filterMap (jM a))) g al w/\Keeps (bi N a g) w (bi N (mM a (p.filterMap (jM a))) g) w/\
   (∀n,hot (mM a (p.filterMap (jM a)) n)=true->hot (a n)=true)/\∀l∈p,isRow (a l)=true->hot (mM a (p.filterMap (jM a)) l)=false
 | [],a,_,h=>⟨h,⟨nO _,fun b _ T=>⟨T,rfl⟩⟩,fun n j=>j,fun l B=>by simp at B⟩
 | l::r,a,j,h=>by
  obtain⟨B,Q⟩:=List.nodup_cons.1 j;have O:∀{x:Option (Bk D)} (t:Nat->Option (Bk D)),mM t (r.filterMap (jM a)) l=t l:=fun{x} t=>yx fun v W=>by
   obtain⟨i,c,G⟩:=Qdp.1 W;have:=aDL G
   grind
  by_cases m:∃d,rwD (a l)=some d
  ·obtain⟨d,f⟩:=m;have L:jM a l=some (l,some (.xZ d)):=by unfold jM;rw[f]
   have J:=Uf f;obtain⟨ab,M,_⟩:=lg J;rw[List.filterMap_cons_some L];have P:r.filterMap (jM a)=r.filterMap (jM (upd a l (some (.xZ d)))):=by
    refine uC fun i c=> ?_;have z:i≠l:=fun e=>B (e▸c)
    unfold jM;rw[df _ _ _ _ z]
   obtain⟨v,C,_⟩:=h.dW l _ M;have aa:hot (upd a l (some (Bk.xZ d)) l)=false:=by rw[upd_same];rfl
   have k:∀n,hot (upd a l (some (Bk.xZ d)) n)=true->hot (a n)=true:=fun n j=>by
    by_cases G:n=l
    ·grind
    ·rwa [df _ _ _ _ G]at j
   have R:∀b,bi N (upd a l (some (Bk.xZ d))) g b->bi N a g b:=by
    rintro b (f | ⟨n,u,K,s,Y⟩)
    ·exact .inl f
    ·exact .inr ⟨n,u,k n K,s,Y⟩
   obtain⟨K,V⟩:=h.aMt l (some (.xZ d)) rfl (fun bk y=>by
    injection y with y
    subst y;refine⟨v,C,ajd I h f C R fun b F=> ?_⟩;rintro(q | ⟨n,u,X,U,Z⟩)
    ·exact h.aiH J C F q
    ·have:=h.sep l n v u b J (k n X) C U F Z
     grind)
   obtain⟨s,E,A,H⟩:=Hp.Iq I r (upd a l (some (.xZ d))) Q K;rw[<-P]at s E A H;refine⟨s,V.comp E,fun n j=>k n (A n j),fun i c o=> ?_⟩;rcases EC.1 c with rfl | c
   ·show hot (mM (upd a i (some (.xZ d))) (r.filterMap (jM a)) i)=false
    grind
   ·refine H i c ?_;have z:i≠l:=fun e=>B (e▸c)
    rwa [df _ _ _ _ z]
  ·have L:jM a l=none:=by
    unfold jM
    grind
   rw[List.filterMap_cons_none L];obtain⟨s,E,A,H⟩:=Hp.Iq I r a Q h;refine⟨s,E,A,fun i c o=> ?_⟩;rcases EC.1 c with rfl | c
   ·rw[O (x:=none)];unfold isRow at o;split at o
    ·rename_i e d f;exact absurd ⟨d,by rw[f];rfl⟩ m
    ·rename_i d f;exact absurd ⟨d,by rw[f];rfl⟩ m
    ·rename_i d f;rw[f];rfl
    ·cases o
   grind
theorem apn (p:∀t O,T t=some O->gW P t O)(r:∀f E,Γ f=some E->gZ P S f E)(j:jE S)(h:Hp S w0 N blk g al w)(s:∀n,fr<=n->n < fr+64->¬al n)
  (z:∀t,(slot t).Rel S (bi N blk g) w g (a.tmps.getD t undef)) (c:apu T S Γ slot blk fr o.op=some out) (G:nJ out.pre) (J:Post S w0 N blk g al w fr out o.dst a K):o.wp P a w K Q:=by
 unfold apu at c;split at c
 ·rename_i d B;injection c with c
  subst c;exact af0 p r j h s z B G J
 ·unfold ayJ at c;dsimp only at c;split at c
  ·rename_i V;simp only[kW,Qa2]at V;split at c
   ·rename_i d B;injection c with c
    subst c;have H:(jl slot o.op).Nodup:=rG _ _ Qd3;obtain⟨U,D,F,X⟩:=Hp.Iq j (jl slot o.op) blk H h;refine af0 p r j U s (fun t=> ?_) B G (fun v w' g' m k I W=> ?_)
    ·unfold Ei;split
     ·rename_i y;have y:=iL.1 y;refine Sl.Rel.view (jU:=jl slot o.op) j h ⟨?_,fun l M v b L R i=> ?_⟩ (fun l M=>(fU _ _ _).2 (.inr (zA.2 ⟨t,y,M⟩))) (z t)
      ·rintro b (i | ⟨n,u,A,x,C⟩)
       ·exact .inl i
       ·exact .inr ⟨n,u,F n A,x,C⟩
      ·rintro(q | ⟨n,u,A,x,C⟩)
       ·exact h.aiH L R i q
       ·have:=h.sep l n v u b L (F n A) R x i C
        grind
     ·exact(z t).keep D (More.refl _)
    ·have e:mM blk ((jl slot o.op).filterMap (jM blk)++d.blks)=mM (mM blk ((jl slot o.op).filterMap (jM blk))) d.blks:=W_ _ _ _;refine J v w' g' m ?_ ?_ ?_
     ·rw[e];exact D.comp k
     ·rw[e];exact I
     ·rw[e];exact W
   ·cases c
  ·cases c
end
end Go.Vc
namespace Go.Vc
open Go.RowKit
section
variable {D:Type}
def Lf.pv:Lf D->Option Pv
 | .bool b=>some (.bool b)
 | .val (.bool b)=>some (.bool b)
 | .int k n=>some (.int k n)
 | .str s=>some (.str s)
 | _=>none
def pvs:List (Lf D)->Option (List Pv)
 | []=>some []
 | x::a=>(match x.pv,pvs a with
  | some p,some b=>some (p::b)
  | _,_=>none)
def aGn (T:TypeId->Option Ty)(t:TypeId)(x:Sl D):Option (Out D):=
 match T t with
 | none=>none
 | some a=>if Nat.beq a.kind 0 then none else(match x with
  | .one (.lf x)=>(match x.pv with
   | some p=>nP none (.Ze (some ⟨t,false,[p]⟩))
   | none=>none)
  | .one (.agg c)=>(match pvs c with
   | some b=>nP none (.Ze (some ⟨t,true,b⟩))
   | none=>none)
  | _=>none)
def nY.is (v:Option nY)(t:TypeId):Bool:=
 match v with
 | some i=>Nat.beq i.t t
 | none=>false
def nY.get (v:Option nY)(t:TypeId)(j:Nat):Option Pv:=
 match v with
 | some i=>if Nat.beq i.t t then i.xs[j]? else none
 | none=>none
def Pv.gB:Option Pv->Bool
 | some (.bool b)=>b
 | _=>false
def Pv.gI:Option Pv->Int
 | some (.int _ n)=>n
 | _=>0
def Pv.gS:Option Pv->List UInt8
 | some (.str s)=>s
 | _=>[]
def Dh (z:Value)(p:Option Pv):Option (Lf D):=
 match z with
 | .bool false=>some (.bool (Pv.gB p))
 | .int k 0=>some (.int k (Pv.gI p))
 | .string s=>(match s.data.toList with
  | []=>some (.str (Pv.gS p))
  | _=>none)
 | _=>none
def wM (v:Option nY)(t:TypeId):List Value->Nat->Option (List (Lf D))
 | [],_=>some []
 | z::b,j=>(match Dh z (nY.get v t j),wM v t b (j+1)with
  | some x,some a=>some (x::a)
  | _,_=>none)
def adU:Value->Pv->Bool
 | .bool _, .bool _=>true
 | .int k _, .int a _=>ZA k a
 | .string _, .str _=>true
 | _,_=>false
def Gs:List Value->List Pv->Bool
 | [],[]=>true
 | z::b,p::a=>adU z p && Gs b a
 | _,_=>false
def nY.ok (v:Option nY)(t:TypeId)(a:Bool)(b:List Value):Bool:=
 match v with
 | some i=> !Nat.beq i.t t || ((i.agg==a) && Gs b i.xs)
 | none=>true
def ady (T:TypeId->Option Ty)(t:TypeId)(x:Sl D):Option (Out D):=
 match T t with
 | none=>none
 | some a=>if Nat.beq a.kind 0 || !(a.agg==a.zag)then none else(match x with
  | .one (.lf (.Ze v))=>(match wM v t a.zero 0 with
   | none=>none
   | some b=>if a.agg then some ⟨some (dp (nY.ok v t true a.zero=true)), .x8 [.agg b, .lf (.bool (nY.is v t))],[]⟩
    else(match b with
     | [l]=>some ⟨some (dp (nY.ok v t false a.zero=true)), .x8 [.lf l, .lf (.bool (nY.is v t))],[]⟩
     | _=>none))
  | _=>none)
end
section
variable {D:Type}{P:Program}{S:Sh D}{T:TypeId->Option Ty}{Γ:FuncId->Option (Ct D)}{M M' N:Nat->Prop}{w w':World}{w0:Bs}{g g':Nat->Option Value}{blk blk':Nat->Option (Bk D)}{al:Nat->Prop}
 {a:Act} {o:Oper} {K:Act->World->Prop} {Q:Exit->Act->World->Prop} {slot dE:Nat->Sl D} {out:Out D} {fr:Nat}
theorem WB {x:Lf D}{p:Pv}{v:Value}(h:x.pv=some p)(a:x.Rel S M w g v):v=p.val/\p.fits:=by
 unfold Lf.pv at h;split at h<;>first | (injection h with h;subst h;exact⟨a,trivial⟩) | (injection h with h;subst h;exact a) | (cases h;done)
theorem Uc:∀{b:List (Lf D)} {a:List Pv} {c:List Value},pvs b=some a->bu S M w g b c->c=a.map Pv.val/\∀p∈a,p.fits
 | [],a,[],h,_=>by simp[pvs]at h;grind
 | x::b,a,v::c,h,d=>by
  unfold pvs at h;split at h
  ·rename_i p i e f;injection h with h
   subst h;obtain⟨k,m⟩:=WB e d.1;obtain⟨j,l⟩:=Uc f d.2
   grind
  ·cases h
theorem zH {t:TypeId}{a:Ty}(h:gW P t a)(c:a.kind≠0):P.concrete t=true:=by
 obtain⟨d,e,b⟩:=oJ h;unfold Program.concrete;rw[e];cases d<;>first | rfl | (exfalso;apply c;rw[<-b];rfl)
theorem apX {t:TypeId}{x:Operand}(s:o.op= .makeInterface t x)(m:∀t j,T t=some j->gW P t j)(h:Hp S w0 N blk g al w)(i:(aN slot x).Rel S (bi N blk g) w g (a.eval x))
  (b:aGn T t (aN slot x)=some out) (n:Post S w0 N blk g al w fr out o.dst a K):o.wp P a w K Q:=by
 unfold aGn at b;split at b
 ·cases b
 ·rename_i j r;split at b
  ·cases b
  ·rename_i k;have k:j.kind≠0:=fun e=>k qcx
   have f:=run_makeInterface (P:=P) w t (a.eval x) (zH (m _ _ r) k);split at b
   ·rename_i y d;rw[d]at i;split at b
    ·rename_i p c;injection b with b
     subst b;have l:=(WB c i).1;refine bz (v:= .iface t (a.eval x)) ?_ h n rfl ⟨by rw[l];rfl,fun q z=>by have:=Ko.1 z;subst this;exact(WB c i).2⟩;simp[execOp,s,f]
    ·cases b
   ·rename_i B d;rw[d]at i;obtain⟨C,l,u⟩:=i;split at b
    ·rename_i A c;injection b with b
     subst b;have:=(Uc c u).1;refine bz (v:= .iface t (a.eval x)) ?_ h n rfl ⟨by rw[l,this];rfl,(Uc c u).2⟩;simp[execOp,s,f]
    ·cases b
   ·cases b
theorem arb {z:Value}{x:Lf D}(h:Dh z none=some x):x.Rel S M w g z:=by
 unfold Dh at h;split at h
 ·injection h with h;subst h;rfl
 ·injection h with h;subst h;rfl
 ·rename_i s;split at h
  ·rename_i b;injection h with h
   subst h;cases s with
   | mk a=>
    have:a= #[]:=by
     grind
    subst this;exact⟨rfl,by simp[Pv.gS]⟩
  ·cases h
 ·cases h
theorem apM {b:Bool}{q:Option Pv}{x:Lf D}(h:Dh (.bool b) q=some x):x= .bool (Pv.gB q):=by
 cases b
 ·injection h with h;exact h.symm
 ·cases h
theorem at7 {k:IntKind}{n:Int}{q:Option Pv}{x:Lf D}(h:Dh (.int k n) q=some x):x= .int k (Pv.gI q):=by
 unfold Dh at h
 grind
theorem atS {s:ByteArray}{q:Option Pv}{x:Lf D}(h:Dh (.string s) q=some x):x= .str (Pv.gS q):=by
 simp only[Dh]at h
 grind
theorem aqe {z:Value}{p:Pv}{x:Lf D}(a:adU z p=true)(h:Dh z (some p)=some x)(b:p.fits):x.Rel S M w g p.val:=by
 cases z<;>cases p<;>simp only[adU,Qa8]at a
 ·rw[apM h];rfl
 ·rename_i k n c d;have a:k=c:=by simpa[ZA]using a
  subst a;rw[at7 h];rfl
 ·rw[atS h];exact⟨rfl,b⟩
theorem QP {v:Option nY}{t:TypeId}(c:∀j,nY.get v t j=none):∀(b:List Value) (j:Nat) (a:List (Lf D)),wM v t b j=some a->bu S M w g a b
 | [],j,a,h=>by simp[wM]at h;subst h;trivial
 | z::b,j,a,h=>by
  unfold wM at h;rw[c j]at h;split at h
  ·rename_i x e d f;injection h with h
   subst h;exact⟨arb d,QP c b (j+1) e f⟩
  ·cases h
theorem Q5 {i:nY}:∀(d:List Value) (b:List Pv) (j:Nat) (c:List (Lf D)),Gs d b=true->(∀k,nY.get (some i) i.t (j+k)=b[k]?)->wM (some i) i.t d j=some c->(∀p∈b,p.fits)->bu S M w g c (b.map Pv.val)
 | [],[],j,c,_,_,h,_=>by simp[wM]at h;subst h;trivial
 | z::d,p::b,j,c,a,l,h,e=>by
  simp only[Gs,kW]at a;unfold wM at h;have f:=l 0;simp only[UX,Qcg]at f;rw[f]at h;split at h
  ·rename_i x r m n;injection h with h
   subst h;exact⟨aqe a.1 m (e p qb),Q5 d b (j+1) r a.2 (fun k=>by have:=l (k+1);grind) n (fun q o=>e q (by simp[o]))⟩
  ·cases h
 | [],_::_,_,_,a,_,_,_=>by simp[Gs]at a
 | _::_,[],_,_,a,_,_,_=>by simp[Gs]at a
theorem ZG {t st:TypeId}{v:Option nY}{z:Value}(a:P.concrete t=true)(c:nY.is v t=false)(f:(zeroValue t).run P w= .ok z w):(Instr.typeAssert (D_ v) st t true).run P w= .ok (.tuple #[z, .bool false]) w:=by
 unfold Program.concrete at a;cases b:P.underlying t with
 | none=>grind
 | some d=>
  rw[b]at a;cases v with
  | none=>cases d<;>first | (cases a;done) | simp[Instr.typeAssert,run_underlying b,D_,f]
  | some i=>
   have g:¬i.t=t:=fun e=>by simp[nY.is,e]at c
   cases d<;>first | (cases a;done) | simp[Instr.typeAssert,run_underlying b,D_,g,f]
theorem Xn {st:TypeId}{i:nY}(a:P.concrete i.t=true):(Instr.typeAssert (D_ (some i)) st i.t true).run P w= .ok (.tuple #[i.inner, .bool true]) w:=by
 unfold Program.concrete at a;cases b:P.underlying i.t with
 | none=>grind
 | some d=>
  rw[b]at a;cases d<;>first | (cases a;done) | simp[Instr.typeAssert,run_underlying b,D_]
theorem adO {t st:TypeId}{x:Operand}(B:o.op= .typeAssert x st t true)(E:∀t d,T t=some d->gW P t d)(h:Hp S w0 N blk g al w)(n:(aN slot x).Rel S (bi N blk g) w g (a.eval x))
  (b:ady T t (aN slot x)=some out) (Z:nJ out.pre) (A:Post S w0 N blk g al w fr out o.dst a K):o.wp P a w K Q:=by
 unfold ady at b;split at b
 ·cases b
 ·rename_i d H;split at b
  ·cases b
  ·rename_i W;simp only[Qa9,Qa7,not_or]at W;have V:d.kind≠0:=fun e=>W.1 qcx
   have q:d.agg=d.zag:=by
    grind
   have hc:=zH (E _ _ H) V;obtain⟨z,hz,G,r⟩:=akq (E _ _ H) w;split at b
   ·rename_i v X;rw[X]at n;obtain⟨n,Y⟩:a.eval x=D_ v/\au_ v:=n;split at b
    ·cases b
    ·rename_i O D;by_cases c:nY.is v t=true
     ·obtain⟨i,rfl,aa⟩:∃i,v=some i/\i.t=t:=by
       cases v with
       | none=>simp[nY.is]at c
       | some i=>exact⟨i,rfl,Qa c⟩
      subst aa;have J:∀k,nY.get (some i) i.t (0+k)=i.xs[k]? :=fun k=>by simp[nY.get]
      have f:=Xn (P:=P) (w:=w) (st:=st) (i:=i) hc;have C:∀I,nY.ok (some i) i.t I d.zero=true->i.agg=I/\bu S (bi N blk g) w g O (i.xs.map Pv.val):=by
       intro I s;simp only[nY.ok,Nat.beq_refl,Qbm,Qdn,kW,Qb6]at s;exact⟨s.1,Q5 d.zero i.xs 0 O s.2 J D Y⟩
      split at b
      ·injection b with b
       subst b;obtain⟨L,y⟩:=C true Z;refine bz (v:= .tuple #[i.inner, .bool true]) ?_ h A rfl ⟨[i.inner, .bool true],rfl,⟨⟨_,?_,y⟩,by rw[c];rfl,trivial⟩⟩
       ·simp[execOp,B,n,f]
       ·unfold nY.inner;rw[L]
      ·split at b
       ·rename_i l;injection b with b
        subst b;obtain⟨L,y⟩:=C false Z;obtain⟨p,F⟩:∃p,i.xs=[p]:=by
         have:=y.length;simp only[Qb0,Qbw]at this;exact List.length_eq_one_iff.1 this.symm
        have U:i.inner=p.val:=by unfold nY.inner;rw[L,F]
        rw[F]at y;refine bz (v:= .tuple #[i.inner, .bool true]) ?_ h A rfl ⟨[i.inner, .bool true],rfl,⟨?_,by rw[c];rfl,trivial⟩⟩
        ·simp[execOp,B,n,f]
        ·rw[U];exact y.1
       ·cases b
     ·have c:nY.is v t=false:=by simpa using c
      have f:=ZG (P:=P) (w:=w) (st:=st) hc c hz;have ab:∀j,nY.get v t j=none:=by
       intro j;cases v with
       | none=>rfl
       | some i=>simp only[nY.is]at c;simp[nY.get,c]
      have R:=QP (S:=S) (M:=bi N blk g) (w:=w) (g:=g) ab d.zero 0 O D;split at b
      ·rename_i m;injection b with b
       subst b;have u:z= .agg d.zero.toArray:=by
        rw[m]at q;rw[<-q]at r;cases z<;>simp[AP]at r
        rw[<-G];rfl
       refine bz (v:= .tuple #[z, .bool false]) ?_ h A rfl ⟨[z, .bool false],rfl,⟨⟨_,u,R⟩,by rw[c];rfl,trivial⟩⟩;simp[execOp,B,n,f]
      ·rename_i m;split at b
       ·rename_i l;injection b with b
        subst b;have u:d.zero=[z]:=by
         have m:d.agg=false:=by simpa using m
         rw[m]at q;rw[<-q]at r;rw[<-G];cases z<;>first | rfl | simp[AP]at r
        rw[u]at R;refine bz (v:= .tuple #[z, .bool false]) ?_ h A rfl ⟨[z, .bool false],rfl,⟨R.1,by rw[c];rfl,trivial⟩⟩;simp[execOp,B,n,f]
       ·cases b
   ·cases b
end
end Go.Vc
namespace Go.Vc
open Go.RowKit
section
variable {D:Type}
def LY (S:Sh D)(d:D)(a:Nat):Nat->Nat->List (Lf D)
 | _,0=>[]
 | i,n+1=>Ec S d i 0 a++LY S d a (i+1) n
def Qj (T:TypeId->Option Ty)(t:TypeId):Option (TypeId×Nat×Nat):=
 match T t with
 | none=>none
 | some a=>(match a.arr with
  | none=>none
  | some (e,n)=>(match T e with
   | none=>none
   | some b=>if Nat.blt 0 b.size && Nat.beq a.size (n*b.size) && a.agg then some (e,n,b.size)else none))
def Xl (T:TypeId->Option Ty)(t:TypeId):Option (TypeId×Nat×Nat):=
 match T t with
 | none=>none
 | some a=>if a.lit then none else Qj T t
def aci (T:TypeId->Option Ty)(S:Sh D)(a:Nat)(t:TypeId):Option (Out D):=
 match Xl T t with
 | none=>none
 | some (e,n,b)=>(match T t with
  | none=>none
  | some c=>(match S.make e n (c.zero.map fun v=>(zf v).norm)with
   | none=>none
   | some d=>if Nat.beq (S.size d) b && Nat.ble n 1000000 then some ⟨none, .one (.lf (.opt a 0 0 b)),[(a,some (.row t d))]⟩else none))
def OQ (T:TypeId->Option Ty)(S:Sh D)(b:Nat->Option (Bk D))(t:TypeId)(x:Sl D):Option (Out D):=
 match Xl T t with
 | none=>none
 | some (e,n,a)=>(match x with
  | .one (.lf (.opt l i j s))=>if Nat.beq i 0 && (Nat.beq j 0 && Nat.beq s a)then(match b l with
   | some (.row _ d)=>if Nat.beq a (S.size d)then some ⟨some (dp (S.len d=n)), .one (.agg (LY S d a 0 n)),[]⟩else none
   | _=>none)else none
  | .one (.lf (.glb k))=>(match S.SX k with
   | some d=>if Nat.beq a (S.size d)then some ⟨some (dp (S.len d=n)), .one (.agg (LY S d a 0 n)),[]⟩else none
   | none=>none)
  | _=>none)
def adt (T:TypeId->Option Ty)(S:Sh D)(t:TypeId)(x i:Sl D):Option (Out D):=
 match Xl T t with
 | none=>none
 | some (e,n,a)=>(match x,i with
  | .one (.lf (.opt l b j s)), .one (.lf (.int _ m))=>if Nat.beq b 0 && (Nat.beq j 0 && Nat.beq s a)then nP (some (dp (0<=m/\m < n))) (.opt l m.toNat 0 a)else none
  | .one (.lf (.glb k)), .one (.lf (.int _ m))=>(match S.SX k with
   | some d=>if Nat.beq a (S.size d)then nP (some (dp (0<=m/\m < n/\m < S.len d))) (.elt d m.toNat 0)else none
   | none=>none)
  | _,_=>none)
def GK (T:TypeId->Option Ty)(S:Sh D)(c:Nat->Option (Bk D))(t:TypeId)(x y:Sl D):Option (Out D):=
 match Xl T t with
 | none=>none
 | some (e,n,a)=>(match x,y with
  | .one (.lf (.opt l i j s)), .one (.agg cs)=>if Nat.beq i 0 && (Nat.beq j 0 && Nat.beq s a) && cs.all Lf.storable then(match c l with
   | some (.row f d)=>(match S.make e n (cs.map Lf.norm)with
    | some b=>if Nat.beq a (S.size d) && Nat.beq a (S.size b)then some ⟨some (dp (S.len d=n)), .one (.lf .any),[(l,some (.row f b))]⟩else none
    | none=>none)
   | _=>none)else none
  | _,_=>none)
def abG (cs:List (Lf D))(a j:Nat):Nat->Nat->List (Lf D)
 | _,0=>[]
 | r,n+1=>(match cs[r*a+j]? with
  | some x=>x
  | none=> .any)::abG cs a j (r+1) n
def intsOf (k:IntKind):List (Lf D)->Option (List Int)
 | []=>some []
 | .int a n::r=>if ZA k a then(match intsOf k r with
  | some l=>some (n::l)
  | none=>none)else none
 | _=>none
def strsOf:List (Lf D)->Option (List (List UInt8))
 | []=>some []
 | .str s::r=>(match strsOf r with
  | some l=>some (s::l)
  | none=>none)
 | _=>none
def Lu:List (Lf D)->Option (List Bool)
 | []=>some []
 | .bool b::r=>(match Lu r with
  | some l=>some (b::l)
  | none=>none)
 | _=>none
def ak7 (cs:List (Lf D))(i:Nat):Option (Lf D):=
 match cs with
 | .int k n::r=>(match intsOf k (.int k n::r)with
  | some l=>some (.int k (l.getD i 0))
  | none=>none)
 | .str s::r=>(match strsOf (.str s::r)with
  | some l=>some (.str (l.getD i []))
  | none=>none)
 | .bool b::r=>(match Lu (.bool b::r)with
  | some l=>some (.bool (l.getD i false))
  | none=>none)
 | _=>none
def pickRow (cs:List (Lf D))(a n i:Nat):Nat->Nat->Option (List (Lf D))
 | _,0=>some []
 | j,m+1=>(match ak7 (abG cs a j 0 n) i,pickRow cs a n i (j+1) m with
  | some x,some b=>some (x::b)
  | _,_=>none)
def ad8 (T:TypeId->Option Ty)(t:TypeId)(x i:Sl D):Option (Out D):=
 match Qj T t with
 | none=>none
 | some (e,n,a)=>(match T e with
  | none=>none
  | some b=>(match x,i with
   | .one (.agg cs), .one (.lf (.int _ m))=>if Nat.beq cs.length (n*a) && Nat.beq b.size a then(match pickRow (cs.map Lf.norm) a n m.toNat 0 a with
    | some c=>if b.agg then some ⟨some (dp (0<=m/\m < n)), .one (.agg c),[]⟩else(match c with
     | [l]=>some ⟨some (dp (0<=m/\m < n)), .one (.lf l),[]⟩
     | _=>none)
    | none=>none)else none
   | _,_=>none))
def UK (T:TypeId->Option Ty)(a:Nat->Sl D)(t:TypeId)(parts:Array (Nat×Operand)):Option (Out D):=
 match Qj T t with
 | none=>none
 | some (e,n,c)=>(match T t with
  | none=>none
  | some b=>(match zC c a parts.toList (b.zero.map zf)with
   | some cs=>some ⟨none, .one (.agg cs),[]⟩
   | none=>none))
def OB (T:TypeId->Option Ty)(S:Sh D)(c:Nat->Option (Bk D))(k:Array TypeId)(x:Sl D):Option (Out D):=
 match k.toList with
 | [t]=>(match T t with
  | none=>none
  | some h=>(match h.elem with
   | none=>none
   | some e=>(match T e with
    | none=>none
    | some b=>(match x with
     | .one (.lf (.part l i j a f))=>(match c l with
      | some (.row m d)=>if Nat.beq a b.size && (Nat.beq a (S.size d) && (Nat.blt 0 a && Nat.beq b.zero.length a))then
       (match S.sub d 0 i,S.zero e (j - i) (b.zero.map fun v=>(zf v).norm)with
       | some p,some z=>(match S.cat p z with
        | some g=>some ⟨some (dp (j=S.len d)), .x8 [],[(l,some (.row m g))]⟩
        | none=>none)
       | _,_=>none)else none
      | _=>none)
     | _=>none))))
 | _=>none
def Eo (T:TypeId->Option Ty)(S:Sh D)(a:Nat->Sl D)(b:Nat->Option (Bk D))(d:Nat)(e:Op):Option (Out D):=
 match e with
 | .alloc t=>aci T S d t
 | .load t x=>OQ T S b t (aN a x)
 | .store t x y=>GK T S b t (aN a x) (aN a y)
 | .indexAddr t x i=>adt T S t (aN a x) (aN a i)
 | .index t x i=>ad8 T t (aN a x) (aN a i)
 | .build t parts=>UK T a t parts
 | .call c=>(match c.callee with
  | .builtin .clear=>(match c.args.toList with
   | [x]=>OB T S b c.argTypes (aN a x)
   | _=>none)
  | _=>none)
 | .makeInterface t x=>aGn T t (aN a x)
 | .typeAssert x _ t true=>ady T t (aN a x)
 | _=>none
def apB (T:TypeId->Option Ty)(S:Sh D)(f:FuncId->Option (Ct D))(a:Nat->Sl D)(b:Nat->Option (Bk D))(c:Nat)(e:Op):Option (Out D):=
 match Eo T S a b c e with
 | some d=>some d
 | none=>apu T S f a b c e
end
section
variable {D:Type}{P:Program}{S:Sh D}{T:TypeId->Option Ty}{Γ:FuncId->Option (Ct D)}{M M' N:Nat->Prop}{w w':World}{w0:Bs}{g g':Nat->Option Value}{blk blk':Nat->Option (Bk D)}{al:Nat->Prop}
 {a:Act} {o:Oper} {K:Act->World->Prop} {Q:Exit->Act->World->Prop} {slot dE:Nat->Sl D} {out:Out D} {fr:Nat}
theorem zx (d:∀t a,T t=some a->gW P t a){t e:TypeId}{n f:Nat}(h:Qj T t=some (e,n,f)):∃a c,T t=some a/\T e=some c/\c.size=f/\0 < f/\a.size=n*f/\a.agg=true/\P.underlying t=some (.array n e)/\gW P t a/\gW P e c:=by
 unfold Qj at h;split at h
 ·cases h
 ·rename_i a b;split at h
  ·cases h
  ·rename_i o p i;split at h
   ·cases h
   ·rename_i c g;split at h
    ·rename_i j;simp only[kW]at j;injection h with h
     injection h with l h
     injection h with m k
     subst l m k;exact⟨a,c,b,g,rfl,by simp_all,Qa j.1.2,j.2,aFP (d _ _ b) i,d _ _ b,d _ _ g⟩
    ·cases h
theorem yl (d:∀t a,T t=some a->gW P t a){t e:TypeId}{n b:Nat}(h:Xl T t=some (e,n,b)):∃a c,T t=some a/\T e=some c/\c.size=b/\0 < b/\a.size=n*b/\a.agg=true/\P.underlying t=some (.array n e)/\gW P t a/\gW P e c:=by
 unfold Xl at h;split at h
 ·cases h
 ·split at h
  ·cases h
  ·exact zx d h
theorem zU {d:D}{ad:Addr}{sz:Nat}:∀(n i:Nat),(∀r,r < n->∃a:List Value,a.length=sz/\bu S M w g (Ec S d (i+r) 0 sz) a/\∀k u,a[k]? =some u->w.cell? (ad.add ((i+r)*sz+k))=some u)->
  ∃a:List Value,a.length=n*sz/\bu S M w g (LY S d sz i n) a/\∀k u,a[k]? =some u->w.cell? (ad.add (i*sz+k))=some u
 | 0,i,_=>⟨[],by simp,trivial,fun k u b=>by simp at b⟩
 | n+1,i,h=>by
  obtain⟨c,l1,e,l⟩:=h 0 au;obtain⟨j,o,f,m⟩:=zU n (i+1) (fun r p=>by have:=h (r+1) au;rwa [show i+(r+1)=i+1+r by omega]at this);refine⟨c++j,by grind,e.append f,fun k u b=> ?_⟩
  grind
theorem aHe {i j s a:Nat}(h:(Nat.beq i 0 && (Nat.beq j 0 && Nat.beq s a))=true):i=0/\j=0/\s=a:=by
 simp_all
theorem agZ {t:TypeId}{x:Operand}(ho:o.op= .load t x)(R:∀t I,T t=some I->gW P t I)(h:Hp S w0 N blk g al w)(y:(aN slot x).Rel S (bi N blk g) w g (a.eval x))
  (c:OQ T S blk t (aN slot x)=some out) (A:nJ out.pre) (hK:Post S w0 N blk g al w fr out o.dst a K):o.wp P a w K Q:=by
 unfold OQ at c;split at c
 ·cases c
 ·rename_i e n sz E;obtain⟨I,te,hty,hte,hsz,h0,ZO,O,zk,C,J9⟩:=yl R E;have F:=yF C w;have Z:=lG C w;have fin:∀(ad:Addr) (f:List Value) (G:List (Lf D)),a.eval x= .pointer (some ad)->f.length=n*sz->bu S (bi N blk g) w g G f->(∀k u,f[k]? =some u->w.cell? (ad.add (0*sz+k))=some u)->out=⟨out.pre, .one (.agg G),[]⟩->o.wp P a w K Q:=by
   intro ad f G U H z B L;have q:=run_loadCells (P:=P) (w:=w) ad f 0 #[] (fun k u J=>by grind);rw[H,<-ZO]at q;refine bz (v:= .agg f.toArray) ?_ h hK (by rw[L]) (by rw[L];exact⟨_,rfl,z⟩);simp[execOp,ho,Instr.loadAt,Instr.sureAddr,U,loadVar,F,O,Z,loadCells,q]
  split at c
  ·rename_i l i j s p;rw[p]at y;obtain⟨b,n',cap,hg,U⟩:=y;split at c
   ·rename_i B;obtain⟨rfl,rfl,rfl⟩:=aHe B;split at c
    ·rename_i e' d hb;split at c
     ·rename_i m;have m:=Qa m;injection c with c
      subst c;have A:S.len d=n:=A;obtain⟨f,H,z,B⟩:=zU (S:=S) (M:=bi N blk g) (w:=w) (g:=g) (d:=d) (ad:=⟨b,0,none⟩) (sz:=s) n 0 (fun r z=>by
       obtain⟨f,W,Y,V⟩:=yD h hb hg (i:=0+r) au s 0 au;refine⟨f,W,Y,fun k u J=> ?_⟩;have:=V k u J;rw[l_]
       grind)
      grind
     ·cases c
    ·cases c
   ·cases c
  ·rename_i k p;rw[p]at y;have y:a.eval x= .pointer (some ⟨k,0,none⟩):=y;split at c
   ·rename_i d hd;split at c
    ·rename_i m;have m:=Qa m;injection c with c
     subst c;have A:S.len d=n:=A;have X:=h.gl k d hd;obtain⟨f,H,z,B⟩:=zU (S:=S) (M:=bi N blk g) (w:=w) (g:=g) (d:=d) (ad:=⟨k,0,none⟩) (sz:=sz) n 0 (fun r z=>by
      obtain⟨f,W,Y,V⟩:=zK (g:=g) X (i:=0+r) au sz 0 au
      grind)
     grind
    ·cases c
   ·cases c
  ·cases c
theorem aei {t:TypeId}{x r:Operand}(J:o.op= .indexAddr t x r)(G:∀t B,T t=some B->gW P t B)(h:Hp S w0 N blk g al w)(q:(aN slot x).Rel S (bi N blk g) w g (a.eval x))
  (f:(aN slot r).Rel S (bi N blk g) w g (a.eval r)) (c:adt T S t (aN slot x) (aN slot r)=some out) (H:nJ out.pre) (I:Post S w0 N blk g al w fr out o.dst a K):o.wp P a w K Q:=by
 unfold adt at c;split at c
 ·cases c
 ·rename_i e n sz y;obtain⟨B,te,Y,Z,u,h0,ZO,W,E,X,O⟩:=yl G y;have D:=lG O w;split at c
  ·rename_i l i0 j s k m p i;rw[p]at q;rw[i]at f;simp only[Sl.Rel,Sv.Rel,Lf.Rel]at f;obtain⟨b,R,F,U,L⟩:=q;split at c
   ·rename_i V;obtain⟨rfl,rfl,rfl⟩:=aHe V;injection c with c
    subst c;obtain⟨C,A⟩:=H;refine bz (v:= .pointer (some ⟨b,m.toNat*s+0,none⟩)) ?_ h I rfl ⟨b,R,F,U,rfl⟩;simp[execOp,J,Instr.indexAt,Instr.sureAddr,f,asIntOf,run_underlying E,L,C,A,D,u,l_]
   ·cases c
  ·rename_i k ki m p i;rw[p]at q;rw[i]at f;simp only[Sl.Rel,Sv.Rel,Lf.Rel]at f q;split at c
   ·rename_i d M;split at c
    ·rename_i z;have z:=Qa z;injection c with c
     subst c;obtain⟨C,A,p3⟩:=H;refine bz (v:= .pointer (some (Addr.add ⟨k,0,none⟩ (m.toNat*S.size d+0)))) ?_ h I rfl ⟨_,_,_,h.gl k d M,by omega,rfl⟩;simp[execOp,J,Instr.indexAt,Instr.sureAddr,f,asIntOf,run_underlying E,q,C,A,D,u,z]
    ·cases c
   ·cases c
  ·cases c
theorem ae3 {t:TypeId}(u:jE S)(X:o.op= .alloc t)(C:∀t k,T t=some k->gW P t k)(h:Hp S w0 N blk g al w)(D:∀n,fr<=n->n < fr+64->¬al n)
  (c:aci T S fr t=some out) (U:Post S w0 N blk g al w fr out o.dst a K):o.wp P a w K Q:=by
 unfold aci at c;split at c
 ·cases c
 ·rename_i e n sz p;obtain⟨k,te,H,ac,ab,h0,ZO,Y,zk,G,J9⟩:=yl C p;rw[H]at c;dsimp only at c;split at c
  ·cases c
  ·rename_i d E;split at c
   ·rename_i y;simp only[kW]at y;have hs:=Qa y.1;have hn:=Qa3 y.2;injection c with c
    subst c;obtain⟨z,O,aa⟩:=D6 G w;obtain⟨q,V,M⟩:=u.make _ _ _ _ E;rw[Qb0]at V;have B:z.cells.size=n*S.size d:=by grind
    have s:(execOp a.eval o).run P w= .ok (.value (.pointer (some ⟨w.heap.size,0,none⟩))) (w.alloc (.cells z.cells t)):=by
     simp[execOp,X,Instr.alloc,O,newVar,newRow,newObj,Sem.run]
    have W:Below w.heap.size w (w.alloc (.cells z.cells t)):=(Below.refl w.heap.size w).alloc (nO _) _;obtain⟨J,L,R⟩:=h.add (l:=fr) (bk:= .row t d) (v:= .slice (some ⟨w.heap.size,0,none⟩) n n) W (D fr (nO _) au) (fun b r=>by simp[fJ]at r;omega)
     (fun M' hk _=>by
      refine⟨⟨fun b r=> .inl ?_,by rw[q];omega,u.afh _ _ _ _ E⟩,z.cells.toList,⟨?_, .inr ⟨w.heap.size,n,z.cells,by rw[q],ve _,heap_alloc_new w _,by omega,by simp only[maxLen];omega,B,?_⟩⟩,fun i j f x=> ?_⟩
      ·simp only[fJ,P7]at r;have:=h.below.size;omega
      ·grind
      ·grind
      ·rw[q]at f;obtain⟨x0,m,A⟩:=M i j f x;have Z:=tu f x;have I:i*S.size d+j < z.cells.size:=by omega
       refine⟨z.cells[i*S.size d+j],by simp[I],u.data _ _ _ au x,A.rel ?_⟩;have F:k.zero[i*S.size d+j]? =some z.cells[i*S.size d+j]:=by grind
       simp only[Qbq,F,YJ,P7]at m;rw[<-m];exact(BK _).norm)
    exact l9 s (U _ _ _ R L (J.weaken Yz) ⟨w.heap.size,n,n,upd_same _ _ _,by simp⟩)
   ·cases c
theorem ach {t:TypeId}{x y:Operand}(H:jE S)(ho:o.op= .store t x y)(hTy:∀t u,T t=some u->gW P t u)(h:Hp S w0 N blk g al w)(hx:(aN slot x).Rel S (bi N blk g) w g (a.eval x))(hy:(aN slot y).Rel S (bi N blk g) w g (a.eval y))
  (c:GK T S blk t (aN slot x) (aN slot y)=some out) (G:nJ out.pre) (hK:Post S w0 N blk g al w fr out o.dst a K):o.wp P a w K Q:=by
 unfold GK at c;split at c
 ·cases c
 ·rename_i e n sz J;obtain⟨u,te,hty,hte,hsz,h0,ZO,hag,zk,U,J9⟩:=yl hTy J;have SY:=lG U w;split at c
  ·rename_i l i j s cs ad Ew;rw[ad]at hx;rw[Ew]at hy;obtain⟨b,n',cap,X,hv⟩:=hx;split at c
   ·rename_i Y;simp only[kW]at Y;obtain⟨⟨B,O,C⟩,c4⟩:=Y;have B:=Qa B;have O:=Qa O;have C:=Qa C;subst B O C;split at c
    ·rename_i L d R;split at c
     ·rename_i d' hd;split at c
      ·rename_i D;simp only[kW]at D;have hs:=Qa D.1;have hs':=Qa D.2;injection c with c
       subst c;have G:S.len d=n:=G;obtain⟨m1,m2,m3⟩:=H.make _ _ _ _ hd;rw[Qb0]at m2;obtain⟨m,aa,p⟩:=hy;have hul:=p.length;obtain⟨v,k,hm,xs,⟨hxl,I⟩,hcell⟩:=h.dW l _ R;rw[X]at k;injection k with k
       subst k;rcases I with⟨q0,_⟩ | ⟨b',cap',f,hvv,_,hh,hnc,hcm,hcs,htake⟩
       ·cases q0
       ·injection hvv with q q2 q3
        injection q with q
        injection q with q
        subst q q2 q3;have hh':w.heap[b]? =some (.cells (f.toList).toArray L (0,0)):=by simpa using hh
        have hcap:S.len d*S.size d<=f.toList.length:=by grind
        have hlu:m.length=S.len d*S.size d:=by grind
        obtain⟨w',M,ab,F,W,r1,r2,r3⟩:=lN (P:=P) b L m w f.toList 0 0 hh' au (lD h.refs c4 p);have r:(execOp a.eval o).run P w= .ok .skip w':=by
         have E:m.length=u.size:=by grind
         simp[execOp,ho,Instr.storeAt,Instr.sureAddr,hv,storeVar,SY,aa,Value.cells,E,M]
        obtain⟨V,hk'⟩:=h.write (bk':= .row L d') R rfl rfl X rfl r1 r2 r3 W F (fun hk=>by
         refine⟨⟨hm.1,by omega,by apply H.afh;assumption⟩,m,⟨by grind, .inr ⟨b,cap,(f.toList.take (0+0)++(m++f.toList.drop (0+0+m.length))).toArray,by rw[m1,<-G],ve _,ab,by omega,hcm,?_,?_⟩⟩,fun i' j' A z=> ?_⟩
         ·grind
         ·grind
         ·rw[m1]at A;obtain⟨x0,ag,ac⟩:=m3 i' j' A z;obtain⟨uv,Z,hrv⟩:=p.norm.get _ ag;exact⟨uv,Z,H.data _ _ _ au z,(ac.rel hrv).keep hk (More.refl _)⟩)
        exact MW r (hK _ _ _ (More.refl _) hk' (V.weaken fun n F=> .inl F) trivial)
      ·cases c
     ·cases c
    ·cases c
   ·cases c
  ·cases c
theorem amK {cs:List (Lf D)}{a j:Nat}:∀(n r k:Nat),k < n->(abG cs a j r n)[k]? =some (match cs[(r+k)*a+j]? with
  | some x=>x
  | none=> .any)
 | 0,r,k,h=>by omega
 | n+1,r,0,h=>by simp[abG]
 | n+1,r,k+1,h=>by
  simp only[abG,List.getElem?_cons_succ];rw[amK n (r+1) k au,show r+1+k=r+(k+1) by omega]
theorem ag4 {k:IntKind}:∀{cs:List (Lf D)} {l:List Int},intsOf k cs=some l->∀(i:Nat) (x:Lf D),cs[i]? =some x->x= .int k (l.getD i 0)
 | [],l,h,i,x,hx=>by simp at hx
 | c::cs,l,h,i,x,hx=>by
  cases c with
  | int d n=>
   simp only[intsOf]at h;split at h
   ·rename_i a;have a:k=d:=by simpa[ZA]using a
    subst a;split at h
    ·rename_i e b;injection h with h
     subst h;cases i with
     | zero=>grind
     | succ i=>have:=ag4 b i x qcu;grind
    ·cases h
   ·cases h
  | _=>simp[intsOf]at h
theorem strs_get:∀{cs:List (Lf D)} {l:List (List UInt8)},strsOf cs=some l->∀(i:Nat) (x:Lf D),cs[i]? =some x->x= .str (l.getD i [])
 | [],l,h,i,x,hx=>by simp at hx
 | c::cs,l,h,i,x,hx=>by
  cases c with
  | str s=>
   simp only[strsOf]at h;split at h
   ·rename_i b a;injection h with h
    subst h;cases i with
    | zero=>grind
    | succ i=>have:=strs_get a i x qcu;grind
   ·cases h
  | _=>simp[strsOf]at h
theorem ZZ:∀{cs:List (Lf D)} {l:List Bool},Lu cs=some l->∀(i:Nat) (x:Lf D),cs[i]? =some x->x= .bool (l.getD i false)
 | [],l,h,i,x,hx=>by simp at hx
 | c::cs,l,h,i,x,hx=>by
  cases c with
  | bool s=>
   simp only[Lu]at h;split at h
   ·rename_i b a;injection h with h
    subst h;cases i with
    | zero=>grind
    | succ i=>have:=ZZ a i x qcu;grind
   ·cases h
  | _=>simp[Lu]at h
theorem as2 {cs:List (Lf D)}{i:Nat}{p x:Lf D}(h:ak7 cs i=some p)(b:cs[i]? =some x):x=p:=by
 unfold ak7 at h;split at h
 ·split at h
  ·rename_i l a;injection h with h;subst h;exact ag4 a i x b
  ·cases h
 ·split at h
  ·rename_i l a;injection h with h;subst h;exact strs_get a i x b
  ·cases h
 ·split at h
  ·rename_i l a;injection h with h;subst h;exact ZZ a i x b
  ·cases h
 ·cases h
theorem QE {cs:List (Lf D)}{b:List Value}{a n i:Nat}(o:bu S M w g cs b)(s:cs.length=n*a)(e:i < n):∀(m j:Nat) (c:List (Lf D)),j+m=a->pickRow cs a n i j m=some c->bu S M w g c ((b.drop (i*a+j)).take m)
 | 0,j,c,t,h=>by simp[pickRow]at h;subst h;simp[bu]
 | m+1,j,c,t,h=>by
  unfold pickRow at h;split at h
  ·rename_i x p y r;injection h with h
   subst h;have z:=tu e (show j < a by omega);have d:i*a+j < cs.length:=by omega
   have v:(abG cs a j 0 n)[i]? =some cs[i*a+j]:=by
    rw[amK n 0 i e,Dw,Qay d]
   have f:=as2 y v;obtain⟨u,A,k⟩:=o.get (i*a+j) (Qay d);have l:i*a+j < b.length:=by grind
   have q:b.drop (i*a+j)=u::b.drop (i*a+(j+1)):=by
    rw[Qb l]
    grind
   rw[q,Qcx];exact⟨f▸k,QE o s e m (j+1) p au r⟩
  ·cases h
theorem ae2 {t:TypeId}{x s:Operand}(X:o.op= .index t x s)(J:∀t D,T t=some D->gW P t D)(h:Hp S w0 N blk g al w)(V:(aN slot x).Rel S (bi N blk g) w g (a.eval x))
  (q:(aN slot s).Rel S (bi N blk g) w g (a.eval s)) (b:ad8 T t (aN slot x) (aN slot s)=some out) (M:nJ out.pre) (U:Post S w0 N blk g al w fr out o.dst a K):o.wp P a w K Q:=by
 unfold ad8 at b;split at b
 ·cases b
 ·rename_i e n c C;obtain⟨D,te,hty,W,B,h0,ZO,hag,G,hok,R⟩:=zx J C;rw[W]at b;dsimp only at b;have A:=lG R w;have z:=yF R w;split at b
  ·rename_i cs k m F E;rw[F]at V;rw[E]at q;simp only[Sl.Rel,Sv.Rel,Lf.Rel]at q;obtain⟨d,L,hr⟩:=V;split at b
   ·rename_i Y;simp only[kW]at Y;have hl:=Qa Y.1;split at b
    ·rename_i I H;have y:0<=m/\m < n->bu S (bi N blk g) w g I ((d.drop (m.toNat*c)).take c):=fun hm=>by
      have:=QE hr.norm rf (show m.toNat < n by omega) c 0 I au H;omega
     split at b
     ·rename_i j;injection b with b
      subst b;obtain⟨p,i⟩:=M;have f:=y ⟨p,i⟩;refine bz (v:= .agg ((d.drop (m.toNat*c)).take c).toArray) ?_ h U rfl ⟨_,rfl,f⟩;have he:d.toArray.extract (m.toNat*c) (m.toNat*c+c)=((d.drop (m.toNat*c)).take c).toArray:=by
       grind
      simp[execOp,X,Instr.index,q,asIntOf,run_underlying G,L,p,i,part,z,j,A,B,he]
     ·rename_i j;split at b
      ·rename_i l;injection b with b
       subst b;obtain⟨p,i⟩:=M;have f:=y ⟨p,i⟩;have Z:=f.length;cases O:(d.drop (m.toNat*c)).take c with
       | nil=>grind
       | cons u r=>
        rw[O]at f Z;have hu:d[m.toNat*c]? =some u:=by
         have:((d.drop (m.toNat*c)).take c)[0]? =some u:=by rw[O];rfl
         grind
        refine bz (v:=u) ?_ h U rfl f.1;simp[execOp,X,Instr.index,q,asIntOf,run_underlying G,L,p,i,part,z,j,A,B,hu]
      ·cases b
    ·cases b
   ·cases b
  ·cases b
theorem adi {t:TypeId}{parts:Array (Nat×Operand)}(G:o.op= .build t parts)(m:∀t k,T t=some k->gW P t k)(h:Hp S w0 N blk g al w)
  (A:∀t,(slot t).Rel S (bi N blk g) w g (a.tmps.getD t undef)) (b:UK T slot t parts=some out) (F:Post S w0 N blk g al w fr out o.dst a K):o.wp P a w K Q:=by
 unfold UK at b;split at b
 ·cases b
 ·rename_i e n sz j;obtain⟨k,L,y,I,u,J,M,H,C,q,E⟩:=zx m j;rw[y]at b;dsimp only at b;split at b
  ·rename_i cs B;injection b with b
   subst b;obtain⟨z,D,r⟩:=D6 q w;have s:=lG E w;obtain⟨d,c,l⟩:=WQ (a:=a) (sz:=sz) h.refs A parts.toList _ cs z.cells (by rw[r];exact uk _) B;refine bz (v:= .agg d) ?_ h F rfl ⟨d.toList,by simp,l⟩;have f:parts.toList.map (fun p=>(p.1,a.eval p.2))=(parts.map fun(i,x)=>(i,a.eval x)).toList:=by simp
   rw[f]at c;simp at c;simp[execOp,G,Instr.build,D,run_underlying C,s,u,c]
  ·cases b
theorem ZW {E:TypeId}{d p z l:D}{b i j n f:Nat}{F:List (Lf D)}{zv:List Value}{cur a:Array Value}{e:TypeId}(s:jE S)(hm:w0.Mine b)(aa:S.len d<=9223372036854775807)
  (Z:i<=j) (hj:j=S.len d) (H:n=S.len d) (y:S.sub d 0 i=some p) (P:S.zero e (j - i) F=some z) (J:S.cat p z=some l)
  (A:∀r c,r < S.len d->c < S.size d->∃u,cur[r*S.size d+c]? =some u/\(S.cell d r c).kF=true/\(S.cell d r c).Rel S M w' g u)
  (C:bu S M w' g F zv) (w:n<=f) (N:f<=maxLen) (G:a.size=f*S.size d)
  (R:w'.heap[b]? =some (.cells a E (0,0))) (X:∀k,k < i*S.size d->a[k]? =cur[k]?) (h2:∀r c,i<=r->r < j->c < S.size d->a[r*S.size d+c]? =zv[c]?):
  zi S M w' g w0 (.row E l) (.slice (some ⟨b,0,none⟩) n f):=by
 obtain⟨a1,a2,a3⟩:=s.sub _ _ _ _ y (ve _) au;obtain⟨z1,z2,Y⟩:=s.zero _ _ _ _ P;obtain⟨V,U,c3,c4,c5⟩:=s.cat _ _ _ J;have o:S.size l=S.size d:=by rw[<-V,a1]
 have Q:S.size z=S.size d:=by rw[U,o]
 have h:S.len l=S.len d:=by omega
 have v:S.len d*S.size d<=a.size:=by rw[G,<-H];exact Zh _ w
 refine⟨⟨fun b' O=>by simp only[fJ,P7]at O;grind,by omega,s.Y_ _ _ _ J⟩,a.toList.take (S.len d*S.size d),⟨?_, .inr ⟨b,f,a,by rw[h,H],ve _,R,by omega,N,by grind,by rw[h,o]⟩⟩,fun r c B t=> ?_⟩
 ·grind
 ·rw[h]at B;rw[o]at t;have K:=tu B t;have q:=s.data l r c au au;rw[o,Qcp,yY K,Array.getElem?_toList];by_cases I:r < i
  ·obtain⟨u,T,q2,q3⟩:=A r c B t;have m:S.cell l r c=S.cell d r c:=by
    grind
   refine⟨u,by rw[X _ (by have:=tu I t;omega)];exact T,q,by grind⟩
  ·have m:S.cell l r c=S.cell z (r - i) c:=by
    grind
   obtain⟨x,W,v⟩:=Y (r - i) c au au;obtain⟨u,hu,L⟩:=C.get c W;refine⟨u,by grind,q,by rw[m];exact v.rel L⟩
theorem Pz {z:Array Value}{n k:Nat}(a:k < n*z.size):(Builtin.zeroCells z n).toList[k]? =z[k % z.size]? :=by
 have b:0 < z.size:=by
  grind
 have c:k % z.size < z.size:=Qcw _ b;simp[Builtin.zeroCells,a,c]
theorem ahE {c:Call}{x:Operand}(F:jE S)(ho:o.op= .call c)(E:c.callee= .builtin .clear)(hargs:c.args.toList=[x])(hTy:∀t ty,T t=some ty->gW P t ty)(h:Hp S w0 N blk g al w)(hx:(aN slot x).Rel S (bi N blk g) w g (a.eval x))
  (s:OB T S blk c.argTypes (aN slot x)=some out) (hp:nJ out.pre) (hK:Post S w0 N blk g al w fr out o.dst a K):o.wp P a w K Q:=by
 unfold OB at s;split at s
 ·rename_i t hts;split at s
  ·cases s
  ·rename_i ty hty;split at s
   ·cases s
   ·rename_i e hel;split at s
    ·cases s
    ·rename_i te hte;split at s
     ·rename_i l i j y f hex;rw[hex]at hx;obtain⟨av,n,aa,O,C,hij,hjn,_⟩:=hx;split at s
      ·rename_i Z d R;split at s
       ·rename_i I;simp only[kW]at I;obtain⟨q1,q2,q3,q4⟩:=I;have q1:=Qa q1;have q2:=Qa q2;have q3:0 < y:=by simp_all
        have q4:=Qa q4;split at s
        ·rename_i p z G hz;split at s
         ·rename_i d' IB;injection s with s
          subst s;have hj:j=S.len d:=hp;have ab:=lY (hTy _ _ hty) hel;obtain⟨zv,hzv,hzc⟩:=D6 (hTy _ _ hte) w;have hzs:zv.cells.size=y:=by grind
          obtain⟨v,A,hm,xs,⟨hxl,hown⟩,hcell⟩:=h.dW l _ R;rw[O]at A;injection A with A
          have X:c.args= #[x]:=by grind
          have W:c.argTypes= #[t]:=by grind
          rcases hown with⟨h0,hn0⟩ | ⟨b,cap',cur,hvv,_,hh,hnc,hcm,hcs,htake⟩
          ·rw[h0]at A;injection A with e1 e2 e3
           subst e1 e2 e3;have hj0:j=0:=by omega
           have hi0:i=0:=by omega
           subst hj0 hi0;obtain⟨a1,a2,a3⟩:=F.sub _ _ _ _ G (ve _) au;obtain⟨z1,z2,z3⟩:=F.zero _ _ _ _ hz;obtain⟨c1,c2,c3,c4,c5⟩:=F.cat _ _ _ IB;have hl0:S.len d'=0:=by rw[c3,a2,z1]
           obtain⟨g1,g2⟩:=h.al2 (bk':= .row Z d') R rfl rfl O ⟨⟨fun b R=>by grind,by omega,F.Y_ _ _ _ IB⟩,[],⟨by simp[hl0], .inl ⟨rfl,hl0⟩⟩,fun r c hr=>by omega⟩;have B:(execOp a.eval o).run P w= .ok (.value (.tuple #[])) w:=by
            have C:a.eval x= .slice none 0 0:=by rw[C];simp[sliced]
            simp[execOp,ho,resolve,E,invoke,builtin,X,W,Builtin.clear_,run_underlying ab,C]
           exact l9 B (hK _ _ _ (More.refl _) g2 (g1.weaken fun n H=> .inl H) ⟨[],rfl,trivial⟩)
          ·rw[hvv]at A;injection A with e1 e2 e3
           subst e1 e2 e3;have V:∀r c,r < S.len d->c < S.size d->∃u,cur[r*S.size d+c]? =some u/\(S.cell d r c).kF=true/\(S.cell d r c).Rel S (bi N blk g) w g u:=by
            grind
           have hmb:w0.Mine b:=hm.1 b (by rw[hvv];rfl);have J:bu S (bi N blk g) w g (te.zero.map fun v=>(zf v:Lf D).norm) zv.cells.toList:=by
            have:=(uk (D:=D) (S:=S) (M:=bi N blk g) (w:=w) (g:=g) te.zero).norm;rw[Qc3,<-hzc]at this;rw[<-hzc];exact this
           by_cases hlt:i < j
           ·have aMC:¬aa=i:=by omega
            have hva:a.eval x= .slice (some ⟨b,i*y,none⟩) (j - i) (aa - i):=by rw[C];simp[sliced,aMC,l_]
            have hh':w.heap[b]? =some (.cells (cur.toList).toArray Z (0,0)):=by simpa using hh
            have hul:(Builtin.zeroCells zv.cells (j - i)).toList.length=(j - i)*y:=by rw[Qbf,size_zeroCells,hzs]
            have hji:i*y+(j - i)*y=j*y:=by rw[<-Qbl];congr 1;omega
            have hjc:j*y<=cur.toList.length:=by grind
            have hone:(Builtin.zeroCells zv.cells (j - i)).toList.all one'=true:=by
             rw[Qa2];intro u hu;obtain⟨k,Y,rfl⟩:=Qdl hu;have ac:k < (j - i)*zv.cells.size:=by grind
             have O:=Pz ac;rw[Qay Y]at O;have hmem:(Builtin.zeroCells zv.cells (j - i)).toList[k]∈zv.cells.toList:=by
              grind
             obtain⟨m,hm',he⟩:=Qdl hmem;obtain⟨x0,hx0,hxr⟩:∃x0:Lf D,(te.zero.map fun v=>(zf v:Lf D).norm)[m]? =some x0/\x0.Rel S (bi N blk g) w g zv.cells.toList[m]:=by
              have hlm:=J.length;have hm2:m < (te.zero.map fun v=>(zf v:Lf D).norm).length:=by omega
              obtain⟨u,hu1,hu2⟩:=J.get m (Qay hm2)
              grind
             obtain⟨z1,z2,z3⟩:=F.zero _ _ _ _ hz;have hmz:m < S.size z:=by grind
             obtain⟨x1,L,hle⟩:=z3 0 m au hmz;rw[hx0]at L;injection L with L
             subst L;have:=MG (F.data z 0 m au hmz) (hle.rel hxr);rw[<-he];exact this
            obtain⟨w',B,hb',H,hsm,r1,r2,r3⟩:=lN (P:=P) b Z (Builtin.zeroCells zv.cells (j - i)).toList w cur.toList (i*y) 0 hh' au hone;generalize U:(Builtin.zeroCells zv.cells (j - i)).toList=us at*;obtain⟨hp',ac⟩:=h.write (bk':= .row Z d') R rfl rfl O rfl r1 r2 r3 hsm H (fun Y=>
             ZW (cur:=cur) (zv:=zv.cells.toList) F hmb hm.2.1 hij hj rfl G hz IB (fun r c hr E=>by obtain⟨u,u1,u2,u3⟩:=V r c hr E;exact⟨u,u1,u2,u3.keep Y (More.refl _)⟩)
              (J.keep Y (More.refl _)) hnc hcm (by
               grind) hb' (fun k Y=>by
               grind)
              (fun r c hr1 hr2 E=>by
               rw[<-q2]at E⊢;have hpos:i*y<=r*y:=Zh _ hr1;have hrc:r*y+c - i*y=(r - i)*y+c:=by rw[Qd8];omega
               have hlu:(r - i)*y+c < us.length:=by
                rw[hul];exact tu au E
               rw[List.getElem?_toArray,Qbd rf];have hidx:r*y+c - (cur.toList.take (i*y+0)).length=(r - i)*y+c:=by
                grind
               rw[hidx,Qdi hlu,<-U,Pz rf,hzs,Qcl,Qd1,Qcm E,Array.getElem?_toList]))
            have hrun':(execOp a.eval o).run P w= .ok (.value (.tuple #[])) w':=by
             obtain⟨m,hm'⟩:∃m,j - i=m+1:=⟨j - i - 1,by omega⟩;rw[hm']at hva U;simp[execOp,ho,resolve,E,invoke,builtin,X,W,Builtin.clear_,run_underlying ab,hva,hzv,U,B]
            exact l9 hrun' (hK _ _ _ (More.refl _) ac (hp'.weaken fun n H=> .inl H) ⟨[],rfl,trivial⟩)
           ·have hie:i=j:=by omega
            subst hie;obtain⟨g1,g2⟩:=h.al2 (bk':= .row Z d') R rfl rfl O (ZW (cur:=cur) (zv:=zv.cells.toList) F hmb hm.2.1 hij hj rfl G hz IB V J hnc hcm hcs hh (fun _ _=>rfl) (fun r c h1 h2=>by omega));have B:(execOp a.eval o).run P w= .ok (.value (.tuple #[])) w:=by
             have C:∃q,a.eval x= .slice (some q) 0 (aa - i):=by
              rw[C];unfold sliced
              grind
             obtain⟨q,C⟩:=C;simp[execOp,ho,resolve,E,invoke,builtin,X,W,Builtin.clear_,run_underlying ab,C]
            exact l9 B (hK _ _ _ (More.refl _) g2 (g1.weaken fun n H=> .inl H) ⟨[],rfl,trivial⟩)
         ·cases s
        ·cases s
       ·cases s
      ·cases s
     ·cases s
 ·cases s
theorem apN (e:∀t A,T t=some A->gW P t A)(v:∀f u,Γ f=some u->gZ P S f u)(q:jE S)(h:Hp S w0 N blk g al w)(r:∀n,fr<=n->n < fr+64->¬al n)
  (s:∀t,(slot t).Rel S (bi N blk g) w g (a.tmps.getD t undef)) (j:apB T S Γ slot blk fr o.op=some out) (m:nJ out.pre) (k:Post S w0 N blk g al w fr out o.dst a K):o.wp P a w K Q:=by
 unfold apB at j;split at j
 ·rename_i B d;injection j with j
  subst j;have l:=qh s;unfold Eo at d;split at d
  ·rename_i t b;exact ae3 q b e h r d k
  ·rename_i t x b;exact agZ b e h (l x) d m k
  ·rename_i t x y b;exact ach q b e h (l x) (l y) d m k
  ·rename_i t x i b;exact aei b e h (l x) (l i) d m k
  ·rename_i t x i b;exact ae2 b e h (l x) (l i) d m k
  ·rename_i t parts b;exact adi b e h s d k
  ·rename_i c b;split at d
   ·rename_i z;split at d
    ·rename_i x p;exact ahE q b z p e h (l x) d m k
    ·cases d
   ·cases d
  ·rename_i t x b;exact apX b e h (l x) d k
  ·rename_i x C t b;exact adO b e h (l x) d m k
  ·cases d
 ·exact apn e v q h r s j m k
end
end Go.Vc
namespace Go.Vc
open Go.RowKit
def tC (s:List UInt8)(p:Nat):Int:=((Utf8.decode ⟨s.toArray⟩ p).1:Nat)
def Bq (s:List UInt8)(p:Nat):Nat:=(Utf8.decode ⟨s.toArray⟩ p).2
section
variable {D:Type}
def akg (T:TypeId->Option Ty)(a:Nat)(t:TypeId)(x:Sl D):Option (Out D):=
 match T t with
 | none=>none
 | some b=>(match x with
  | .one (.lf (.str s))=>if Nat.beq b.kind 3 then some ⟨none, .one (.lf (.ptr a 0)),[(a,some (.iter s 0))]⟩else none
  | _=>none)
def asF (T:TypeId->Option Ty)(S:Sh D)(d:FuncId->Option (Ct D))(a:Nat->Sl D)(c:Nat->Option (Bk D))(b:Nat)(op:Op):Option (Out D):=
 match op with
 | .range t x=>akg T b t (aN a x)
 | op=>apB T S d a c b op
def Yh (a:Nat->Sl D)(b:Nat->Option (Bk D))(d:Op):Option (Bool×Out D×Out D):=
 match d with
 | .next c true=>(match aN a c with
  | .one (.lf (.ptr l o))=>if Nat.beq o 0 then(match b l with
   | some (.iter s p)=>some (decide (p < s.length),⟨none, .x8 [.lf (.val (.bool true)), .lf (.int .i64 p), .lf (.int .i32 (tC s p))],[(l,some (.iter s (p+Bq s p)))]⟩,⟨none, .x8 [.lf (.val (.bool false))],[]⟩)
   | _=>none)else none
  | _=>none)
 | _=>none
end
section
variable {D:Type}{P:Program}{S:Sh D}{T:TypeId->Option Ty}{Γ:FuncId->Option (Ct D)}{M M' N:Nat->Prop}{w w':World}{w0:Bs}{g g':Nat->Option Value}{blk blk':Nat->Option (Bk D)}{al:Nat->Prop}
 {a:Act} {o:Oper} {K:Act->World->Prop} {Q:Exit->Act->World->Prop} {slot dE:Nat->Sl D} {out:Out D} {fr:Nat}
theorem afD {t:TypeId}{x:Operand}(E:o.op= .range t x)(p:∀t j,T t=some j->gW P t j)(h:Hp S w0 N blk g al w)(q:∀n,fr<=n->n < fr+64->¬al n)(f:(aN slot x).Rel S (bi N blk g) w g (a.eval x))
  (c:akg T fr t (aN slot x)=some out) (C:Post S w0 N blk g al w fr out o.dst a K):o.wp P a w K Q:=by
 unfold akg at c;split at c
 ·cases c
 ·rename_i j u;split at c
  ·rename_i s m;rw[m]at f;simp only[Sl.Rel,Sv.Rel,Lf.Rel]at f;split at c
   ·rename_i e;have e:=Qa e;obtain⟨d,r,k⟩:=oJ (p _ _ u);rw[e]at k;have r:P.underlying t=some .string:=by cases d<;>simp_all [kindOf]
    injection c with c
    subst c;have i:(execOp a.eval o).run P w= .ok (.value (.pointer (some ⟨w.heap.size,0,none⟩))) (w.alloc (.stringIter ⟨s.toArray⟩ 0)):=by
     simp[execOp,E,Instr.range,f.1,run_underlying r,newObj,Sem.run]
    have D:Below w.heap.size w (w.alloc (.stringIter ⟨s.toArray⟩ 0)):=(Below.refl w.heap.size w).alloc (nO _) _;obtain⟨y,z,B⟩:=h.add (l:=fr) (bk:= .iter s 0) (v:= .pointer (some ⟨w.heap.size,0,none⟩)) D (q fr (nO _) au) (fun b A=>by simp[fJ]at A;omega)
     (fun M' e _=>⟨f.2,w.heap.size,rfl, .inl h.below.size,heap_alloc_new w _⟩)
    exact l9 i (C _ _ _ B z (y.weaken Yz) ⟨w.heap.size,upd_same _ _ _,rfl⟩)
   ·cases c
  ·cases c
theorem run_next_at {s:ByteArray}{p b:Nat}{ty:TypeId}(a:w.heap[b]? =some (.stringIter s p))(h:p < s.size):(Instr.next (.pointer (some ⟨b,0,none⟩)) true ty).run P w=
  .ok (.tuple #[.bool true, .int .i64 p, .int .i32 ((Utf8.decode s p).1:Nat)]) {w with heap:=w.heap.setIfInBounds b (.stringIter s (p+(Utf8.decode s p).2))}:=by
 simp only[Instr.next,getObj,setObj,Sem.run_bind,Sem.run,a,Result.andThen,h,if_true];simp[goInt]
theorem aiq {s:ByteArray}{p b:Nat}{ty:TypeId}(a:w.heap[b]? =some (.stringIter s p))(h:¬p < s.size):(Instr.next (.pointer (some ⟨b,0,none⟩)) true ty).run P w= .ok (.tuple #[.bool false]) w:=by
 simp[Instr.next,getObj,Sem.run,a,h]
theorem akM {b:Bool}{q y:Out D}(h:Hp S w0 N blk g al w)(J:∀t,(slot t).Rel S (bi N blk g) w g (a.tmps.getD t undef))
  (d:Yh slot blk o.op=some (b,q,y)) (k:Post S w0 N blk g al w fr (bif b then q else y) o.dst a K):o.wp P a w K Q:=by
 have O:=qh J;unfold Yh at d;split at d
 ·rename_i H E;have i:=O H;split at d
  ·rename_i l R r;rw[r]at i;split at d
   ·rename_i f;have f:=Qa f;subst f;obtain⟨C,F,i⟩:=i;split at d
    ·rename_i s p x;injection d with d
     injection d with U d
     injection d with M L
     obtain⟨v,c,B,X,rfl,I,m⟩:=h.dW l _ x;rw[F]at c;injection c with c
     injection c with c
     injection c with c
     injection c with c
     subst c;have T:(ByteArray.mk s.toArray).size=s.length:=by rfl
     by_cases W:p < s.length
     ·have j:b=true:=by grind
      subst j;rw[uu]at k;subst M;have e:=run_next_at (P:=P) (ty:=o.type) m au;have A:=G5 m;obtain⟨z,G⟩:=h.write (w':={w with heap:=w.heap.setIfInBounds C (.stringIter ⟨s.toArray⟩ (p+Bq s p))}) (bk':= .iter s (p+Bq s p)) x rfl rfl F rfl rfl rfl rfl qb
       (fun n u=>by
        grind) (fun V=>⟨B,C,rfl,I,by simp[A]⟩)
      refine l9 (v:= .tuple #[.bool true, .int .i64 p, .int .i32 (tC s p)]) ?_ (k _ _ _ (More.refl _) G (z.weaken fun n u=> .inl u) ⟨[.bool true, .int .i64 p, .int .i32 (tC s p)],rfl,rfl,rfl,rfl,trivial⟩);simp only[execOp,E,i,Sem.run_bind,e,Result.andThen_ok,Sem.run_pure];rfl
     ·have j:b=false:=by grind
      subst j;rw[mX]at k;subst L;have e:=aiq (P:=P) (ty:=o.type) m au;refine bz (v:= .tuple #[.bool false]) ?_ h k rfl ⟨[.bool false],rfl,rfl,trivial⟩;simp only[execOp,E,i,Sem.run_bind,e,Result.andThen_ok,Sem.run_pure]
    ·cases d
   ·cases d
  ·cases d
 ·cases d
end
end Go.Vc
