/- Own engine: Vdh, Vdt, Vdu, Vdv, Vdw. -/
import Derived.Test.YtenjjcfebflefaaGreatDoorEng3
import Derived.Laws.RangeString
set_option linter.unusedVariables false
set_option linter.unusedSimpArgs false
namespace Go.Vc
open Go.RowKit
section
variable {D:Type}{P:Program}{S:Sh D}{T:TypeId->Option Ty}{Γ:FuncId->Option (Ct D)}{M M' N:Nat->Prop}{w w':World}{w0:Bs}{g g':Nat->Option Value}{blk blk':Nat->Option (Bk D)}{al:Nat->Prop}
 {a:Act} {o:Oper} {K:Act->World->Prop} {Q:Exit->Act->World->Prop} {slot:Nat->Sl D} {out:Out D} {fr:Nat} {ids jB:List Nat}
structure asK (N:Nat->Prop)(blk:Nat->Option (Bk D))(g:Nat->Option Value)(jB:List Nat)(M':Nat->Prop):Prop where
 sub:∀b,M' b->aY N blk g b
 off:∀l∈jB,∀v b,hot (blk l)=true->g l=some v->eH v=some b->¬M' b
theorem Lf.Rel.view (B:iZ S){x:Lf D}{v:Value}(h:Hp S w0 N blk g al w)(m:asK N blk g jB M')(z:∀l∈x.owns,l∈jB)(k:x.Rel S (aY N blk g) w g v):(x.view blk).Rel S M' w g v:=by
 cases x with
 | own l=>
  have k:g l=some v:=k;simp only[Lf.view];split
  ·rename_i e d hb;exact OH h hb k m.sub (fun b q=>m.off l (z l (by simp[Lf.owns])) v b qc k q)
  ·rename_i d hb;exact al5 B h qc k m.sub (fun b q=>m.off l (z l (by simp[Lf.owns])) v b qc k q)
  ·rename_i d hb;obtain⟨I,c,s⟩:=h.dD l _ hb;rw[k]at c;injection c with c
   subst c;exact dF.mono s m.sub
  ·exact k
 | part l i j E f=>
  obtain⟨C,n,p,t,rfl,u,A,rfl⟩:=k;have y:∀d r,dF S M' w d (.slice C n p)->aaU S E i j d=some r->dF S M' w r (sliced C i j p E):=by
   intro d r H o;unfold aaU at o;split at o
   ·rename_i F;have F:=Qa F;obtain⟨K,J,G,_⟩:=dF.slice' H (B.Ht _ _ _ _ o).1;injection G with _ G _
    have:=IC B H o u au
    grind
   ·cases o
  simp only[Lf.view];split
  ·rename_i e d hb;split
   ·rename_i r o;exact y d r (OH h hb t m.sub (fun b q=>m.off l (z l (by simp[Lf.owns])) _ b qc t q)) o
   ·trivial
  ·rename_i d hb;split
   ·rename_i r o;obtain⟨I,c,s⟩:=h.dD l _ hb;rw[t]at c;injection c with c
    subst c;exact y d r (dF.mono s m.sub) o
   ·trivial
  ·exact⟨C,n,p,t,rfl,u,A,rfl⟩
 | dat d=>exact dF.mono k m.sub
 | elt d i j=>obtain⟨a,n,p,u,A⟩:=k;exact⟨a,n,p,u.mono m.sub,A⟩
 | xt e=>exact Xt.Rel.mono k m.sub
 | _=>exact k
theorem bf.view (e:iZ S)(h:Hp S w0 N blk g al w)(d:asK N blk g jB M'):∀{a:List (Lf D)} {b:List Value},(∀l∈a.flatMap Lf.owns,l∈jB)->bf S (aY N blk g) w g a b->bf S M' w g (a.map (Lf.view blk)) b
 | [],[],_,_=>trivial
 | x::a,v::b,c,f=>⟨f.1.view e h d (fun l hl=>c l qcd),bf.view e h d (fun l hl=>c l qg) f.2⟩
theorem Sv.Rel.view (c:iZ S){x:Sv D}{v:Value}(h:Hp S w0 N blk g al w)(b:asK N blk g jB M')(a:∀l∈x.owns,l∈jB)(d:x.Rel S (aY N blk g) w g v):(x.view blk).Rel S M' w g v:=by
 cases x with
 | lf x=>exact Lf.Rel.view c h b a d
 | agg j=>obtain⟨f,i,e⟩:=d;exact⟨f,i,e.view c h b a⟩
theorem iE.view (e:iZ S)(h:Hp S w0 N blk g al w)(d:asK N blk g jB M'):∀{a:List (Sv D)} {b:List Value},(∀l∈a.flatMap Sv.owns,l∈jB)->iE S (aY N blk g) w g a b->iE S M' w g (a.map (Sv.view blk)) b
 | [],[],_,_=>trivial
 | x::a,v::b,c,f=>⟨f.1.view e h d (fun l hl=>c l qcd),iE.view e h d (fun l hl=>c l qg) f.2⟩
theorem Sl.Rel.view (c:iZ S){x:Sl D}{v:Value}(h:Hp S w0 N blk g al w)(b:asK N blk g jB M')(a:∀l∈x.owns,l∈jB)(d:x.Rel S (aY N blk g) w g v):(x.view blk).Rel S M' w g v:=by
 cases x with
 | one x=>exact Sv.Rel.view c h b a d
 | wU j=>obtain⟨f,i,e⟩:=d;exact⟨f,i,e.view c h b a⟩
theorem ik.view (e:iZ S)(h:Hp S w0 N blk g al w)(d:asK N blk g jB M'):∀{a:List (Sl D)} {b:List Value},(∀l∈a.flatMap Sl.owns,l∈jB)->ik S (aY N blk g) w g a b->ik S M' w g (a.map (Sl.view blk)) b
 | [],[],_,_=>trivial
 | x::a,v::b,c,f=>⟨f.1.view e h d (fun l hl=>c l qcd),ik.view e h d (fun l hl=>c l qg) f.2⟩
theorem ik.less (d:∀b,M' b->M b):∀{c:List (Sl D)} {a:List Value},ik S M w g c a->ik S M' w g c a
 | [],[],_=>trivial
 | x::c,v::a,i=>by
  refine⟨?_,ik.less d i.2⟩;have:=i.1.ren (g':=g) (M':=M') (f:=fun l=>l) (fun _ _ _ k=>k) (fun _=>d);have e:x.ren (fun l=>l)=x:=by
   have j:∀y:Lf D,y.ren (fun l=>l)=y:=fun y=>by cases y<;>simp[Lf.ren]
   have h:∀y:Sv D,y.ren (fun l=>l)=y:=fun y=>by cases y with
    | lf y=>simp[Sv.ren,j]
    | agg m=>simp only[Sv.ren];congr 1;exact(Qbb fun y _=>j y).trans (Qel _)
   cases x with
   | one y=>simp[Sl.ren,h]
   | wU m=>simp only[Sl.ren];congr 1;exact(Qbb fun y _=>h y).trans (Qel _)
  rwa [e]at this
theorem ik.app:∀{b c:List (Sl D)} {a d:List Value},ik S M w g b a->ik S M w g c d->ik S M w g (b++c) (a++d)
 | [],_,[],_,_,h=>h
 | _::_,_,_::_,_,h,e=>⟨h.1,ik.app h.2 e⟩
theorem eu:∀(r ids:List Nat) (l:Nat),l∈mQ ids r ↔ l∈ids\/l∈r
 | [],ids,l=>by simp[mQ]
 | x::r,ids,l=>by
  unfold mQ;rw[eu r];split
  ·rename_i a;have:=gJ.1 a
   grind
  grind
theorem aoK {x:Lf D}{l:Nat}(a:l∈x.owns):((∃d,rwD (blk l)=some d)\/hot (blk l)=false\/l∈(x.view blk).refs):=by
 cases x with
 | own b=>
  simp[Lf.owns]at a;subst a;simp only[Lf.view];split
  ·rename_i e d hb;exact .inl ⟨d,by rw[hb];rfl⟩
  ·rename_i d hb;exact .inl ⟨d,by rw[hb];rfl⟩
  ·rename_i d hb;exact .inr (.inl qc)
  ·exact .inr (.inr qbx)
 | part b i j c f=>
  simp[Lf.owns]at a;subst a;simp only[Lf.view];split
  ·rename_i e d hb;exact .inl ⟨d,by rw[hb];rfl⟩
  ·rename_i d hb;exact .inr (.inl qc)
  ·exact .inr (.inr qbx)
 | _=>simp[Lf.owns]at a
theorem aod {x:Sv D}{l:Nat}(a:l∈x.owns):((∃d,rwD (blk l)=some d)\/hot (blk l)=false\/l∈(x.view blk).refs):=by
 cases x with
 | lf x=>exact aoK a
 | agg c=>
  obtain⟨y,b,a⟩:=zL.1 a;rcases aoK (blk:=blk) a with h | h | h
  ·exact .inl h
  ·grind
  ·exact .inr (.inr (zL.2 ⟨_,JC.2 ⟨y,b,rfl⟩,h⟩))
theorem an1 {x:Sl D}{l:Nat}(a:l∈x.owns):((∃d,rwD (blk l)=some d)\/hot (blk l)=false\/l∈(x.view blk).refs):=by
 cases x with
 | one x=>exact aod a
 | wU c=>
  obtain⟨y,b,a⟩:=zL.1 a;rcases aod (blk:=blk) a with h | h | h
  ·exact .inl h
  ·grind
  ·exact .inr (.inr (zL.2 ⟨_,JC.2 ⟨y,b,rfl⟩,h⟩))
theorem atb {x:Lf D}{v:Value}{l:Nat}(b:x.Rel S M w g v)(a:l∈x.owns):∃u,g l=some u:=by
 cases x with
 | own c=>simp[Lf.owns]at a;subst a;exact⟨v,b⟩
 | part c i j e f=>simp[Lf.owns]at a;subst a;obtain⟨k,n,d,h,_⟩:=b;grind
 | _=>simp[Lf.owns]at a
theorem anG {l:Nat}:∀{b:List (Lf D)} {c:List Value},bf S M w g b c->l∈b.flatMap Lf.owns->∃u,g l=some u
 | [],[],_,a=>by simp at a
 | x::b,v::c,d,a=>by
  rw[Qcc,vN]at a;exact a.elim (atb d.1) (anG d.2)
theorem avr {x:Sv D}{v:Value}{l:Nat}(b:x.Rel S M w g v)(a:l∈x.owns):∃u,g l=some u:=by
 cases x with
 | lf x=>exact atb b a
 | agg e=>obtain⟨d,_,c⟩:=b;exact anG c a
theorem aoe {l:Nat}:∀{b:List (Sv D)} {c:List Value},iE S M w g b c->l∈b.flatMap Sv.owns->∃u,g l=some u
 | [],[],_,a=>by simp at a
 | x::b,v::c,d,a=>by
  rw[Qcc,vN]at a;exact a.elim (avr d.1) (aoe d.2)
theorem aDs {x:Sl D}{v:Value}{l:Nat}(b:x.Rel S M w g v)(a:l∈x.owns):∃u,g l=some u:=by
 cases x with
 | one x=>exact avr b a
 | wU e=>obtain⟨d,_,c⟩:=b;exact aoe c a
theorem adR {l:Nat}:∀{b:List (Sl D)} {c:List Value},ik S M w g b c->l∈b.flatMap Sl.owns->∃u,g l=some u
 | [],[],_,a=>by simp at a
 | x::b,v::c,d,a=>by
  rw[Qcc,vN]at a;exact a.elim (aDs d.1) (adR d.2)
theorem abD:∀{a:List Nat} {d:List Value},a.map g=d.map some->(∀l∈a,∃b,g l=some (.pointer (some ⟨b,0,none⟩)))->ik S M w g (a.map fun l=> .one (.lf (.ptr l 0))) d
 | [],[],_,_=>trivial
 | c::a,v::d,h,e=>by
  simp only[Lj,Qdv]at h;obtain⟨b,f⟩:=e c kM;refine⟨⟨b,f,?_⟩,abD h.2 fun l hl=>e l qcd⟩
  grind
 | [],_::_,h,_=>by simp at h
 | _::_,[],h,_=>by simp at h
theorem alx (T:iZ S){c:Call}{f:FuncId}{k:List Nat}{L:Operand}(ho:o.op= .call c)(hc:c.callee= .value L)(hf:aG slot L= .one (.lf (.fn f k)))(W:∀f z,Γ f=some z->fK P S f z)(h:Hp S w0 N blk g al w)(H:∀n,fr<=n->n < fr+64->¬al n)
  (hs:∀t,(slot t).Rel S (aY N blk g) w g (a.tmps.getD t undef)) (i:JF Γ f blk (c.args.toList.map (aG slot)++k.map fun l=> .one (.lf (.ptr l 0))) fr=some out) (hp:nH out.pre) (aIn:k.all (fun l=>isCells (blk l))=true) (hK:Post S w0 N blk g al w fr out o.dst a K):o.wp P a w K Q:=by
 have J:=pR hs L;rw[hf]at J;obtain⟨r,hcv,hcg⟩:=J;have Y:∀l∈k,∃b,g l=some (.pointer (some ⟨b,0,none⟩)):=by
  intro l m;have:=Qbd.1 aIn l m;cases j:blk l with
  | none=>rw[j]at this;simp[isCells]at this
  | some bk=>
   cases bk with
   | cells cs=>obtain⟨v,X,b,vs,t,rfl,_⟩:=h.dD l _ j;grind
   | row e d=>rw[j]at this;simp[isCells]at this
   | xZ d=>rw[j]at this;simp[isCells]at this
   | iter s p=>rw[j]at this;simp[isCells]at this
   | map kvs=>rw[j]at this;simp[isCells]at this
   | tc t cs=>rw[j]at this;simp[isCells]at this
 have G:ik S (aY N blk g) w g (c.args.toList.map (aG slot)++k.map fun l=> .one (.lf (.ptr l 0))) (c.args.toList.map a.eval++r):=(QO hs c.args.toList).app (abD hcg Y);unfold JF at i;split at i
 ·cases i
 ·rename_i z hct;have A:=W f z hct;have O:(execOp a.eval o).run P w= .ok (.enter f (c.args.toList.map a.eval++r).toArray) w:=by
   have hen:=A.enters (c.args.toList.map a.eval++r).toArray w;simp only[execOp,ho,resolve,hc,Deferred.ofValue,hcv,Sem.run_bind,Sem.run_pure,Result.andThen_ok,invoke];have:(#[]++c.args.map a.eval:Array Value)++r.toArray=(c.args.toList.map a.eval++r).toArray:=by grind
   rw[this,hen]
  have I:(Calls P f (c.args.toList.map a.eval++r).toArray w fun e w'=>∃v g',e= .returned v/\More g g'/\Keeps (aY N blk g) w (aY N (kY blk out.blks) g') w'/\Hp S w0 N (kY blk out.blks) g' (fun n=>al n\/(fr<=n/\n < fr+64)) w'/\
    out.val.Rel S (aY N (kY blk out.blks) g') w' g' v)->o.wp P a w K Q:=by
   intro E;simp only[Oper.wp,O,Oper.upon_enter];refine E.mono ?_;rintro e w' ⟨v,g',rfl,y,h2,h3,h4⟩;exact hK v w' g' y h2 h3 h4
  dsimp only at i;have F:=G.norm;generalize (c.args.toList.map (aG slot)++k.map fun l=>(.one (.lf (.ptr l 0)):Sl D)).map Sl.norm=U at F i;cases y:Ea z blk fr (U.map (Sl.view blk)) (mQ [] (U.flatMap Sl.owns))with
  | some out'=>
   rw[y]at i;simp only[z_,TC]at i;subst i;refine I (yj T A h H (fun ids dD C X=> ?_) (fun l m=> ?_) (fun l m=> ?_) y hp)
   ·refine ik.view T (jB:=mQ [] (U.flatMap Sl.owns)) h ⟨fun b j=>(xx C b j).1,fun l m v b R B u j=> ?_⟩ (fun l m=>(eu _ _ _).2 (.inr m)) F;rcases(xx C b j).2 with q | ⟨l',v',⟨q1,q2,V,M⟩ | ⟨q1,q2,V,M⟩⟩
    ·exact h.ajh R B u q
    ·have:=h.sep l l' v v' b R q1 B V u M
     grind
    ·have:=h.sep l l' v v' b R q2 B V u M
     grind
   ·exact adR F (((eu _ _ _).1 m).resolve_left kM)
   ·obtain⟨x,hx,Z⟩:=zL.1 (((eu _ _ _).1 m).resolve_left kM);rcases an1 (blk:=blk) Z with q | q | q
    ·exact .inl q
    ·exact .inr (.inl q)
    ·exact .inr (.inr (zL.2 ⟨_,JC.2 ⟨x,hx,rfl⟩,q⟩))
  | none=>
   rw[y]at i;simp only[z_]at i;exact I (yj (jB:=[]) T A h H (fun ids dD C X=>F.less fun b j=>(xx C b j).1) (fun l m=>by simp at m) (fun l m=>by simp at m) i hp)
theorem agw (z:∀t F,T t=some F->eP P t F)(X:∀f W,Γ f=some W->fK P S f W)(I:iZ S)(h:Hp S w0 N blk g al w)(D:∀n,fr<=n->n < fr+64->¬al n)
  (L:∀t,(slot t).Rel S (aY N blk g) w g (a.tmps.getD t undef)) (e:wH T S Γ slot blk fr o.op=some out) (B:nH out.pre) (r:Post S w0 N blk g al w fr out o.dst a K):o.wp P a w K Q:=by
 have p:=pR L;cases k:o.op with
 | move x=>rw[k]at e;injection e with e;subst e;exact bg (v:=a.eval x) (by simp[execOp,k]) h r rfl (p x)
 | assign x=>rw[k]at e;injection e with e;subst e;exact bg (v:=a.eval x) (by simp[execOp,k]) h r rfl (p x)
 | pick c x y=>rw[k]at e;exact alc k h (p c) (p x) (p y) e r
 | alloc t=>
  rw[k]at e;simp only[wH]at e;split at e
  ·rename_i F s;injection e with e
   subst e;exact aiI k (z _ _ s) h D r
  ·cases e
 | box t x=>
  rw[k]at e;simp only[wH]at e;split at e
  ·rename_i u hu;split at e
   ·rename_i hw;injection e with e
    subst e;have A:=p x;rw[hu]at A;exact apW k h D A hw r
   ·cases e
  ·cases e
 | build t parts=>rw[k]at e;exact ahv k z h L e r
 | buildSlice t n parts=>rw[k]at e;exact sound_row I k z h L D e r
 | load t x=>
  rw[k]at e;simp only[wH]at e;cases s:T t with
  | none=>simp[BX,s]at e
  | some F=>exact akQ k (z _ _ s) s h (p x) e B r
 | store t x y=>
  rw[k]at e;simp only[wH]at e;cases s:T t with
  | none=>simp[GV,s]at e
  | some F=>exact af8 k (z _ _ s) s h (p x) (p y) e I B r
 | nilCheck x=>
  rw[k]at e;simp only[wH]at e;have A:=p x;split at e
  ·rename_i l q H;rw[H]at A;injection e with e;subst e
   refine bg (v:=a.eval x) ?_ h r rfl A;obtain⟨b,_,G⟩:=A;simp[execOp,k,G]
  ·rename_i d i j H;rw[H]at A;injection e with e;subst e
   refine bg (v:=a.eval x) ?_ h r rfl A;obtain⟨ad,n,R,_,_,G⟩:=A;simp[execOp,k,G]
  ·rename_i l i j sz H;rw[H]at A;injection e with e;subst e
   refine bg (v:=a.eval x) ?_ h r rfl A;obtain⟨b,n,R,_,G⟩:=A;simp[execOp,k,G]
  ·rename_i f E H;rw[H]at A;injection e with e;subst e
   refine bg (v:=a.eval x) ?_ h r rfl A;obtain⟨vs,G,_⟩:=A;simp[execOp,k,G]
  ·cases e
 | binOp V t x y yt=>
  rw[k]at e;simp only[wH]at e;cases M:ahZ T S V t (aG slot x) (aG slot y)with
  | some out'=>
   rw[M]at e;injection e with e
   subst e;exact alC k z h (p x) (p y) M r
  | none=>
   rw[M]at e;exact aqE k z h (p x) (p y) e B r
 | unOp V t x=>rw[k]at e;exact awM k h (p x) e B r
 | fieldAddr t x f=>
  rw[k]at e;simp only[wH]at e;cases s:T t with
  | none=>simp[QC,s]at e
  | some F=>exact ag6 k (z _ _ s) s h (p x) e r
 | field t x f=>
  rw[k]at e;simp only[wH]at e;cases s:T t with
  | none=>simp[anw,s]at e
  | some F=>exact akT k (z _ _ s) s h (p x) e r
 | indexAddr t x i=>rw[k]at e;exact agM k z h (p x) (p i) e B r
 | extract x i=>rw[k]at e;exact aaj k h (p x) e r
 | call c=>
  rw[k]at e;simp only[wH]at e;split at e
  ·rename_i C;split at e
   ·rename_i x A;exact asu k C A z h (p x) e r
   ·cases e
  ·rename_i C;split at e
   ·rename_i x y A;exact ab_ (.inl rfl) k C A h (p x) (p y) e r
   ·cases e
  ·rename_i C;split at e
   ·rename_i x y A;exact ab_ (.inr rfl) k C A h (p x) (p y) e r
   ·cases e
  ·rename_i C;split at e
   ·rename_i x y A;exact adh I k C A z h D (p x) (p y) e B r
   ·cases e
  ·rename_i C;split at e
   ·rename_i x y A;exact ajF I k C A z h (p x) (p y) e r
   ·cases e
  ·rename_i fo C;split at e
   ·rename_i f E Z;split at e
    ·rename_i O;exact alx I k C Z X h D L e B O r
    ·cases e
   ·cases e
  ·cases e
 | makeFunc Y first E=>
  rw[k]at e;cases Y with
  | func f=>
   simp only[wH]at e;split at e
   ·rename_i J;split at e
    ·rename_i ls U;injection e with e
     subst e;have J:first= #[]:=by simpa using J
     subst J;refine bg (v:= .func (.func f) #[] (E.map a.eval)) ?_ h r rfl ⟨(E.map a.eval).toList,rfl,by rw[anI L _ _ U,Array.toList_map]⟩;simp[execOp,k,Instr.makeFunc]
    ·cases e
   ·cases e
  | _=>simp[wH]at e
 | makeSlice t x y=>rw[k]at e;exact aj_ I k z h D (p x) (p y) e B r
 | index t x i=>rw[k]at e;exact aiC k z h (p x) (p i) e B r
 | convert src dst x=>rw[k]at e;exact amf k z h (p x) e B r
 | slice t x lo hi mx=>
  cases mx with
  | some m=>rw[k]at e;simp[wH]at e
  | none=>rw[k]at e;exact af7 I k z h p e B r
 | _=>rw[k]at e;simp[wH]at e
end
end Go.Vc
namespace Go.Vc
open Go.RowKit
section
variable {D:Type}
def rE:List Operand->List Nat
 | []=>[]
 | .tmp t::r=>t::rE r
 | _::r=>rE r
def FK (c:List Nat)(a:Nat->Sl D)(b:Nat->Option (Bk D)):Nat->Sl D:=fun t=>if uP t c then(a t).view b else a t
def isRow:Option (Bk D)->Bool
 | some (.row _ _)=>true
 | some (.map _)=>true
 | some (.xZ _)=>true
 | _=>false
def lh:Op->Bool
 | .store _ _ _=>true
 | .buildSlice _ _ _=>true
 | _=>false
def iG (a:Nat->Sl D)(b:Op):List Nat:=mQ [] ((rE b.operands.toList).flatMap fun t=>(a t).owns)
def xe (T:TypeId->Option Ty)(S:Sh D)(g:FuncId->Option (Ct D))(b:Nat->Sl D)(a:Nat->Option (Bk D))(f:Nat)(d:Op):Option (Out D):=
 let e:=iG b d
 if lh d && e.all (fun l=>isRow (a l))then
  (match wH T S g (FK (rE d.operands.toList) b a) (kY a (e.filterMap (jl a))) f d with
  | some c=>some ⟨c.pre,c.val,e.filterMap (jl a)++c.blks⟩
  | none=>none)
 else none
def BF (T:TypeId->Option Ty)(S:Sh D)(d:FuncId->Option (Ct D))(a:Nat->Sl D)(b:Nat->Option (Bk D))(c:Nat)(e:Op):Option (Out D):=
 match wH T S d a b c e with
 | some f=>some f
 | none=>xe T S d a b c e
theorem uN {b d:Type}{f a:b->Option d}:∀{l:List b},(∀x∈l,f x=a x)->l.filterMap f=l.filterMap a
 | [],_=>rfl
 | x::l,h=>by
  rw[Qdr,Qdr,h x kM,uN fun y c=>h y (by simp[c])]
theorem X0 {c:Type}:∀(a b:List (Nat×c)) (f:Nat->c),kY f (a++b)=kY (kY f a) b
 | [],_,_=>rfl
 | (k,v)::a,b,f=>X0 a b (upd f k v)
end
section
variable {D:Type}{P:Program}{S:Sh D}{T:TypeId->Option Ty}{Γ:FuncId->Option (Ct D)}{M M' N:Nat->Prop}{w w':World}{w0:Bs}{g g':Nat->Option Value}{blk blk':Nat->Option (Bk D)}{al:Nat->Prop}
 {a:Act} {o:Oper} {K:Act->World->Prop} {Q:Exit->Act->World->Prop} {slot:Nat->Sl D} {out:Out D} {fr:Nat} {ids jB:List Nat}
theorem Keeps.comp {i g a:Nat->Prop}{f d c:World}(h:Keeps i f g d)(k:Keeps g d a c):Keeps i f a c:=
 ⟨KF h.size k.size,fun b e j=>by
  obtain⟨l,o⟩:=h.same b e j;obtain⟨m,n⟩:=k.same b (Qce e h.size) l
  grind⟩
theorem aBV {l:Nat}{p:Nat×Option (Bk D)}(h:jl blk l=some p):p.1=l:=by
 unfold jl at h
 grind
theorem Hp.Jf (J:iZ S):∀(s:List Nat) (a:Nat->Option (Bk D)),s.Nodup->Hp S w0 N a g al w->
  Hp S w0 N (kY a (s.filterMap (jl a))) g al w/\Keeps (aY N a g) w (aY N (kY a (s.filterMap (jl a))) g) w/\
   (∀n,hot (kY a (s.filterMap (jl a)) n)=true->hot (a n)=true)/\∀l∈s,isRow (a l)=true->hot (kY a (s.filterMap (jl a)) l)=false
 | [],a,_,h=>⟨h,⟨rC _,fun b _ Y=>⟨Y,rfl⟩⟩,fun n m=>m,fun l E=>by simp at E⟩
 | l::r,a,m,h=>by
  obtain⟨E,O⟩:=List.nodup_cons.1 m;have Q:∀{x:Option (Bk D)} (y:Nat->Option (Bk D)),kY y (r.filterMap (jl a)) l=y l:=fun{x} y=>yZ fun v R=>by
   obtain⟨i,c,H⟩:=Qdc.1 R;have:=aBV H
   grind
  by_cases j:∃d,rwD (a l)=some d
  ·obtain⟨d,f⟩:=j;have L:jl a l=some (l,some (.xZ d)):=by unfold jl;rw[f]
   have I:=UK f;obtain⟨aa,M,_⟩:=kN I;rw[List.filterMap_cons_some L];have P:r.filterMap (jl a)=r.filterMap (jl (upd a l (some (.xZ d)))):=by
    refine uN fun i c=> ?_;have t:i≠l:=fun e=>E (e▸c)
    unfold jl;rw[bU _ _ _ _ t]
   obtain⟨v,C,_⟩:=h.dD l _ M;have ab:hot (upd a l (some (Bk.xZ d)) l)=false:=by rw[upd_same];rfl
   have k:∀n,hot (upd a l (some (Bk.xZ d)) n)=true->hot (a n)=true:=fun n m=>by
    by_cases H:n=l
    ·grind
    ·rwa [bU _ _ _ _ H]at m
   have T:∀b,aY N (upd a l (some (Bk.xZ d))) g b->aY N a g b:=by
    rintro b (f | ⟨n,u,K,p,X⟩)
    ·exact .inl f
    ·exact .inr ⟨n,u,k n K,p,X⟩
   obtain⟨K,U⟩:=h.aJs l (some (.xZ d)) rfl (fun bk z=>by
    injection z with z
    subst z;refine⟨v,C,al5 J h f C T fun b F=> ?_⟩;rintro(q | ⟨n,u,V,W,Z⟩)
    ·exact h.ajh I C F q
    ·have:=h.sep l n v u b I (k n V) C W F Z
     grind)
   obtain⟨p,A,B,G⟩:=Hp.Jf J r (upd a l (some (.xZ d))) O K;rw[<-P]at p A B G;refine⟨p,U.comp A,fun n m=>k n (B n m),fun i c o=> ?_⟩;rcases zN.1 c with rfl | c
   ·show hot (kY (upd a i (some (.xZ d))) (r.filterMap (jl a)) i)=false
    grind
   ·refine G i c ?_;have t:i≠l:=fun e=>E (e▸c)
    rwa [bU _ _ _ _ t]
  ·have L:jl a l=none:=by
    unfold jl
    grind
   rw[List.filterMap_cons_none L];obtain⟨p,A,B,G⟩:=Hp.Jf J r a O h;refine⟨p,A,B,fun i c o=> ?_⟩;rcases zN.1 c with rfl | c
   ·rw[Q (x:=none)];unfold isRow at o;split at o
    ·rename_i e d f;exact absurd ⟨d,by rw[f];rfl⟩ j
    ·rename_i d f;exact absurd ⟨d,by rw[f];rfl⟩ j
    ·rename_i d f;rw[f];rfl
    ·cases o
   grind
theorem arh (s:∀t D,T t=some D->eP P t D)(p:∀f R,Γ f=some R->fK P S f R)(j:iZ S)(h:Hp S w0 N blk g al w)(r:∀n,fr<=n->n < fr+64->¬al n)
  (B:∀t,(slot t).Rel S (aY N blk g) w g (a.tmps.getD t undef)) (c:BF T S Γ slot blk fr o.op=some out) (F:nH out.pre) (E:Post S w0 N blk g al w fr out o.dst a K):o.wp P a w K Q:=by
 unfold BF at c;split at c
 ·rename_i d y;injection c with c
  subst c;exact agw s p j h r B y F E
 ·unfold xe at c;dsimp only at c;split at c
  ·rename_i V;simp only[jA,Qbd]at V;split at c
   ·rename_i d y;injection c with c
    subst c;have M:(iG slot o.op).Nodup:=qR _ _ Qdk;obtain⟨U,H,I,X⟩:=Hp.Jf j (iG slot o.op) blk M h;refine agw s p j U r (fun t=> ?_) y F (fun v w' g' m k L W=> ?_)
    ·unfold FK;split
     ·rename_i x;have x:=gJ.1 x;refine Sl.Rel.view (jB:=iG slot o.op) j h ⟨?_,fun l O v b G J i=> ?_⟩ (fun l O=>(eu _ _ _).2 (.inr (zL.2 ⟨t,x,O⟩))) (B t)
      ·rintro b (i | ⟨n,u,z,A,C⟩)
       ·exact .inl i
       ·exact .inr ⟨n,u,I n z,A,C⟩
      ·rintro(q | ⟨n,u,z,A,C⟩)
       ·exact h.ajh G J i q
       ·have:=h.sep l n v u b G (I n z) J A i C
        grind
     ·exact(B t).keep H (More.refl _)
    ·have e:kY blk ((iG slot o.op).filterMap (jl blk)++d.blks)=kY (kY blk ((iG slot o.op).filterMap (jl blk))) d.blks:=X0 _ _ _;refine E v w' g' m ?_ ?_ ?_
     ·rw[e];exact H.comp k
     ·rw[e];exact L
     ·rw[e];exact W
   ·cases c
  ·cases c
end
end Go.Vc
namespace Go.Vc
open Go.RowKit
section
variable {D:Type}
def Lf.pv:Lf D->Option Pv
 | .bool b=>some (.bool b)
 | .val (.bool b)=>some (.bool b)
 | .int k n=>some (.int k n)
 | .str s=>some (.str s)
 | _=>none
def pvs:List (Lf D)->Option (List Pv)
 | []=>some []
 | x::a=>(match x.pv,pvs a with
  | some p,some b=>some (p::b)
  | _,_=>none)
def aDE (T:TypeId->Option Ty)(t:TypeId)(x:Sl D):Option (Out D):=
 match T t with
 | none=>none
 | some a=>if Nat.beq a.kind 0 then none else(match x with
  | .one (.lf x)=>(match x.pv with
   | some p=>mM none (.Tz (some ⟨t,false,[p]⟩))
   | none=>none)
  | .one (.agg b)=>(match pvs b with
   | some c=>mM none (.Tz (some ⟨t,true,c⟩))
   | none=>none)
  | _=>none)
def BJ.is (v:Option BJ)(t:TypeId):Bool:=
 match v with
 | some i=>Nat.beq i.t t
 | none=>false
def BJ.get (v:Option BJ)(t:TypeId)(j:Nat):Option Pv:=
 match v with
 | some i=>if Nat.beq i.t t then i.xs[j]? else none
 | none=>none
def Pv.gB:Option Pv->Bool
 | some (.bool b)=>b
 | _=>false
def Pv.gI:Option Pv->Int
 | some (.int _ n)=>n
 | _=>0
def Pv.gS:Option Pv->List UInt8
 | some (.str s)=>s
 | _=>[]
def EZ (z:Value)(p:Option Pv):Option (Lf D):=
 match z with
 | .bool false=>some (.bool (Pv.gB p))
 | .int k 0=>some (.int k (Pv.gI p))
 | .string s=>(match s.data.toList with
  | []=>some (.str (Pv.gS p))
  | _=>none)
 | _=>none
def xn (v:Option BJ)(t:TypeId):List Value->Nat->Option (List (Lf D))
 | [],_=>some []
 | z::a,j=>(match EZ z (BJ.get v t j),xn v t a (j+1)with
  | some x,some b=>some (x::b)
  | _,_=>none)
def aft:Value->Pv->Bool
 | .bool _, .bool _=>true
 | .int k _, .int a _=>kEq k a
 | .string _, .str _=>true
 | _,_=>false
def H8:List Value->List Pv->Bool
 | [],[]=>true
 | z::a,p::b=>aft z p && H8 a b
 | _,_=>false
def BJ.ok (v:Option BJ)(t:TypeId)(a:Bool)(b:List Value):Bool:=
 match v with
 | some i=> !Nat.beq i.t t || ((i.agg==a) && H8 b i.xs)
 | none=>true
def aet (T:TypeId->Option Ty)(t:TypeId)(x:Sl D):Option (Out D):=
 match T t with
 | none=>none
 | some a=>if Nat.beq a.kind 0 || !(a.agg==a.zag)then none else(match x with
  | .one (.lf (.Tz v))=>(match xn v t a.zero 0 with
   | none=>none
   | some b=>if a.agg then some ⟨some (dp (BJ.ok v t true a.zero=true)), .wU [.agg b, .lf (.bool (BJ.is v t))],[]⟩
    else(match b with
     | [l]=>some ⟨some (dp (BJ.ok v t false a.zero=true)), .wU [.lf l, .lf (.bool (BJ.is v t))],[]⟩
     | _=>none))
  | _=>none)
end
section
variable {D:Type}{P:Program}{S:Sh D}{T:TypeId->Option Ty}{Γ:FuncId->Option (Ct D)}{M M' N:Nat->Prop}{w w':World}{w0:Bs}{g g':Nat->Option Value}{blk blk':Nat->Option (Bk D)}{al:Nat->Prop}
 {a:Act} {o:Oper} {K:Act->World->Prop} {Q:Exit->Act->World->Prop} {slot cO:Nat->Sl D} {out:Out D} {fr:Nat}
theorem V4 {x:Lf D}{p:Pv}{v:Value}(h:x.pv=some p)(a:x.Rel S M w g v):v=p.val/\p.fits:=by
 unfold Lf.pv at h;split at h<;>first | (injection h with h;subst h;exact⟨a,trivial⟩) | (injection h with h;subst h;exact a) | (cases h;done)
theorem UG:∀{c:List (Lf D)} {a:List Pv} {b:List Value},pvs c=some a->bf S M w g c b->b=a.map Pv.val/\∀p∈a,p.fits
 | [],a,[],h,_=>by simp[pvs]at h;grind
 | x::c,a,v::b,h,d=>by
  unfold pvs at h;split at h
  ·rename_i p i f e;injection h with h
   subst h;obtain⟨j,k⟩:=V4 f d.1;obtain⟨m,l⟩:=UG e d.2
   grind
  ·cases h
theorem zV {t:TypeId}{a:Ty}(h:eP P t a)(c:a.kind≠0):P.concrete t=true:=by
 obtain⟨d,e,b⟩:=oz h;unfold Program.concrete;rw[e];cases d<;>first | rfl | (exfalso;apply c;rw[<-b];rfl)
theorem asC {t:TypeId}{x:Operand}(n:o.op= .makeInterface t x)(s:∀t j,T t=some j->eP P t j)(h:Hp S w0 N blk g al w)(i:(aG slot x).Rel S (aY N blk g) w g (a.eval x))
  (b:aDE T t (aG slot x)=some out) (r:Post S w0 N blk g al w fr out o.dst a K):o.wp P a w K Q:=by
 unfold aDE at b;split at b
 ·cases b
 ·rename_i j m;split at b
  ·cases b
  ·rename_i l;have l:j.kind≠0:=fun e=>l qck
   have f:=run_makeInterface (P:=P) w t (a.eval x) (zV (s _ _ m) l);split at b
   ·rename_i y d;rw[d]at i;split at b
    ·rename_i p c;injection b with b
     subst b;have k:=(V4 c i).1;refine bg (v:= .iface t (a.eval x)) ?_ h r rfl ⟨by rw[k];rfl,fun q z=>by have:=FY.1 z;subst this;exact(V4 c i).2⟩;simp[execOp,n,f]
    ·cases b
   ·rename_i B d;rw[d]at i;obtain⟨C,k,u⟩:=i;split at b
    ·rename_i A c;injection b with b
     subst b;have:=(UG c u).1;refine bg (v:= .iface t (a.eval x)) ?_ h r rfl ⟨by rw[k,this];rfl,(UG c u).2⟩;simp[execOp,n,f]
    ·cases b
   ·cases b
theorem apX {z:Value}{x:Lf D}(h:EZ z none=some x):x.Rel S M w g z:=by
 unfold EZ at h;split at h
 ·injection h with h;subst h;rfl
 ·injection h with h;subst h;rfl
 ·rename_i s;split at h
  ·rename_i b;injection h with h
   subst h;cases s with
   | mk a=>
    have:a= #[]:=by
     grind
    subst this;exact⟨rfl,by simp[Pv.gS]⟩
  ·cases h
 ·cases h
theorem aqA {b:Bool}{q:Option Pv}{x:Lf D}(h:EZ (.bool b) q=some x):x= .bool (Pv.gB q):=by
 cases b
 ·injection h with h;exact h.symm
 ·cases h
theorem atA {k:IntKind}{n:Int}{q:Option Pv}{x:Lf D}(h:EZ (.int k n) q=some x):x= .int k (Pv.gI q):=by
 unfold EZ at h
 grind
theorem atp {s:ByteArray}{q:Option Pv}{x:Lf D}(h:EZ (.string s) q=some x):x= .str (Pv.gS q):=by
 simp only[EZ]at h
 grind
theorem asz {z:Value}{p:Pv}{x:Lf D}(a:aft z p=true)(h:EZ z (some p)=some x)(c:p.fits):x.Rel S M w g p.val:=by
 cases z<;>cases p<;>simp only[aft,RX]at a
 ·rw[aqA h];rfl
 ·rename_i k n b d;have a:k=b:=by simpa[kEq]using a
  subst a;rw[atA h];rfl
 ·rw[atp h];exact⟨rfl,c⟩
theorem RU {v:Option BJ}{t:TypeId}(c:∀j,BJ.get v t j=none):∀(a:List Value) (j:Nat) (b:List (Lf D)),xn v t a j=some b->bf S M w g b a
 | [],j,b,h=>by simp[xn]at h;subst h;trivial
 | z::a,j,b,h=>by
  unfold xn at h;rw[c j]at h;split at h
  ·rename_i x e f d;injection h with h
   subst h;exact⟨apX f,RU c a (j+1) e d⟩
  ·cases h
theorem SQ {i:BJ}:∀(c:List Value) (b:List Pv) (j:Nat) (d:List (Lf D)),H8 c b=true->(∀k,BJ.get (some i) i.t (j+k)=b[k]?)->xn (some i) i.t c j=some d->(∀p∈b,p.fits)->bf S M w g d (b.map Pv.val)
 | [],[],j,d,_,_,h,_=>by simp[xn]at h;subst h;trivial
 | z::c,p::b,j,d,a,f,h,e=>by
  simp only[H8,jA]at a;unfold xn at h;have l:=f 0;simp only[Qb,Qch]at l;rw[l]at h;split at h
  ·rename_i x o r n;injection h with h
   subst h;exact⟨asz a.1 r (e p kM),SQ c b (j+1) o a.2 (fun k=>by have:=f (k+1);grind) n (fun q m=>e q (by simp[m]))⟩
  ·cases h
 | [],_::_,_,_,a,_,_,_=>by simp[H8]at a
 | _::_,[],_,_,a,_,_,_=>by simp[H8]at a
theorem Z_ {t st:TypeId}{v:Option BJ}{z:Value}(a:P.concrete t=true)(g:BJ.is v t=false)(f:(zeroValue t).run P w= .ok z w):(Instr.typeAssert (ED v) st t true).run P w= .ok (.tuple #[z, .bool false]) w:=by
 unfold Program.concrete at a;cases b:P.underlying t with
 | none=>grind
 | some d=>
  rw[b]at a;cases v with
  | none=>cases d<;>first | (cases a;done) | simp[Instr.typeAssert,run_underlying b,ED,f]
  | some i=>
   have c:¬i.t=t:=fun e=>by simp[BJ.is,e]at g
   cases d<;>first | (cases a;done) | simp[Instr.typeAssert,run_underlying b,ED,c,f]
theorem XO {st:TypeId}{i:BJ}(a:P.concrete i.t=true):(Instr.typeAssert (ED (some i)) st i.t true).run P w= .ok (.tuple #[i.inner, .bool true]) w:=by
 unfold Program.concrete at a;cases b:P.underlying i.t with
 | none=>grind
 | some d=>
  rw[b]at a;cases d<;>first | (cases a;done) | simp[Instr.typeAssert,run_underlying b,ED]
theorem aeO {t st:TypeId}{x:Operand}(A:o.op= .typeAssert x st t true)(G:∀t d,T t=some d->eP P t d)(h:Hp S w0 N blk g al w)(n:(aG slot x).Rel S (aY N blk g) w g (a.eval x))
  (b:aet T t (aG slot x)=some out) (Y:nH out.pre) (B:Post S w0 N blk g al w fr out o.dst a K):o.wp P a w K Q:=by
 unfold aet at b;split at b
 ·cases b
 ·rename_i d C;split at b
  ·cases b
  ·rename_i hk;simp only[Qbi,Qbg,not_or]at hk;have X:d.kind≠0:=fun e=>hk.1 qck
   have q:d.agg=d.zag:=by
    grind
   have hc:=zV (G _ _ C) X;obtain⟨z,hz,F,r⟩:=ajC (G _ _ C) w;split at b
   ·rename_i v U;rw[U]at n;obtain⟨n,hxf⟩:a.eval x=ED v/\aus v:=n;split at b
    ·cases b
    ·rename_i J D;by_cases c:BJ.is v t=true
     ·obtain⟨i,rfl,W⟩:∃i,v=some i/\i.t=t:=by
       cases v with
       | none=>simp[BJ.is]at c
       | some i=>exact⟨i,rfl,Qa c⟩
      subst W;have I:∀k,BJ.get (some i) i.t (0+k)=i.xs[k]? :=fun k=>by simp[BJ.get]
      have f:=XO (P:=P) (w:=w) (st:=st) (i:=i) hc;have H:∀O,BJ.ok (some i) i.t O d.zero=true->i.agg=O/\bf S (aY N blk g) w g J (i.xs.map Pv.val):=by
       intro O y;simp only[BJ.ok,Nat.beq_refl,Qbj,Qdt,jA,Vt]at y;exact⟨y.1,SQ d.zero i.xs 0 J y.2 I D hxf⟩
      split at b
      ·injection b with b
       subst b;obtain⟨L,s⟩:=H true Y;refine bg (v:= .tuple #[i.inner, .bool true]) ?_ h B rfl ⟨[i.inner, .bool true],rfl,⟨⟨_,?_,s⟩,by rw[c];rfl,trivial⟩⟩
       ·simp[execOp,A,n,f]
       ·unfold BJ.inner;rw[L]
      ·split at b
       ·rename_i l;injection b with b
        subst b;obtain⟨L,s⟩:=H false Y;obtain⟨p,E⟩:∃p,i.xs=[p]:=by
         have:=s.length;simp only[Qby,Qbx]at this;exact Qd1.1 this.symm
        have V:i.inner=p.val:=by unfold BJ.inner;rw[L,E]
        rw[E]at s;refine bg (v:= .tuple #[i.inner, .bool true]) ?_ h B rfl ⟨[i.inner, .bool true],rfl,⟨?_,by rw[c];rfl,trivial⟩⟩
        ·simp[execOp,A,n,f]
        ·rw[V];exact s.1
       ·cases b
     ·have c:BJ.is v t=false:=by simpa using c
      have f:=Z_ (P:=P) (w:=w) (st:=st) hc c hz;have Z:∀j,BJ.get v t j=none:=by
       intro j;cases v with
       | none=>rfl
       | some i=>simp only[BJ.is]at c;simp[BJ.get,c]
      have R:=RU (S:=S) (M:=aY N blk g) (w:=w) (g:=g) Z d.zero 0 J D;split at b
      ·rename_i m;injection b with b
       subst b;have u:z= .agg d.zero.toArray:=by
        rw[m]at q;rw[<-q]at r;cases z<;>simp[Bj]at r
        rw[<-F];rfl
       refine bg (v:= .tuple #[z, .bool false]) ?_ h B rfl ⟨[z, .bool false],rfl,⟨⟨_,u,R⟩,by rw[c];rfl,trivial⟩⟩;simp[execOp,A,n,f]
      ·rename_i m;split at b
       ·rename_i l;injection b with b
        subst b;have u:d.zero=[z]:=by
         have m:d.agg=false:=by simpa using m
         rw[m]at q;rw[<-q]at r;rw[<-F];cases z<;>first | rfl | simp[Bj]at r
        rw[u]at R;refine bg (v:= .tuple #[z, .bool false]) ?_ h B rfl ⟨[z, .bool false],rfl,⟨R.1,by rw[c];rfl,trivial⟩⟩;simp[execOp,A,n,f]
       ·cases b
   ·cases b
end
end Go.Vc
namespace Go.Vc
open Go.RowKit
section
variable {D:Type}
def Na (S:Sh D)(d:D)(a:Nat):Nat->Nat->List (Lf D)
 | _,0=>[]
 | i,n+1=>E8 S d i 0 a++Na S d a (i+1) n
def PX (T:TypeId->Option Ty)(t:TypeId):Option (TypeId×Nat×Nat):=
 match T t with
 | none=>none
 | some a=>(match a.arr with
  | none=>none
  | some (e,n)=>(match T e with
   | none=>none
   | some b=>if Nat.blt 0 b.size && Nat.beq a.size (n*b.size) && a.agg then some (e,n,b.size)else none))
def VW (T:TypeId->Option Ty)(t:TypeId):Option (TypeId×Nat×Nat):=
 match T t with
 | none=>none
 | some a=>if a.lit then none else PX T t
def adF (T:TypeId->Option Ty)(S:Sh D)(b:Nat)(t:TypeId):Option (Out D):=
 match VW T t with
 | none=>none
 | some (e,n,a)=>(match T t with
  | none=>none
  | some c=>(match S.make e n (c.zero.map fun v=>(D8 v).norm)with
   | none=>none
   | some d=>if Nat.beq (S.size d) a && Nat.ble n 1000000 then some ⟨none, .one (.lf (.opt b 0 0 a)),[(b,some (.row t d))]⟩else none))
def JP (T:TypeId->Option Ty)(S:Sh D)(b:Nat->Option (Bk D))(t:TypeId)(x:Sl D):Option (Out D):=
 match VW T t with
 | none=>none
 | some (e,n,a)=>(match x with
  | .one (.lf (.opt l i j s))=>if Nat.beq i 0 && (Nat.beq j 0 && Nat.beq s a)then(match b l with
   | some (.row _ d)=>if Nat.beq a (S.size d)then some ⟨some (dp (S.len d=n)), .one (.agg (Na S d a 0 n)),[]⟩else none
   | _=>none)else none
  | .one (.lf (.glb k))=>(match S.Po k with
   | some d=>if Nat.beq a (S.size d)then some ⟨some (dp (S.len d=n)), .one (.agg (Na S d a 0 n)),[]⟩else none
   | none=>none)
  | _=>none)
def UQ (T:TypeId->Option Ty)(S:Sh D)(t:TypeId)(x i:Sl D):Option (Out D):=
 match VW T t with
 | none=>none
 | some (e,n,a)=>(match x,i with
  | .one (.lf (.opt l b j s)), .one (.lf (.int _ m))=>if Nat.beq b 0 && (Nat.beq j 0 && Nat.beq s a)then mM (some (dp (0<=m/\m < n))) (.opt l m.toNat 0 a)else none
  | .one (.lf (.glb k)), .one (.lf (.int _ m))=>(match S.Po k with
   | some d=>if Nat.beq a (S.size d)then mM (some (dp (0<=m/\m < n/\m < S.len d))) (.elt d m.toNat 0)else none
   | none=>none)
  | _,_=>none)
def DZ (T:TypeId->Option Ty)(S:Sh D)(b:Nat->Option (Bk D))(t:TypeId)(x y:Sl D):Option (Out D):=
 match VW T t with
 | none=>none
 | some (e,n,a)=>(match x,y with
  | .one (.lf (.opt l i j s)), .one (.agg cs)=>if Nat.beq i 0 && (Nat.beq j 0 && Nat.beq s a) && cs.all Lf.storable then(match b l with
   | some (.row f d)=>(match S.make e n (cs.map Lf.norm)with
    | some c=>if Nat.beq a (S.size d) && Nat.beq a (S.size c)then some ⟨some (dp (S.len d=n)), .one (.lf .any),[(l,some (.row f c))]⟩else none
    | none=>none)
   | _=>none)else none
  | _,_=>none)
def aaF (cs:List (Lf D))(a j:Nat):Nat->Nat->List (Lf D)
 | _,0=>[]
 | r,n+1=>(match cs[r*a+j]? with
  | some x=>x
  | none=> .any)::aaF cs a j (r+1) n
def intsOf (k:IntKind):List (Lf D)->Option (List Int)
 | []=>some []
 | .int a n::r=>if kEq k a then(match intsOf k r with
  | some l=>some (n::l)
  | none=>none)else none
 | _=>none
def strsOf:List (Lf D)->Option (List (List UInt8))
 | []=>some []
 | .str s::r=>(match strsOf r with
  | some l=>some (s::l)
  | none=>none)
 | _=>none
def Nk:List (Lf D)->Option (List Bool)
 | []=>some []
 | .bool b::r=>(match Nk r with
  | some l=>some (b::l)
  | none=>none)
 | _=>none
def amu (cs:List (Lf D))(i:Nat):Option (Lf D):=
 match cs with
 | .int k n::r=>(match intsOf k (.int k n::r)with
  | some l=>some (.int k (l.getD i 0))
  | none=>none)
 | .str s::r=>(match strsOf (.str s::r)with
  | some l=>some (.str (l.getD i []))
  | none=>none)
 | .bool b::r=>(match Nk (.bool b::r)with
  | some l=>some (.bool (l.getD i false))
  | none=>none)
 | _=>none
def pickRow (cs:List (Lf D))(a n i:Nat):Nat->Nat->Option (List (Lf D))
 | _,0=>some []
 | j,m+1=>(match amu (aaF cs a j 0 n) i,pickRow cs a n i (j+1) m with
  | some x,some b=>some (x::b)
  | _,_=>none)
def U0 (T:TypeId->Option Ty)(t:TypeId)(x i:Sl D):Option (Out D):=
 match PX T t with
 | none=>none
 | some (e,n,a)=>(match T e with
  | none=>none
  | some c=>(match x,i with
   | .one (.agg cs), .one (.lf (.int _ m))=>if Nat.beq cs.length (n*a) && Nat.beq c.size a then(match pickRow (cs.map Lf.norm) a n m.toNat 0 a with
    | some b=>if c.agg then some ⟨some (dp (0<=m/\m < n)), .one (.agg b),[]⟩else(match b with
     | [l]=>some ⟨some (dp (0<=m/\m < n)), .one (.lf l),[]⟩
     | _=>none)
    | none=>none)else none
   | _,_=>none))
def UY (T:TypeId->Option Ty)(a:Nat->Sl D)(t:TypeId)(parts:Array (Nat×Operand)):Option (Out D):=
 match PX T t with
 | none=>none
 | some (e,n,c)=>(match T t with
  | none=>none
  | some b=>(match Az c a parts.toList (b.zero.map D8)with
   | some cs=>some ⟨none, .one (.agg cs),[]⟩
   | none=>none))
def Qq (T:TypeId->Option Ty)(S:Sh D)(c:Nat->Option (Bk D))(h:Array TypeId)(x:Sl D):Option (Out D):=
 match h.toList with
 | [t]=>(match T t with
  | none=>none
  | some g=>(match g.elem with
   | none=>none
   | some e=>(match T e with
    | none=>none
    | some b=>(match x with
     | .one (.lf (.part l i j a f))=>(match c l with
      | some (.row m d)=>if Nat.beq a b.size && (Nat.beq a (S.size d) && (Nat.blt 0 a && Nat.beq b.zero.length a))then
       (match S.sub d 0 i,S.zero e (j - i) (b.zero.map fun v=>(D8 v).norm)with
       | some p,some z=>(match S.cat p z with
        | some k=>some ⟨some (dp (j=S.len d)), .wU [],[(l,some (.row m k))]⟩
        | none=>none)
       | _,_=>none)else none
      | _=>none)
     | _=>none))))
 | _=>none
def oL (T:TypeId->Option Ty)(S:Sh D)(a:Nat->Sl D)(b:Nat->Option (Bk D))(d:Nat)(e:Op):Option (Out D):=
 match e with
 | .alloc t=>adF T S d t
 | .load t x=>JP T S b t (aG a x)
 | .store t x y=>DZ T S b t (aG a x) (aG a y)
 | .indexAddr t x i=>UQ T S t (aG a x) (aG a i)
 | .index t x i=>U0 T t (aG a x) (aG a i)
 | .build t parts=>UY T a t parts
 | .call c=>(match c.callee with
  | .builtin .clear=>(match c.args.toList with
   | [x]=>Qq T S b c.argTypes (aG a x)
   | _=>none)
  | _=>none)
 | .makeInterface t x=>aDE T t (aG a x)
 | .typeAssert x _ t true=>aet T t (aG a x)
 | _=>none
def Bi (T:TypeId->Option Ty)(S:Sh D)(f:FuncId->Option (Ct D))(a:Nat->Sl D)(b:Nat->Option (Bk D))(c:Nat)(d:Op):Option (Out D):=
 match oL T S a b c d with
 | some e=>some e
 | none=>BF T S f a b c d
end
section
variable {D:Type}{P:Program}{S:Sh D}{T:TypeId->Option Ty}{Γ:FuncId->Option (Ct D)}{M M' N:Nat->Prop}{w w':World}{w0:Bs}{g g':Nat->Option Value}{blk blk':Nat->Option (Bk D)}{al:Nat->Prop}
 {a:Act} {o:Oper} {K:Act->World->Prop} {Q:Exit->Act->World->Prop} {slot cO:Nat->Sl D} {out:Out D} {fr:Nat}
theorem AP (b:∀t a,T t=some a->eP P t a){t e:TypeId}{n f:Nat}(h:PX T t=some (e,n,f)):∃a d,T t=some a/\T e=some d/\d.size=f/\0 < f/\a.size=n*f/\a.agg=true/\P.underlying t=some (.array n e)/\eP P t a/\eP P e d:=by
 unfold PX at h;split at h
 ·cases h
 ·rename_i a c;split at h
  ·cases h
  ·rename_i p o j;split at h
   ·cases h
   ·rename_i d g;split at h
    ·rename_i i;simp only[jA]at i;injection h with h
     injection h with m h
     injection h with l k
     subst m l k;exact⟨a,d,c,g,rfl,by simp_all,Qa i.1.2,i.2,aFo (b _ _ c) j,b _ _ c,b _ _ g⟩
    ·cases h
theorem yM (d:∀t a,T t=some a->eP P t a){t e:TypeId}{n b:Nat}(h:VW T t=some (e,n,b)):∃a c,T t=some a/\T e=some c/\c.size=b/\0 < b/\a.size=n*b/\a.agg=true/\P.underlying t=some (.array n e)/\eP P t a/\eP P e c:=by
 unfold VW at h;split at h
 ·cases h
 ·split at h
  ·cases h
  ·exact AP d h
theorem Ai {d:D}{ad:Addr}{sz:Nat}:∀(n i:Nat),(∀r,r < n->∃a:List Value,a.length=sz/\bf S M w g (E8 S d (i+r) 0 sz) a/\∀k u,a[k]? =some u->w.cell? (ad.add ((i+r)*sz+k))=some u)->
  ∃a:List Value,a.length=n*sz/\bf S M w g (Na S d sz i n) a/\∀k u,a[k]? =some u->w.cell? (ad.add (i*sz+k))=some u
 | 0,i,_=>⟨[],by simp,trivial,fun k u b=>by simp at b⟩
 | n+1,i,h=>by
  obtain⟨e,l1,c,m⟩:=h 0 au;obtain⟨f,l,j,o⟩:=Ai n (i+1) (fun r p=>by have:=h (r+1) au;rwa [show i+(r+1)=i+1+r by omega]at this);refine⟨e++f,by grind,c.append j,fun k u b=> ?_⟩
  grind
theorem aFD {i j s a:Nat}(h:(Nat.beq i 0 && (Nat.beq j 0 && Nat.beq s a))=true):i=0/\j=0/\s=a:=by
 simp_all
theorem aht {t:TypeId}{x:Operand}(ho:o.op= .load t x)(W:∀t E,T t=some E->eP P t E)(h:Hp S w0 N blk g al w)(q:(aG slot x).Rel S (aY N blk g) w g (a.eval x))
  (c:JP T S blk t (aG slot x)=some out) (A:nH out.pre) (hK:Post S w0 N blk g al w fr out o.dst a K):o.wp P a w K Q:=by
 unfold JP at c;split at c
 ·cases c
 ·rename_i e n sz H;obtain⟨E,te,hty,hte,hsz,h0,L,R,zU,C,Ld⟩:=yM W H;have F:=zB C w;have TQ:=mg C w;have fin:∀(ad:Addr) (f:List Value) (G:List (Lf D)),a.eval x= .pointer (some ad)->f.length=n*sz->bf S (aY N blk g) w g G f->(∀k u,f[k]? =some u->w.cell? (ad.add (0*sz+k))=some u)->out=⟨out.pre, .one (.agg G),[]⟩->o.wp P a w K Q:=by
   intro ad f G J I z B O;have p:=run_loadCells (P:=P) (w:=w) ad f 0 #[] (fun k u X=>by grind);rw[I,<-L]at p;refine bg (v:= .agg f.toArray) ?_ h hK (by rw[O]) (by rw[O];exact⟨_,rfl,z⟩);simp[execOp,ho,Instr.loadAt,Instr.sureAddr,J,loadVar,F,R,TQ,loadCells,p]
  split at c
  ·rename_i l i j s m;rw[m]at q;obtain⟨b,n',cap,hg,J⟩:=q;split at c
   ·rename_i B;obtain⟨rfl,rfl,rfl⟩:=aFD B;split at c
    ·rename_i e' d hb;split at c
     ·rename_i y;have y:=Qa y;injection c with c
      subst c;have A:S.len d=n:=A;obtain⟨f,I,z,B⟩:=Ai (S:=S) (M:=aY N blk g) (w:=w) (g:=g) (d:=d) (ad:=⟨b,0,none⟩) (sz:=s) n 0 (fun r z=>by
       obtain⟨f,V,U,Y⟩:=zq h hb hg (i:=0+r) au s 0 au;refine⟨f,V,U,fun k u X=> ?_⟩;have:=Y k u X;rw[m_]
       grind)
      grind
     ·cases c
    ·cases c
   ·cases c
  ·rename_i k m;rw[m]at q;have q:a.eval x= .pointer (some ⟨k,0,none⟩):=q;split at c
   ·rename_i d hd;split at c
    ·rename_i y;have y:=Qa y;injection c with c
     subst c;have A:S.len d=n:=A;have Z:=h.gl k d hd;obtain⟨f,I,z,B⟩:=Ai (S:=S) (M:=aY N blk g) (w:=w) (g:=g) (d:=d) (ad:=⟨k,0,none⟩) (sz:=sz) n 0 (fun r z=>by
      obtain⟨f,V,U,Y⟩:=AC (g:=g) Z (i:=0+r) au sz 0 au
      grind)
     grind
    ·cases c
   ·cases c
  ·cases c
theorem ada {t:TypeId}{x r:Operand}(F:o.op= .indexAddr t x r)(J:∀t y,T t=some y->eP P t y)(h:Hp S w0 N blk g al w)(q:(aG slot x).Rel S (aY N blk g) w g (a.eval x))
  (f:(aG slot r).Rel S (aY N blk g) w g (a.eval r)) (c:UQ T S t (aG slot x) (aG slot r)=some out) (H:nH out.pre) (G:Post S w0 N blk g al w fr out o.dst a K):o.wp P a w K Q:=by
 unfold UQ at c;split at c
 ·cases c
 ·rename_i e n sz A;obtain⟨y,te,W,Z,u,h0,X,Y,E,aa,R⟩:=yM J A;have I:=mg R w;split at c
  ·rename_i l i0 j s k m i p;rw[i]at q;rw[p]at f;simp only[Sl.Rel,Sv.Rel,Lf.Rel]at f;obtain⟨b,M,D,O,L⟩:=q;split at c
   ·rename_i U;obtain⟨rfl,rfl,rfl⟩:=aFD U;injection c with c
    subst c;obtain⟨C,z⟩:=H;refine bg (v:= .pointer (some ⟨b,m.toNat*s+0,none⟩)) ?_ h G rfl ⟨b,M,D,O,rfl⟩;simp[execOp,F,Instr.indexAt,Instr.sureAddr,f,asIntOf,run_underlying E,L,C,z,I,u,m_]
   ·cases c
  ·rename_i k ki m i p;rw[i]at q;rw[p]at f;simp only[Sl.Rel,Sv.Rel,Lf.Rel]at f q;split at c
   ·rename_i d V;split at c
    ·rename_i B;have B:=Qa B;injection c with c
     subst c;obtain⟨C,z,p3⟩:=H;refine bg (v:= .pointer (some (Addr.add ⟨k,0,none⟩ (m.toNat*S.size d+0)))) ?_ h G rfl ⟨_,_,_,h.gl k d V,by omega,rfl⟩;simp[execOp,F,Instr.indexAt,Instr.sureAddr,f,asIntOf,run_underlying E,q,C,z,I,u,B]
    ·cases c
   ·cases c
  ·cases c
theorem acx {t:TypeId}(u:iZ S)(M:o.op= .alloc t)(E:∀t k,T t=some k->eP P t k)(h:Hp S w0 N blk g al w)(B:∀n,fr<=n->n < fr+64->¬al n)
  (c:adF T S fr t=some out) (O:Post S w0 N blk g al w fr out o.dst a K):o.wp P a w K Q:=by
 unfold adF at c;split at c
 ·cases c
 ·rename_i e n sz x;obtain⟨k,te,A,ab,ac,h0,Z,aa,zU,F,Ld⟩:=yM E x;rw[A]at c;dsimp only at c;split at c
  ·cases c
  ·rename_i d G;split at c
   ·rename_i y;simp only[jA]at y;have hs:=Qa y.1;have hn:=Qa0 y.2;injection c with c
    subst c;obtain⟨z,R,ad⟩:=EQ F w;obtain⟨s,L,U⟩:=u.make _ _ _ _ G;rw[Qby]at L;have H:z.cells.size=n*S.size d:=by grind
    have r:(execOp a.eval o).run P w= .ok (.value (.pointer (some ⟨w.heap.size,0,none⟩))) (w.alloc (.cells z.cells t)):=by
     simp[execOp,M,Instr.alloc,R,newVar,newRow,newObj,Sem.run]
    have W:Below w.heap.size w (w.alloc (.cells z.cells t)):=(Below.refl w.heap.size w).alloc (rC _) _;obtain⟨V,X,J⟩:=h.add (l:=fr) (bk:= .row t d) (v:= .slice (some ⟨w.heap.size,0,none⟩) n n) W (B fr (rC _) au) (fun b p=>by simp[eH]at p;omega)
     (fun M' hk _=>by
      refine⟨⟨fun b p=> .inl ?_,by rw[s];omega,u.ZO _ _ _ _ G⟩,z.cells.toList,⟨?_, .inr ⟨w.heap.size,n,z.cells,by rw[s],Jd _,heap_alloc_new w _,by omega,by simp only[maxLen];omega,H,?_⟩⟩,fun f j i q=> ?_⟩
      ·simp only[eH,TC]at p;have:=h.below.size;omega
      ·grind
      ·grind
      ·rw[s]at i;obtain⟨x0,m,C⟩:=U f j i q;have Y:=vH i q;have I:f*S.size d+j < z.cells.size:=by omega
       refine⟨z.cells[f*S.size d+j],by simp[I],u.data _ _ _ au q,C.rel ?_⟩;have D:k.zero[f*S.size d+j]? =some z.cells[f*S.size d+j]:=by grind
       simp only[Qb4,D,ZR,TC]at m;rw[<-m];exact(Cc _).norm)
    exact lL r (O _ _ _ J X (V.weaken Xy) ⟨w.heap.size,n,n,upd_same _ _ _,by simp⟩)
   ·cases c
theorem ac3 {t:TypeId}{x y:Operand}(D:iZ S)(ho:o.op= .store t x y)(hTy:∀t r,T t=some r->eP P t r)(h:Hp S w0 N blk g al w)(W:(aG slot x).Rel S (aY N blk g) w g (a.eval x))(U:(aG slot y).Rel S (aY N blk g) w g (a.eval y))
  (c:DZ T S blk t (aG slot x) (aG slot y)=some out) (L:nH out.pre) (hK:Post S w0 N blk g al w fr out o.dst a K):o.wp P a w K Q:=by
 unfold DZ at c;split at c
 ·cases c
 ·rename_i e n sz E;obtain⟨r,te,hty,hte,hsz,h0,aam,hag,zU,Z,Ld⟩:=yM hTy E;have TQ:=mg Z w;split at c
  ·rename_i l i j s cs R FU;rw[R]at W;rw[FU]at U;obtain⟨b,n',cap,X,hv⟩:=W;split at c
   ·rename_i hc;simp only[jA]at hc;obtain⟨⟨F,C,H⟩,c4⟩:=hc;have F:=Qa F;have C:=Qa C;have H:=Qa H;subst F C H;split at c
    ·rename_i I d hb;split at c
     ·rename_i d' hd;split at c
      ·rename_i J;simp only[jA]at J;have hs:=Qa J.1;have hs':=Qa J.2;injection c with c
       subst c;have L:S.len d=n:=L;obtain⟨m1,m2,m3⟩:=D.make _ _ _ _ hd;rw[Qby]at m2;obtain⟨m,ag,q⟩:=U;have hul:=q.length;obtain⟨v,k,hm,xs,⟨hxl,M⟩,hcell⟩:=h.dD l _ hb;rw[X]at k;injection k with k
       subst k;rcases M with⟨q0,_⟩ | ⟨b',cap',f,hvv,_,hh,hnc,hcm,hcs,htake⟩
       ·cases q0
       ·injection hvv with p q2 q3
        injection p with p
        injection p with p
        subst p q2 q3;have ab:w.heap[b]? =some (.cells (f.toList).toArray I (0,0)):=by simpa using hh
        have hcap:S.len d*S.size d<=f.toList.length:=by grind
        have hlu:m.length=S.len d*S.size d:=by grind
        obtain⟨w',B,hb',O,hsm,r1,r2,r3⟩:=mX (P:=P) b I m w f.toList 0 0 ab au (LX h.refs c4 q);have u:(execOp a.eval o).run P w= .ok .skip w':=by
         have G:m.length=r.size:=by grind
         simp[execOp,ho,Instr.storeAt,Instr.sureAddr,hv,storeVar,TQ,ag,Value.cells,G,B]
        obtain⟨ad,hk'⟩:=h.write (bk':= .row I d') hb rfl rfl X rfl r1 r2 r3 hsm O (fun hk=>by
         refine⟨⟨hm.1,by omega,by apply D.ZO;assumption⟩,m,⟨by grind, .inr ⟨b,cap,(f.toList.take (0+0)++(m++f.toList.drop (0+0+m.length))).toArray,by rw[m1,<-L],Jd _,hb',by omega,hcm,?_,?_⟩⟩,fun i' j' z A=> ?_⟩
         ·grind
         ·grind
         ·rw[m1]at z;obtain⟨x0,aa,Y⟩:=m3 i' j' z A;obtain⟨uv,V,ac⟩:=q.norm.get _ aa;exact⟨uv,V,D.data _ _ _ au A,(Y.rel ac).keep hk (More.refl _)⟩)
        exact Nb u (hK _ _ _ (More.refl _) hk' (ad.weaken fun n O=> .inl O) trivial)
      ·cases c
     ·cases c
    ·cases c
   ·cases c
  ·cases c
theorem apg {cs:List (Lf D)}{a j:Nat}:∀(n r k:Nat),k < n->(aaF cs a j r n)[k]? =some (match cs[(r+k)*a+j]? with
  | some x=>x
  | none=> .any)
 | 0,r,k,h=>by omega
 | n+1,r,0,h=>by simp[aaF]
 | n+1,r,k+1,h=>by
  simp only[aaF,List.getElem?_cons_succ];rw[apg n (r+1) k au,show r+1+k=r+(k+1) by omega]
theorem ai3 {k:IntKind}:∀{cs:List (Lf D)} {l:List Int},intsOf k cs=some l->∀(i:Nat) (x:Lf D),cs[i]? =some x->x= .int k (l.getD i 0)
 | [],l,h,i,x,hx=>by simp at hx
 | c::cs,l,h,i,x,hx=>by
  cases c with
  | int b n=>
   simp only[intsOf]at h;split at h
   ·rename_i a;have a:k=b:=by simpa[kEq]using a
    subst a;split at h
    ·rename_i e d;injection h with h
     subst h;cases i with
     | zero=>grind
     | succ i=>have:=ai3 d i x qci;grind
    ·cases h
   ·cases h
  | _=>simp[intsOf]at h
theorem strs_get:∀{cs:List (Lf D)} {l:List (List UInt8)},strsOf cs=some l->∀(i:Nat) (x:Lf D),cs[i]? =some x->x= .str (l.getD i [])
 | [],l,h,i,x,hx=>by simp at hx
 | c::cs,l,h,i,x,hx=>by
  cases c with
  | str s=>
   simp only[strsOf]at h;split at h
   ·rename_i b a;injection h with h
    subst h;cases i with
    | zero=>grind
    | succ i=>have:=strs_get a i x qci;grind
   ·cases h
  | _=>simp[strsOf]at h
theorem acn:∀{cs:List (Lf D)} {l:List Bool},Nk cs=some l->∀(i:Nat) (x:Lf D),cs[i]? =some x->x= .bool (l.getD i false)
 | [],l,h,i,x,hx=>by simp at hx
 | c::cs,l,h,i,x,hx=>by
  cases c with
  | bool s=>
   simp only[Nk]at h;split at h
   ·rename_i b a;injection h with h
    subst h;cases i with
    | zero=>grind
    | succ i=>have:=acn a i x qci;grind
   ·cases h
  | _=>simp[Nk]at h
theorem awv {cs:List (Lf D)}{i:Nat}{p x:Lf D}(h:amu cs i=some p)(b:cs[i]? =some x):x=p:=by
 unfold amu at h;split at h
 ·split at h
  ·rename_i l a;injection h with h;subst h;exact ai3 a i x b
  ·cases h
 ·split at h
  ·rename_i l a;injection h with h;subst h;exact strs_get a i x b
  ·cases h
 ·split at h
  ·rename_i l a;injection h with h;subst h;exact acn a i x b
  ·cases h
 ·cases h
theorem SI {cs:List (Lf D)}{b:List Value}{a n i:Nat}(o:bf S M w g cs b)(y:cs.length=n*a)(e:i < n):∀(m j:Nat) (c:List (Lf D)),j+m=a->pickRow cs a n i j m=some c->bf S M w g c ((b.drop (i*a+j)).take m)
 | 0,j,c,q,h=>by simp[pickRow]at h;subst h;simp[bf]
 | m+1,j,c,q,h=>by
  unfold pickRow at h;split at h
  ·rename_i x t v r;injection h with h
   subst h;have z:=vH e (show j < a by omega);have d:i*a+j < cs.length:=by omega
   have s:(aaF cs a j 0 n)[i]? =some cs[i*a+j]:=by
    rw[apg n 0 i e,zM,Qav d]
   have l:=awv v s;obtain⟨u,A,k⟩:=o.get (i*a+j) (Qav d);have f:i*a+j < b.length:=by grind
   have p:b.drop (i*a+j)=u::b.drop (i*a+(j+1)):=by
    rw[Qbc f]
    grind
   rw[p,Qcb];exact⟨l▸k,SI o y e m (j+1) t au r⟩
  ·cases h
theorem acM {t:TypeId}{x q:Operand}(L:o.op= .index t x q)(X:∀t C,T t=some C->eP P t C)(h:Hp S w0 N blk g al w)(M:(aG slot x).Rel S (aY N blk g) w g (a.eval x))
  (s:(aG slot q).Rel S (aY N blk g) w g (a.eval q)) (b:U0 T t (aG slot x) (aG slot q)=some out) (U:nH out.pre) (R:Post S w0 N blk g al w fr out o.dst a K):o.wp P a w K Q:=by
 unfold U0 at b;split at b
 ·cases b
 ·rename_i e n c D;obtain⟨C,te,hty,V,A,h0,aam,hag,I,hok,W⟩:=AP X D;rw[V]at b;dsimp only at b;have z:=mg W w;have y:=zB W w;split at b
  ·rename_i cs k m G H;rw[G]at M;rw[H]at s;simp only[Sl.Rel,Sv.Rel,Lf.Rel]at s;obtain⟨d,E,hr⟩:=M;split at b
   ·rename_i Y;simp only[jA]at Y;have hl:=Qa Y.1;split at b
    ·rename_i O F;have B:0<=m/\m < n->bf S (aY N blk g) w g O ((d.drop (m.toNat*c)).take c):=fun hm=>by
      have:=SI hr.norm qg (show m.toNat < n by omega) c 0 O au F;omega
     split at b
     ·rename_i i;injection b with b
      subst b;obtain⟨p,f⟩:=U;have j:=B ⟨p,f⟩;refine bg (v:= .agg ((d.drop (m.toNat*c)).take c).toArray) ?_ h R rfl ⟨_,rfl,j⟩;have he:d.toArray.extract (m.toNat*c) (m.toNat*c+c)=((d.drop (m.toNat*c)).take c).toArray:=by
       grind
      simp[execOp,L,Instr.index,s,asIntOf,run_underlying I,E,p,f,part,y,i,z,A,he]
     ·rename_i i;split at b
      ·rename_i l;injection b with b
       subst b;obtain⟨p,f⟩:=U;have j:=B ⟨p,f⟩;have J:=j.length;cases Z:(d.drop (m.toNat*c)).take c with
       | nil=>grind
       | cons u r=>
        rw[Z]at j J;have hu:d[m.toNat*c]? =some u:=by
         have:((d.drop (m.toNat*c)).take c)[0]? =some u:=by rw[Z];rfl
         grind
        refine bg (v:=u) ?_ h R rfl j.1;simp[execOp,L,Instr.index,s,asIntOf,run_underlying I,E,p,f,part,y,i,z,A,hu]
      ·cases b
    ·cases b
   ·cases b
  ·cases b
theorem adi {t:TypeId}{parts:Array (Nat×Operand)}(B:o.op= .build t parts)(s:∀t f,T t=some f->eP P t f)(h:Hp S w0 N blk g al w)
  (G:∀t,(slot t).Rel S (aY N blk g) w g (a.tmps.getD t undef)) (b:UY T slot t parts=some out) (C:Post S w0 N blk g al w fr out o.dst a K):o.wp P a w K Q:=by
 unfold UY at b;split at b
 ·cases b
 ·rename_i e n sz j;obtain⟨f,L,l,J,q,M,H,I,A,u,F⟩:=AP s j;rw[l]at b;dsimp only at b;split at b
  ·rename_i cs D;injection b with b
   subst b;obtain⟨z,E,r⟩:=EQ u w;have m:=mg F w;obtain⟨d,c,y⟩:=VB (a:=a) (sz:=sz) h.refs G parts.toList _ cs z.cells (by rw[r];exact ui _) D;refine bg (v:= .agg d) ?_ h C rfl ⟨d.toList,by simp,y⟩;have k:parts.toList.map (fun p=>(p.1,a.eval p.2))=(parts.map fun(i,x)=>(i,a.eval x)).toList:=by simp
   rw[k]at c;simp at c;simp[execOp,B,Instr.build,E,run_underlying A,m,q,c]
  ·cases b
theorem abI {F:TypeId}{d p z h:D}{b i j n f:Nat}{K:List (Lf D)}{zv:List Value}{cur a:Array Value}{e:TypeId}(s:iZ S)(hm:w0.Mine b)(aa:S.len d<=9223372036854775807)
  (Z:i<=j) (hj:j=S.len d) (O:n=S.len d) (A:S.sub d 0 i=some p) (T:S.zero e (j - i) K=some z) (C:S.cat p z=some h)
  (w:∀r c,r < S.len d->c < S.size d->∃u,cur[r*S.size d+c]? =some u/\(S.cell d r c).jY=true/\(S.cell d r c).Rel S M w' g u)
  (J:bf S M w' g K zv) (y:n<=f) (I:f<=maxLen) (N:a.size=f*S.size d)
  (R:w'.heap[b]? =some (.cells a F (0,0))) (W:∀k,k < i*S.size d->a[k]? =cur[k]?) (h2:∀r c,i<=r->r < j->c < S.size d->a[r*S.size d+c]? =zv[c]?):
  zS S M w' g w0 (.row F h) (.slice (some ⟨b,0,none⟩) n f):=by
 obtain⟨a1,a2,a3⟩:=s.sub _ _ _ _ A (Jd _) au;obtain⟨z1,z2,Y⟩:=s.zero _ _ _ _ T;obtain⟨X,U,c3,c4,c5⟩:=s.cat _ _ _ C;have o:S.size h=S.size d:=by rw[<-X,a1]
 have P:S.size z=S.size d:=by rw[U,o]
 have l:S.len h=S.len d:=by omega
 have v:S.len d*S.size d<=a.size:=by rw[N,<-O];exact Qbu _ y
 refine⟨⟨fun b' H=>by simp only[eH,TC]at H;grind,by omega,s.ZN _ _ _ C⟩,a.toList.take (S.len d*S.size d),⟨?_, .inr ⟨b,f,a,by rw[l,O],Jd _,R,by omega,I,by grind,by rw[l,o]⟩⟩,fun r c B t=> ?_⟩
 ·grind
 ·rw[l]at B;rw[o]at t;have E:=vH B t;have q:=s.data h r c au au;rw[o,Qcr,nI E,Array.getElem?_toList];by_cases L:r < i
  ·obtain⟨u,V,q2,q3⟩:=w r c B t;have m:S.cell h r c=S.cell d r c:=by
    grind
   refine⟨u,by rw[W _ (by have:=vH L t;omega)];exact V,q,by grind⟩
  ·have m:S.cell h r c=S.cell z (r - i) c:=by
    grind
   obtain⟨x,Q,v⟩:=Y (r - i) c au au;obtain⟨u,hu,G⟩:=J.get c Q;refine⟨u,by grind,q,by rw[m];exact v.rel G⟩
theorem Qh {z:Array Value}{n k:Nat}(a:k < n*z.size):(Builtin.zeroCells z n).toList[k]? =z[k % z.size]? :=by
 have b:0 < z.size:=by
  grind
 have c:k % z.size < z.size:=Qdl _ b;simp[Builtin.zeroCells,a,c]
theorem ahS {c:Call}{x:Operand}(F:iZ S)(ho:o.op= .call c)(C:c.callee= .builtin .clear)(hargs:c.args.toList=[x])(hTy:∀t ty,T t=some ty->eP P t ty)(h:Hp S w0 N blk g al w)(hx:(aG slot x).Rel S (aY N blk g) w g (a.eval x))
  (s:Qq T S blk c.argTypes (aG slot x)=some out) (hp:nH out.pre) (hK:Post S w0 N blk g al w fr out o.dst a K):o.wp P a w K Q:=by
 unfold Qq at s;split at s
 ·rename_i t hts;split at s
  ·cases s
  ·rename_i ty hty;split at s
   ·cases s
   ·rename_i e hel;split at s
    ·cases s
    ·rename_i te hte;split at s
     ·rename_i l i j y f hex;rw[hex]at hx;obtain⟨av,n,ab,O,E,hij,hjn,_⟩:=hx;split at s
      ·rename_i X d Y;split at s
       ·rename_i J;simp only[jA]at J;obtain⟨q1,q2,q3,q4⟩:=J;have q1:=Qa q1;have q2:=Qa q2;have q3:0 < y:=by simp_all
        have q4:=Qa q4;split at s
        ·rename_i p z G hz;split at s
         ·rename_i d' Jj;injection s with s
          subst s;have hj:j=S.len d:=hp;have R:=lF (hTy _ _ hty) hel;obtain⟨zv,hzv,hzc⟩:=EQ (hTy _ _ hte) w;have hzs:zv.cells.size=y:=by grind
          obtain⟨v,B,hm,xs,⟨hxl,hown⟩,hcell⟩:=h.dD l _ Y;rw[O]at B;injection B with B
          have U:c.args= #[x]:=by grind
          have Z:c.argTypes= #[t]:=by grind
          rcases hown with⟨h0,hn0⟩ | ⟨b,cap',cur,hvv,_,hh,hnc,hcm,hcs,htake⟩
          ·rw[h0]at B;injection B with e1 e2 e3
           subst e1 e2 e3;have hj0:j=0:=by omega
           have hi0:i=0:=by omega
           subst hj0 hi0;obtain⟨a1,a2,a3⟩:=F.sub _ _ _ _ G (Jd _) au;obtain⟨z1,z2,z3⟩:=F.zero _ _ _ _ hz;obtain⟨c1,c2,c3,c4,c5⟩:=F.cat _ _ _ Jj;have hl0:S.len d'=0:=by rw[c3,a2,z1]
           obtain⟨g1,g2⟩:=h.amT (bk':= .row X d') Y rfl rfl O ⟨⟨fun b Y=>by grind,by omega,F.ZN _ _ _ Jj⟩,[],⟨by simp[hl0], .inl ⟨rfl,hl0⟩⟩,fun r c hr=>by omega⟩;have A:(execOp a.eval o).run P w= .ok (.value (.tuple #[])) w:=by
            have E:a.eval x= .slice none 0 0:=by rw[E];simp[sliced]
            simp[execOp,ho,resolve,C,invoke,builtin,U,Z,Builtin.clear_,run_underlying R,E]
           exact lL A (hK _ _ _ (More.refl _) g2 (g1.weaken fun n H=> .inl H) ⟨[],rfl,trivial⟩)
          ·rw[hvv]at B;injection B with e1 e2 e3
           subst e1 e2 e3;have ac:∀r c,r < S.len d->c < S.size d->∃u,cur[r*S.size d+c]? =some u/\(S.cell d r c).jY=true/\(S.cell d r c).Rel S (aY N blk g) w g u:=by
            grind
           have hmb:w0.Mine b:=hm.1 b (by rw[hvv];rfl);have I:bf S (aY N blk g) w g (te.zero.map fun v=>(D8 v:Lf D).norm) zv.cells.toList:=by
            have:=(ui (D:=D) (S:=S) (M:=aY N blk g) (w:=w) (g:=g) te.zero).norm;rw[Qcy,<-hzc]at this;rw[<-hzc];exact this
           by_cases hlt:i < j
           ·have aIm:¬ab=i:=by omega
            have hva:a.eval x= .slice (some ⟨b,i*y,none⟩) (j - i) (ab - i):=by rw[E];simp[sliced,aIm,m_]
            have hh':w.heap[b]? =some (.cells (cur.toList).toArray X (0,0)):=by simpa using hh
            have hul:(Builtin.zeroCells zv.cells (j - i)).toList.length=(j - i)*y:=by rw[Qc8,size_zeroCells,hzs]
            have hji:i*y+(j - i)*y=j*y:=by rw[<-Qdx];congr 1;omega
            have hjc:j*y<=cur.toList.length:=by grind
            have hone:(Builtin.zeroCells zv.cells (j - i)).toList.all one'=true:=by
             rw[Qbd];intro u hu;obtain⟨k,V,rfl⟩:=Qds hu;have aa:k < (j - i)*zv.cells.size:=by grind
             have O:=Qh aa;rw[Qav V]at O;have hmem:(Builtin.zeroCells zv.cells (j - i)).toList[k]∈zv.cells.toList:=by
              grind
             obtain⟨m,hm',he⟩:=Qds hmem;obtain⟨x0,hx0,hxr⟩:∃x0:Lf D,(te.zero.map fun v=>(D8 v:Lf D).norm)[m]? =some x0/\x0.Rel S (aY N blk g) w g zv.cells.toList[m]:=by
              have hlm:=I.length;have hm2:m < (te.zero.map fun v=>(D8 v:Lf D).norm).length:=by omega
              obtain⟨u,hu1,hu2⟩:=I.get m (Qav hm2)
              grind
             obtain⟨z1,z2,z3⟩:=F.zero _ _ _ _ hz;have hmz:m < S.size z:=by grind
             obtain⟨x1,L,hle⟩:=z3 0 m au hmz;rw[hx0]at L;injection L with L
             subst L;have:=V5 (F.data z 0 m au hmz) (hle.rel hxr);rw[<-he];exact this
            obtain⟨w',A,hb',H,hsm,r1,r2,r3⟩:=mX (P:=P) b X (Builtin.zeroCells zv.cells (j - i)).toList w cur.toList (i*y) 0 hh' au hone;generalize W:(Builtin.zeroCells zv.cells (j - i)).toList=us at*;obtain⟨hp',aa⟩:=h.write (bk':= .row X d') Y rfl rfl O rfl r1 r2 r3 hsm H (fun V=>
             abI (cur:=cur) (zv:=zv.cells.toList) F hmb hm.2.1 hij hj rfl G hz Jj (fun r c hr C=>by obtain⟨u,u1,u2,u3⟩:=ac r c hr C;exact⟨u,u1,u2,u3.keep V (More.refl _)⟩)
              (I.keep V (More.refl _)) hnc hcm (by
               grind) hb' (fun k V=>by
               grind)
              (fun r c hr1 hr2 C=>by
               rw[<-q2]at C⊢;have hpos:i*y<=r*y:=Qbu _ hr1;have hrc:r*y+c - i*y=(r - i)*y+c:=by rw[Nat.sub_mul];omega
               have hlu:(r - i)*y+c < us.length:=by
                rw[hul];exact vH au C
               rw[List.getElem?_toArray,Qb5 qg];have hidx:r*y+c - (cur.toList.take (i*y+0)).length=(r - i)*y+c:=by
                grind
               rw[hidx,Qc4 hlu,<-W,Qh qg,hzs,Qb0,Qeg,Qcs C,Array.getElem?_toList]))
            have hrun':(execOp a.eval o).run P w= .ok (.value (.tuple #[])) w':=by
             obtain⟨m,hm'⟩:∃m,j - i=m+1:=⟨j - i - 1,by omega⟩;rw[hm']at hva W;simp[execOp,ho,resolve,C,invoke,builtin,U,Z,Builtin.clear_,run_underlying R,hva,hzv,W,A]
            exact lL hrun' (hK _ _ _ (More.refl _) aa (hp'.weaken fun n H=> .inl H) ⟨[],rfl,trivial⟩)
           ·have hie:i=j:=by omega
            subst hie;obtain⟨g1,g2⟩:=h.amT (bk':= .row X d') Y rfl rfl O (abI (cur:=cur) (zv:=zv.cells.toList) F hmb hm.2.1 hij hj rfl G hz Jj ac I hnc hcm hcs hh (fun _ _=>rfl) (fun r c h1 h2=>by omega));have A:(execOp a.eval o).run P w= .ok (.value (.tuple #[])) w:=by
             have E:∃q,a.eval x= .slice (some q) 0 (ab - i):=by
              rw[E];unfold sliced
              grind
             obtain⟨q,E⟩:=E;simp[execOp,ho,resolve,C,invoke,builtin,U,Z,Builtin.clear_,run_underlying R,E]
            exact lL A (hK _ _ _ (More.refl _) g2 (g1.weaken fun n H=> .inl H) ⟨[],rfl,trivial⟩)
         ·cases s
        ·cases s
       ·cases s
      ·cases s
     ·cases s
 ·cases s
theorem aqa (e:∀t u,T t=some u->eP P t u)(v:∀f z,Γ f=some z->fK P S f z)(p:iZ S)(h:Hp S w0 N blk g al w)(r:∀n,fr<=n->n < fr+64->¬al n)
  (s:∀t,(slot t).Rel S (aY N blk g) w g (a.tmps.getD t undef)) (j:Bi T S Γ slot blk fr o.op=some out) (m:nH out.pre) (k:Post S w0 N blk g al w fr out o.dst a K):o.wp P a w K Q:=by
 unfold Bi at j;split at j
 ·rename_i B d;injection j with j
  subst j;have l:=pR s;unfold oL at d;split at d
  ·rename_i t b;exact acx p b e h r d k
  ·rename_i t x b;exact aht b e h (l x) d m k
  ·rename_i t x y b;exact ac3 p b e h (l x) (l y) d m k
  ·rename_i t x i b;exact ada b e h (l x) (l i) d m k
  ·rename_i t x i b;exact acM b e h (l x) (l i) d m k
  ·rename_i t parts b;exact adi b e h s d k
  ·rename_i c b;split at d
   ·rename_i A;split at d
    ·rename_i x q;exact ahS p b A q e h (l x) d m k
    ·cases d
   ·cases d
  ·rename_i t x b;exact asC b e h (l x) d k
  ·rename_i x C t b;exact aeO b e h (l x) d m k
  ·cases d
 ·exact arh e v p h r s j m k
end
end Go.Vc
namespace Go.Vc
open Go.RowKit
def sZ (s:List UInt8)(p:Nat):Int:=((Utf8.decode ⟨s.toArray⟩ p).1:Nat)
def Df (s:List UInt8)(p:Nat):Nat:=(Utf8.decode ⟨s.toArray⟩ p).2
section
variable {D:Type}
def akJ (T:TypeId->Option Ty)(a:Nat)(t:TypeId)(x:Sl D):Option (Out D):=
 match T t with
 | none=>none
 | some b=>(match x with
  | .one (.lf (.str s))=>if Nat.beq b.kind 3 then some ⟨none, .one (.lf (.ptr a 0)),[(a,some (.iter s 0))]⟩else none
  | _=>none)
def Di (T:TypeId->Option Ty)(S:Sh D)(d:FuncId->Option (Ct D))(a:Nat->Sl D)(c:Nat->Option (Bk D))(b:Nat)(op:Op):Option (Out D):=
 match op with
 | .range t x=>akJ T b t (aG a x)
 | op=>Bi T S d a c b op
def FB (a:Nat->Sl D)(b:Nat->Option (Bk D))(c:Op):Option (Bool×Out D×Out D):=
 match c with
 | .next d true=>(match aG a d with
  | .one (.lf (.ptr l o))=>if Nat.beq o 0 then(match b l with
   | some (.iter s p)=>some (decide (p < s.length),⟨none, .wU [.lf (.val (.bool true)), .lf (.int .i64 p), .lf (.int .i32 (sZ s p))],[(l,some (.iter s (p+Df s p)))]⟩,⟨none, .wU [.lf (.val (.bool false))],[]⟩)
   | _=>none)else none
  | _=>none)
 | _=>none
end
section
variable {D:Type}{P:Program}{S:Sh D}{T:TypeId->Option Ty}{Γ:FuncId->Option (Ct D)}{M M' N:Nat->Prop}{w w':World}{w0:Bs}{g g':Nat->Option Value}{blk blk':Nat->Option (Bk D)}{al:Nat->Prop}
 {a:Act} {o:Oper} {K:Act->World->Prop} {Q:Exit->Act->World->Prop} {slot cO:Nat->Sl D} {out:Out D} {fr:Nat}
theorem ahG {t:TypeId}{x:Operand}(A:o.op= .range t x)(q:∀t i,T t=some i->eP P t i)(h:Hp S w0 N blk g al w)(p:∀n,fr<=n->n < fr+64->¬al n)(e:(aG slot x).Rel S (aY N blk g) w g (a.eval x))
  (c:akJ T fr t (aG slot x)=some out) (B:Post S w0 N blk g al w fr out o.dst a K):o.wp P a w K Q:=by
 unfold akJ at c;split at c
 ·cases c
 ·rename_i i k;split at c
  ·rename_i s m;rw[m]at e;simp only[Sl.Rel,Sv.Rel,Lf.Rel]at e;split at c
   ·rename_i f;have f:=Qa f;obtain⟨d,u,r⟩:=oz (q _ _ k);rw[f]at r;have u:P.underlying t=some .string:=by cases d<;>simp_all [kindOf]
    injection c with c
    subst c;have j:(execOp a.eval o).run P w= .ok (.value (.pointer (some ⟨w.heap.size,0,none⟩))) (w.alloc (.stringIter ⟨s.toArray⟩ 0)):=by
     simp[execOp,A,Instr.range,e.1,run_underlying u,newObj,Sem.run]
    have D:Below w.heap.size w (w.alloc (.stringIter ⟨s.toArray⟩ 0)):=(Below.refl w.heap.size w).alloc (rC _) _;obtain⟨C,E,z⟩:=h.add (l:=fr) (bk:= .iter s 0) (v:= .pointer (some ⟨w.heap.size,0,none⟩)) D (p fr (rC _) au) (fun b y=>by simp[eH]at y;omega)
     (fun M' f _=>⟨e.2,w.heap.size,rfl, .inl h.below.size,heap_alloc_new w _⟩)
    exact lL j (B _ _ _ z E (C.weaken Xy) ⟨w.heap.size,upd_same _ _ _,rfl⟩)
   ·cases c
  ·cases c
theorem run_next_at {s:ByteArray}{p b:Nat}{ty:TypeId}(a:w.heap[b]? =some (.stringIter s p))(h:p < s.size):(Instr.next (.pointer (some ⟨b,0,none⟩)) true ty).run P w=
  .ok (.tuple #[.bool true, .int .i64 p, .int .i32 ((Utf8.decode s p).1:Nat)]) {w with heap:=w.heap.setIfInBounds b (.stringIter s (p+(Utf8.decode s p).2))}:=by
 simp only[Instr.next,getObj,setObj,Sem.run_bind,Sem.run,a,Result.andThen,h,if_true];simp[goInt]
theorem ahr {s:ByteArray}{p b:Nat}{ty:TypeId}(a:w.heap[b]? =some (.stringIter s p))(h:¬p < s.size):(Instr.next (.pointer (some ⟨b,0,none⟩)) true ty).run P w= .ok (.tuple #[.bool false]) w:=by
 simp[Instr.next,getObj,Sem.run,a,h]
theorem ajQ {b:Bool}{B y:Out D}(h:Hp S w0 N blk g al w)(M:∀t,(slot t).Rel S (aY N blk g) w g (a.tmps.getD t undef))
  (d:FB slot blk o.op=some (b,B,y)) (k:Post S w0 N blk g al w fr (bif b then B else y) o.dst a K):o.wp P a w K Q:=by
 have J:=pR M;unfold FB at d;split at d
 ·rename_i H z;have i:=J H;split at d
  ·rename_i l T u;rw[u]at i;split at d
   ·rename_i e;have e:=Qa e;subst e;obtain⟨A,C,i⟩:=i;split at d
    ·rename_i s p r;injection d with d
     injection d with W d
     injection d with L I
     obtain⟨v,c,x,V,rfl,O,m⟩:=h.dD l _ r;rw[C]at c;injection c with c
     injection c with c
     injection c with c
     injection c with c
     subst c;have R:(ByteArray.mk s.toArray).size=s.length:=by rfl
     by_cases U:p < s.length
     ·have j:b=true:=by grind
      subst j;rw[cond_true]at k;subst L;have f:=run_next_at (P:=P) (ty:=o.type) m au;have q:=Ui m;obtain⟨E,F⟩:=h.write (w':={w with heap:=w.heap.setIfInBounds A (.stringIter ⟨s.toArray⟩ (p+Df s p))}) (bk':= .iter s (p+Df s p)) r rfl rfl C rfl rfl rfl rfl kM
       (fun n G=>by
        grind) (fun X=>⟨x,A,rfl,O,by simp[q]⟩)
      refine lL (v:= .tuple #[.bool true, .int .i64 p, .int .i32 (sZ s p)]) ?_ (k _ _ _ (More.refl _) F (E.weaken fun n G=> .inl G) ⟨[.bool true, .int .i64 p, .int .i32 (sZ s p)],rfl,rfl,rfl,rfl,trivial⟩);simp only[execOp,z,i,Sem.run_bind,f,Result.andThen_ok,Sem.run_pure];rfl
     ·have j:b=false:=by grind
      subst j;rw[jm]at k;subst I;have f:=ahr (P:=P) (ty:=o.type) m au;refine bg (v:= .tuple #[.bool false]) ?_ h k rfl ⟨[.bool false],rfl,rfl,trivial⟩;simp only[execOp,z,i,Sem.run_bind,f,Result.andThen_ok,Sem.run_pure]
    ·cases d
   ·cases d
  ·cases d
 ·cases d
end
end Go.Vc
