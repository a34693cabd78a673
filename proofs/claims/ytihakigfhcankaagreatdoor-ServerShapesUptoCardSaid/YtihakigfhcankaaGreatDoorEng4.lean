/- Own engine: Vdh, Vdt, Vdu, Vdv, Vdw. -/
import Derived.Test.YtihakigfhcankaaGreatDoorEng3
import Derived.Laws.RangeString
set_option linter.unusedVariables false
set_option linter.unusedSimpArgs false
namespace Go.Vc
open Go.RowKit
section
variable {D:Type}{P:Program}{S:Sh D}{T:TypeId->Option Ty}{Γ:FuncId->Option (Ct D)}{M M' N:Nat->Prop}{w w':World}{w0:Bs}{g g':Nat->Option Value}{blk blk':Nat->Option (Bk D)}{al:Nat->Prop}
 {a:Act} {o:Oper} {K:Act->World->Prop} {Q:Exit->Act->World->Prop} {slot:Nat->Sl D} {out:Out D} {fr:Nat} {ids jr:List Nat}
structure anx (N:Nat->Prop)(blk:Nat->Option (Bk D))(g:Nat->Option Value)(jr:List Nat)(M':Nat->Prop):Prop where
 sub:∀b,M' b->aW N blk g b
 off:∀l∈jr,∀v b,hot (blk l)=true->g l=some v->d_ v=some b->¬M' b
theorem Lf.Rel.view (hS:jd S){x:Lf D}{v:Value}(h:Hp S w0 N blk g al w)(hs:anx N blk g jr M')(hv:∀l∈x.owns,l∈jr)(hr:x.Rel S (aW N blk g) w g v):(x.view blk).Rel S M' w g v:=by
 cases x with
 | own l=>
  have hr:g l=some v:=hr;simp only[Lf.view];split
  ·rename_i e d hb;exact IV h hb hr hs.sub (fun b hbv=>hs.off l (hv l (by simp[Lf.owns])) v b qch hr hbv)
  ·rename_i d hb;exact ahw hS h qch hr hs.sub (fun b hbv=>hs.off l (hv l (by simp[Lf.owns])) v b qch hr hbv)
  ·rename_i d hb;obtain⟨v',hv',hok⟩:=h.dH l _ hb;rw[hr]at hv';injection hv' with hv'
   subst hv';exact dA.mono hok hs.sub
  ·exact hr
 | part l i j sz f=>
  obtain⟨av,n,cap,hg,rfl,h1,h2,rfl⟩:=hr;have cut:∀d d',dA S M' w d (.slice av n cap)->Xq S sz i j d=some d'->dA S M' w d' (sliced av i j cap sz):=by
   intro d d' hd hf;unfold Xq at hf;split at hf
   ·rename_i hz;have hz:=Qa hz;obtain⟨a',cap',e1,_⟩:=dA.slice' hd (hS.Gx _ _ _ _ hf).1;injection e1 with _ e1 _
    have:=FD hS hd hf h1 au;rw[hz];exact this
   ·cases hf
  simp only[Lf.view];split
  ·rename_i e d hb;split
   ·rename_i d' hf;exact cut d d' (IV h hb hg hs.sub (fun b hbv=>hs.off l (hv l (by simp[Lf.owns])) _ b qch hg hbv)) hf
   ·trivial
  ·rename_i d hb;split
   ·rename_i d' hf;obtain⟨v',hv',hok⟩:=h.dH l _ hb;rw[hg]at hv';injection hv' with hv'
    subst hv';exact cut d d' (dA.mono hok hs.sub) hf
   ·trivial
  ·exact⟨av,n,cap,hg,rfl,h1,h2,rfl⟩
 | dat d=>exact dA.mono hr hs.sub
 | elt d i j=>obtain⟨a,n,cap,h1,h2⟩:=hr;exact⟨a,n,cap,h1.mono hs.sub,h2⟩
 | xt e=>exact Xt.Rel.mono hr hs.sub
 | _=>exact hr
theorem aZ.view (hS:jd S)(h:Hp S w0 N blk g al w)(hs:anx N blk g jr M'):∀{xs:List (Lf D)} {vs:List Value},(∀l∈xs.flatMap Lf.owns,l∈jr)->aZ S (aW N blk g) w g xs vs->aZ S M' w g (xs.map (Lf.view blk)) vs
 | [],[],_,_=>trivial
 | x::xs,v::vs,hv,hr=>⟨hr.1.view hS h hs (fun l hl=>hv l qci),aZ.view hS h hs (fun l hl=>hv l qb6) hr.2⟩
theorem Sv.Rel.view (hS:jd S){x:Sv D}{v:Value}(h:Hp S w0 N blk g al w)(hs:anx N blk g jr M')(hv:∀l∈x.owns,l∈jr)(hr:x.Rel S (aW N blk g) w g v):(x.view blk).Rel S M' w g v:=by
 cases x with
 | lf x=>exact Lf.Rel.view hS h hs hv hr
 | agg xs=>obtain⟨vs,h1,h2⟩:=hr;exact⟨vs,h1,h2.view hS h hs hv⟩
theorem iI.view (hS:jd S)(h:Hp S w0 N blk g al w)(hs:anx N blk g jr M'):∀{xs:List (Sv D)} {vs:List Value},(∀l∈xs.flatMap Sv.owns,l∈jr)->iI S (aW N blk g) w g xs vs->iI S M' w g (xs.map (Sv.view blk)) vs
 | [],[],_,_=>trivial
 | x::xs,v::vs,hv,hr=>⟨hr.1.view hS h hs (fun l hl=>hv l qci),iI.view hS h hs (fun l hl=>hv l qb6) hr.2⟩
theorem Sl.Rel.view (hS:jd S){x:Sl D}{v:Value}(h:Hp S w0 N blk g al w)(hs:anx N blk g jr M')(hv:∀l∈x.owns,l∈jr)(hr:x.Rel S (aW N blk g) w g v):(x.view blk).Rel S M' w g v:=by
 cases x with
 | one x=>exact Sv.Rel.view hS h hs hv hr
 | xx xs=>obtain⟨vs,h1,h2⟩:=hr;exact⟨vs,h1,h2.view hS h hs hv⟩
theorem iw.view (hS:jd S)(h:Hp S w0 N blk g al w)(hs:anx N blk g jr M'):∀{xs:List (Sl D)} {vs:List Value},(∀l∈xs.flatMap Sl.owns,l∈jr)->iw S (aW N blk g) w g xs vs->iw S M' w g (xs.map (Sl.view blk)) vs
 | [],[],_,_=>trivial
 | x::xs,v::vs,hv,hr=>⟨hr.1.view hS h hs (fun l hl=>hv l qci),iw.view hS h hs (fun l hl=>hv l qb6) hr.2⟩
theorem iw.less (hM:∀b,M' b->M b):∀{xs:List (Sl D)} {vs:List Value},iw S M w g xs vs->iw S M' w g xs vs
 | [],[],_=>trivial
 | x::xs,v::vs,hr=>by
  refine⟨?_,iw.less hM hr.2⟩;have:=hr.1.ren (g':=g) (M':=M') (f:=fun l=>l) (fun _ _ _ hu=>hu) (fun _=>hM);have e:x.ren (fun l=>l)=x:=by
   have e1:∀y:Lf D,y.ren (fun l=>l)=y:=fun y=>by cases y<;>simp[Lf.ren]
   have e2:∀y:Sv D,y.ren (fun l=>l)=y:=fun y=>by cases y with
    | lf y=>simp[Sv.ren,e1]
    | agg ys=>simp only[Sv.ren];congr 1;exact(Qbn fun y _=>e1 y).trans (Qej _)
   cases x with
   | one y=>simp[Sl.ren,e2]
   | xx ys=>simp only[Sl.ren];congr 1;exact(Qbn fun y _=>e2 y).trans (Qej _)
  rwa [e]at this
theorem iw.app:∀{xs ys:List (Sl D)} {vs us:List Value},iw S M w g xs vs->iw S M w g ys us->iw S M w g (xs++ys) (vs++us)
 | [],_,[],_,_,h=>h
 | _::_,_,_::_,_,h,h'=>⟨h.1,iw.app h.2 h'⟩
theorem eU:∀(r ids:List Nat) (l:Nat),l∈lX ids r ↔ l∈ids\/l∈r
 | [],ids,l=>by simp[lX]
 | x::r,ids,l=>by
  unfold lX;rw[eU r];split
  ·rename_i hm;have:=gX.1 hm;constructor
   ·rintro(h | h)
    ·exact .inl h
    ·exact .inr (by simp[h])
   ·rintro(h | h)
    ·exact .inl h
    ·rcases yR.1 h with rfl | h
     ·exact .inl this
     ·exact .inr h
  ·simp only[tY,yR,V7,or_false];constructor
   ·rintro((h | h) | h)
    ·exact .inl h
    ·exact .inr (.inl h)
    ·exact .inr (.inr h)
   ·rintro(h | h | h)
    ·exact .inl (.inl h)
    ·exact .inl (.inr h)
    ·exact .inr h
theorem aid {x:Lf D}{l:Nat}(hl:l∈x.owns):((∃d,rwD (blk l)=some d)\/hot (blk l)=false\/l∈(x.view blk).refs):=by
 cases x with
 | own l'=>
  simp[Lf.owns]at hl;subst hl;simp only[Lf.view];split
  ·rename_i e d hb;exact .inl ⟨d,by rw[hb];rfl⟩
  ·rename_i d hb;exact .inl ⟨d,by rw[hb];rfl⟩
  ·rename_i d hb;exact .inr (.inl qch)
  ·exact .inr (.inr qb3)
 | part l' i j sz f=>
  simp[Lf.owns]at hl;subst hl;simp only[Lf.view];split
  ·rename_i e d hb;exact .inl ⟨d,by rw[hb];rfl⟩
  ·rename_i d hb;exact .inr (.inl qch)
  ·exact .inr (.inr qb3)
 | _=>simp[Lf.owns]at hl
theorem ako {x:Sv D}{l:Nat}(hl:l∈x.owns):((∃d,rwD (blk l)=some d)\/hot (blk l)=false\/l∈(x.view blk).refs):=by
 cases x with
 | lf x=>exact aid hl
 | agg xs=>
  obtain⟨y,hy,hl⟩:=vZ.1 hl;rcases aid (blk:=blk) hl with h | h | h
  ·exact .inl h
  ·exact .inr (.inl h)
  ·exact .inr (.inr (vZ.2 ⟨_,Ik.2 ⟨y,hy,rfl⟩,h⟩))
theorem ai_ {x:Sl D}{l:Nat}(hl:l∈x.owns):((∃d,rwD (blk l)=some d)\/hot (blk l)=false\/l∈(x.view blk).refs):=by
 cases x with
 | one x=>exact ako hl
 | xx xs=>
  obtain⟨y,hy,hl⟩:=vZ.1 hl;rcases ako (blk:=blk) hl with h | h | h
  ·exact .inl h
  ·exact .inr (.inl h)
  ·exact .inr (.inr (vZ.2 ⟨_,Ik.2 ⟨y,hy,rfl⟩,h⟩))
theorem aq1 {x:Lf D}{v:Value}{l:Nat}(hr:x.Rel S M w g v)(hl:l∈x.owns):∃u,g l=some u:=by
 cases x with
 | own l'=>simp[Lf.owns]at hl;subst hl;exact⟨v,hr⟩
 | part l' i j sz f=>simp[Lf.owns]at hl;subst hl;obtain⟨av,n,cap,h1,_⟩:=hr;exact⟨_,h1⟩
 | _=>simp[Lf.owns]at hl
theorem aju {l:Nat}:∀{xs:List (Lf D)} {vs:List Value},aZ S M w g xs vs->l∈xs.flatMap Lf.owns->∃u,g l=some u
 | [],[],_,hl=>by simp at hl
 | x::xs,v::vs,hr,hl=>by
  rw[Qbp,tY]at hl;exact hl.elim (aq1 hr.1) (aju hr.2)
theorem an_ {x:Sv D}{v:Value}{l:Nat}(hr:x.Rel S M w g v)(hl:l∈x.owns):∃u,g l=some u:=by
 cases x with
 | lf x=>exact aq1 hr hl
 | agg xs=>obtain⟨vs,_,h2⟩:=hr;exact aju h2 hl
theorem akr {l:Nat}:∀{xs:List (Sv D)} {vs:List Value},iI S M w g xs vs->l∈xs.flatMap Sv.owns->∃u,g l=some u
 | [],[],_,hl=>by simp at hl
 | x::xs,v::vs,hr,hl=>by
  rw[Qbp,tY]at hl;exact hl.elim (an_ hr.1) (akr hr.2)
theorem aDd {x:Sl D}{v:Value}{l:Nat}(hr:x.Rel S M w g v)(hl:l∈x.owns):∃u,g l=some u:=by
 cases x with
 | one x=>exact an_ hr hl
 | xx xs=>obtain⟨vs,_,h2⟩:=hr;exact akr h2 hl
theorem Zo {l:Nat}:∀{xs:List (Sl D)} {vs:List Value},iw S M w g xs vs->l∈xs.flatMap Sl.owns->∃u,g l=some u
 | [],[],_,hl=>by simp at hl
 | x::xs,v::vs,hr,hl=>by
  rw[Qbp,tY]at hl;exact hl.elim (aDd hr.1) (Zo hr.2)
theorem Xv:∀{caps:List Nat} {vs:List Value},caps.map g=vs.map some->(∀l∈caps,∃b,g l=some (.pointer (some ⟨b,0,none⟩)))->iw S M w g (caps.map fun l=> .one (.lf (.ptr l 0))) vs
 | [],[],_,_=>trivial
 | c::caps,v::vs,h,hp=>by
  simp only[F_,Qdg]at h;obtain⟨b,hb⟩:=hp c oJ;refine⟨⟨b,hb,?_⟩,Xv h.2 fun l hl=>hp l qci⟩;rw[h.1]at hb;injection hb
 | [],_::_,h,_=>by simp at h
 | _::_,[],h,_=>by simp at h
theorem afX (hS:jd S){c:Call}{f:FuncId}{caps:List Nat}{fo:Operand}(ho:o.op= .call c)(hc:c.callee= .value fo)(hf:aH slot fo= .one (.lf (.fn f caps)))(hΓ:∀f ct,Γ f=some ct->fV P S f ct)(h:Hp S w0 N blk g al w)(hfr:∀n,fr<=n->n < fr+64->¬al n)
  (hs:∀t,(slot t).Rel S (aW N blk g) w g (a.tmps.getD t undef)) (hout:JH Γ f blk (c.args.toList.map (aH slot)++caps.map fun l=> .one (.lf (.ptr l 0))) fr=some out) (hp:lZ out.pre) (aHl:caps.all (fun l=>isCells (blk l))=true) (hK:Post S w0 N blk g al w fr out o.dst a K):o.wp P a w K Q:=by
 have hfv:=oG hs fo;rw[hf]at hfv;obtain⟨cv,hcv,hcg⟩:=hfv;have aIl:∀l∈caps,∃b,g l=some (.pointer (some ⟨b,0,none⟩)):=by
  intro l hl;have:=MX.1 aHl l hl;cases hb:blk l with
  | none=>rw[hb]at this;simp[isCells]at this
  | some bk=>
   cases bk with
   | cells cs=>obtain⟨v,hv,b,vs,t,rfl,_⟩:=h.dH l _ hb;exact⟨b,hv⟩
   | row e d=>rw[hb]at this;simp[isCells]at this
   | wE d=>rw[hb]at this;simp[isCells]at this
   | iter s p=>rw[hb]at this;simp[isCells]at this
   | map kvs=>rw[hb]at this;simp[isCells]at this
   | tc t cs=>rw[hb]at this;simp[isCells]at this
 have hargs:iw S (aW N blk g) w g (c.args.toList.map (aH slot)++caps.map fun l=> .one (.lf (.ptr l 0))) (c.args.toList.map a.eval++cv):=(MH hs c.args.toList).app (Xv hcg aIl);unfold JH at hout;split at hout
 ·cases hout
 ·rename_i ct hct;have hok:=hΓ f ct hct;have hrun:(execOp a.eval o).run P w= .ok (.enter f (c.args.toList.map a.eval++cv).toArray) w:=by
   have hen:=hok.enters (c.args.toList.map a.eval++cv).toArray w;simp only[execOp,ho,resolve,hc,Deferred.ofValue,hcv,Sem.run_bind,Sem.run_pure,Result.andThen_ok,invoke];have:(#[]++c.args.map a.eval:Array Value)++cv.toArray=(c.args.toList.map a.eval++cv).toArray:=by rw[<-Io];simp
   rw[this,hen]
  have fin:(Calls P f (c.args.toList.map a.eval++cv).toArray w fun e w'=>∃v g',e= .returned v/\More g g'/\Keeps (aW N blk g) w (aW N (lG blk out.blks) g') w'/\Hp S w0 N (lG blk out.blks) g' (fun n=>al n\/(fr<=n/\n < fr+64)) w'/\
    out.val.Rel S (aW N (lG blk out.blks) g') w' g' v)->o.wp P a w K Q:=by
   intro hcall;simp only[Oper.wp,hrun,Oper.upon_enter];refine hcall.mono ?_;rintro e w' ⟨v,g',rfl,h1,h2,h3,h4⟩;exact hK v w' g' h1 h2 h3 h4
  dsimp only at hout;have hn:=hargs.norm;generalize (c.args.toList.map (aH slot)++caps.map fun l=>(.one (.lf (.ptr l 0)):Sl D)).map Sl.norm=as at hn hout;cases h1:AX ct blk fr (as.map (Sl.view blk)) (lX [] (as.flatMap Sl.owns))with
  | some out'=>
   rw[h1]at hout;simp only[Ba,KZ]at hout;subst hout;refine fin (vU hS hok h hfr (fun ids dH hg hv=> ?_) (fun l hl=> ?_) (fun l hl=> ?_) h1 hp)
   ·refine iw.view hS (jr:=lX [] (as.flatMap Sl.owns)) h ⟨fun b hb=>(uY hg b hb).1,fun l hl v b hh hgl hbl hb=> ?_⟩ (fun l hl=>(eU _ _ _).2 (.inr hl)) hn;rcases(uY hg b hb).2 with q | ⟨l',v',⟨q1,q2,q3,q4⟩ | ⟨q1,q2,q3,q4⟩⟩
    ·exact h.afc hh hgl hbl q
    ·have:=h.sep l l' v v' b hh q1 hgl q3 hbl q4;subst this;exact q2 hl
    ·have:=h.sep l l' v v' b hh q2 hgl q3 hbl q4;subst this;exact hv l hl q1
   ·exact Zo hn (((eU _ _ _).1 hl).resolve_left oJ)
   ·obtain⟨x,hx,hlx⟩:=vZ.1 (((eU _ _ _).1 hl).resolve_left oJ);rcases ai_ (blk:=blk) hlx with q | q | q
    ·exact .inl q
    ·exact .inr (.inl q)
    ·exact .inr (.inr (vZ.2 ⟨_,Ik.2 ⟨x,hx,rfl⟩,q⟩))
  | none=>
   rw[h1]at hout;simp only[Ba]at hout;exact fin (vU (jr:=[]) hS hok h hfr (fun ids dH hg hv=>hn.less fun b hb=>(uY hg b hb).1) (fun l hl=>by simp at hl) (fun l hl=>by simp at hl) hout hp)
theorem adi (hTy:∀t ty,T t=some ty->fU P t ty)(hΓ:∀f ct,Γ f=some ct->fV P S f ct)(hS:jd S)(h:Hp S w0 N blk g al w)(hfr:∀n,fr<=n->n < fr+64->¬al n)
  (hs:∀t,(slot t).Rel S (aW N blk g) w g (a.tmps.getD t undef)) (hout:BD T S Γ slot blk fr o.op=some out) (hp:lZ out.pre) (hK:Post S w0 N blk g al w fr out o.dst a K):o.wp P a w K Q:=by
 have hr:=oG hs;cases ho:o.op with
 | move x=>rw[ho]at hout;injection hout with hout;subst hout;exact bf (v:=a.eval x) (by simp[execOp,ho]) h hK rfl (hr x)
 | assign x=>rw[ho]at hout;injection hout with hout;subst hout;exact bf (v:=a.eval x) (by simp[execOp,ho]) h hK rfl (hr x)
 | pick c x y=>rw[ho]at hout;exact agi ho h (hr c) (hr x) (hr y) hout hK
 | alloc t=>
  rw[ho]at hout;simp only[BD]at hout;split at hout
  ·rename_i ty hty;injection hout with hout
   subst hout;exact adt ho (hTy _ _ hty) h hfr hK
  ·cases hout
 | box t x=>
  rw[ho]at hout;simp only[BD]at hout;split at hout
  ·rename_i u hu;split at hout
   ·rename_i hw;injection hout with hout
    subst hout;have hx:=hr x;rw[hu]at hx;exact anl ho h hfr hx hw hK
   ·cases hout
  ·cases hout
 | build t parts=>rw[ho]at hout;exact adn ho hTy h hs hout hK
 | buildSlice t n parts=>rw[ho]at hout;exact sound_row hS ho hTy h hs hfr hout hK
 | load t x=>
  rw[ho]at hout;simp only[BD]at hout;cases hty:T t with
  | none=>simp[CO,hty]at hout
  | some ty=>exact age ho (hTy _ _ hty) hty h (hr x) hout hp hK
 | store t x y=>
  rw[ho]at hout;simp only[BD]at hout;cases hty:T t with
  | none=>simp[Ia,hty]at hout
  | some ty=>exact aeG ho (hTy _ _ hty) hty h (hr x) (hr y) hout hS hp hK
 | nilCheck x=>
  rw[ho]at hout;simp only[BD]at hout;have hx:=hr x;split at hout
  ·rename_i l q he;rw[he]at hx;injection hout with hout;subst hout
   refine bf (v:=a.eval x) ?_ h hK rfl hx;obtain⟨b,_,hv⟩:=hx;simp[execOp,ho,hv]
  ·rename_i d i j he;rw[he]at hx;injection hout with hout;subst hout
   refine bf (v:=a.eval x) ?_ h hK rfl hx;obtain⟨ad,n,cap,_,_,hv⟩:=hx;simp[execOp,ho,hv]
  ·rename_i l i j sz he;rw[he]at hx;injection hout with hout;subst hout
   refine bf (v:=a.eval x) ?_ h hK rfl hx;obtain⟨b,n,cap,_,hv⟩:=hx;simp[execOp,ho,hv]
  ·rename_i f caps he;rw[he]at hx;injection hout with hout;subst hout
   refine bf (v:=a.eval x) ?_ h hK rfl hx;obtain⟨vs,hv,_⟩:=hx;simp[execOp,ho,hv]
  ·cases hout
 | binOp op t x y yt=>
  rw[ho]at hout;simp only[BD]at hout;cases hq:akU T S op t (aH slot x) (aH slot y)with
  | some out'=>
   rw[hq]at hout;injection hout with hout
   subst hout;exact afz ho hTy h (hr x) (hr y) hq hK
  | none=>
   rw[hq]at hout;exact amE ho hTy h (hr x) (hr y) hout hp hK
 | unOp op t x=>rw[ho]at hout;exact arb ho h (hr x) hout hp hK
 | fieldAddr t x f=>
  rw[ho]at hout;simp only[BD]at hout;cases hty:T t with
  | none=>simp[DC,hty]at hout
  | some ty=>exact aeL ho (hTy _ _ hty) hty h (hr x) hout hK
 | field t x f=>
  rw[ho]at hout;simp only[BD]at hout;cases hty:T t with
  | none=>simp[akl,hty]at hout
  | some ty=>exact agz ho (hTy _ _ hty) hty h (hr x) hout hK
 | indexAddr t x i=>rw[ho]at hout;exact acb ho hTy h (hr x) (hr i) hout hp hK
 | extract x i=>rw[ho]at hout;exact Wu ho h (hr x) hout hK
 | call c=>
  rw[ho]at hout;simp only[BD]at hout;split at hout
  ·rename_i hc;split at hout
   ·rename_i x hx;exact amm ho hc hx hTy h (hr x) hout hK
   ·cases hout
  ·rename_i hc;split at hout
   ·rename_i x y hx;exact X6 (.inl rfl) ho hc hx h (hr x) (hr y) hout hK
   ·cases hout
  ·rename_i hc;split at hout
   ·rename_i x y hx;exact X6 (.inr rfl) ho hc hx h (hr x) (hr y) hout hK
   ·cases hout
  ·rename_i hc;split at hout
   ·rename_i x y hx;exact abV hS ho hc hx hTy h hfr (hr x) (hr y) hout hp hK
   ·cases hout
  ·rename_i hc;split at hout
   ·rename_i x y hx;exact ahl hS ho hc hx hTy h (hr x) (hr y) hout hK
   ·cases hout
  ·rename_i fo hc;split at hout
   ·rename_i f caps hf;split at hout
    ·rename_i hcap;exact afX hS ho hc hf hΓ h hfr hs hout hp hcap hK
    ·cases hout
   ·cases hout
  ·cases hout
 | makeFunc fn first caps=>
  rw[ho]at hout;cases fn with
  | func f=>
   simp only[BD]at hout;split at hout
   ·rename_i hfi;split at hout
    ·rename_i ls hls;injection hout with hout
     subst hout;have hfi:first= #[]:=by simpa using hfi
     subst hfi;refine bf (v:= .func (.func f) #[] (caps.map a.eval)) ?_ h hK rfl ⟨(caps.map a.eval).toList,rfl,by rw[aiU hs _ _ hls,Array.toList_map]⟩;simp[execOp,ho,Instr.makeFunc]
    ·cases hout
   ·cases hout
  | _=>simp[BD]at hout
 | makeSlice t x y=>rw[ho]at hout;exact agK hS ho hTy h hfr (hr x) (hr y) hout hp hK
 | index t x i=>rw[ho]at hout;exact adA ho hTy h (hr x) (hr i) hout hp hK
 | convert src dst x=>rw[ho]at hout;exact agD ho hTy h (hr x) hout hp hK
 | slice t x lo hi mx=>
  cases mx with
  | some m=>rw[ho]at hout;simp[BD]at hout
  | none=>rw[ho]at hout;exact aeK hS ho hTy h hr hout hp hK
 | _=>rw[ho]at hout;simp[BD]at hout
end
end Go.Vc
namespace Go.Vc
open Go.RowKit
section
variable {D:Type}
def qx:List Operand->List Nat
 | []=>[]
 | .tmp t::r=>t::qx r
 | _::r=>qx r
def Ce (ts:List Nat)(slot:Nat->Sl D)(blk:Nat->Option (Bk D)):Nat->Sl D:=fun t=>if rC t ts then(slot t).view blk else slot t
def isRow:Option (Bk D)->Bool
 | some (.row _ _)=>true
 | some (.map _)=>true
 | some (.wE _)=>true
 | _=>false
def JS:Op->Bool
 | .store _ _ _=>true
 | .buildSlice _ _ _=>true
 | _=>false
def iK (slot:Nat->Sl D)(op:Op):List Nat:=lX [] ((qx op.operands.toList).flatMap fun t=>(slot t).owns)
def arV (T:TypeId->Option Ty)(S:Sh D)(Γ:FuncId->Option (Ct D))(slot:Nat->Sl D)(blk:Nat->Option (Bk D))(fr:Nat)(op:Op):Option (Out D):=
 let ls:=iK slot op
 if JS op && ls.all (fun l=>isRow (blk l))then
  (match BD T S Γ (Ce (qx op.operands.toList) slot blk) (lG blk (ls.filterMap (jl blk))) fr op with
  | some out=>some ⟨out.pre,out.val,ls.filterMap (jl blk)++out.blks⟩
  | none=>none)
 else none
def amv (T:TypeId->Option Ty)(S:Sh D)(Γ:FuncId->Option (Ct D))(slot:Nat->Sl D)(blk:Nat->Option (Bk D))(fr:Nat)(op:Op):Option (Out D):=
 match BD T S Γ slot blk fr op with
 | some out=>some out
 | none=>arV T S Γ slot blk fr op
theorem sK {α β:Type}{f f':α->Option β}:∀{l:List α},(∀x∈l,f x=f' x)->l.filterMap f=l.filterMap f'
 | [],_=>rfl
 | x::l,h=>by
  rw[Qds,Qds,h x oJ,sK fun y hy=>h y qcu]
theorem Rn {α:Type}:∀(xs ys:List (Nat×α)) (f:Nat->α),lG f (xs++ys)=lG (lG f xs) ys
 | [],_,_=>rfl
 | (k,v)::xs,ys,f=>Rn xs ys (upd f k v)
end
section
variable {D:Type}{P:Program}{S:Sh D}{T:TypeId->Option Ty}{Γ:FuncId->Option (Ct D)}{M M' N:Nat->Prop}{w w':World}{w0:Bs}{g g':Nat->Option Value}{blk blk':Nat->Option (Bk D)}{al:Nat->Prop}
 {a:Act} {o:Oper} {K:Act->World->Prop} {Q:Exit->Act->World->Prop} {slot:Nat->Sl D} {out:Out D} {fr:Nat} {ids jr:List Nat}
theorem Keeps.comp {M1 M2 M3:Nat->Prop}{w1 w2 w3:World}(h:Keeps M1 w1 M2 w2)(k:Keeps M2 w2 M3 w3):Keeps M1 w1 M3 w3:=
 ⟨Ak h.size k.size,fun b hb hm=>by
  obtain⟨h1,h2⟩:=h.same b hb hm;obtain⟨k1,k2⟩:=k.same b (Qce hb h.size) h1;exact⟨k1,k2.trans h2⟩⟩
theorem axE {l:Nat}{p:Nat×Option (Bk D)}(h:jl blk l=some p):p.1=l:=by
 unfold jl at h;split at h
 ·injection h with h;rw[<-h]
 ·cases h
theorem Hp.FP (hS:jd S):∀(ls:List Nat) (blk:Nat->Option (Bk D)),ls.Nodup->Hp S w0 N blk g al w->
  Hp S w0 N (lG blk (ls.filterMap (jl blk))) g al w/\Keeps (aW N blk g) w (aW N (lG blk (ls.filterMap (jl blk))) g) w/\
   (∀n,hot (lG blk (ls.filterMap (jl blk)) n)=true->hot (blk n)=true)/\∀l∈ls,isRow (blk l)=true->hot (lG blk (ls.filterMap (jl blk)) l)=false
 | [],blk,_,h=>⟨h,⟨lU _,fun b _ hm=>⟨hm,rfl⟩⟩,fun n hn=>hn,fun l hl=>by simp at hl⟩
 | l::r,blk,hn,h=>by
  obtain⟨hl,hr⟩:=List.nodup_cons.1 hn;have off:∀{x:Option (Bk D)} (aDX:Nat->Option (Bk D)),lG aDX (r.filterMap (jl blk)) l=aDX l:=fun{x} aDX=>wP fun v hv=>by
   obtain⟨l',hl',he⟩:=Qdd.1 hv;have:=axE he;exact hl (by rw[show l=l' from this];exact hl')
  by_cases hrow:∃d,rwD (blk l)=some d
  ·obtain⟨d,hb⟩:=hrow;have hi:jl blk l=some (l,some (.wE d)):=by unfold jl;rw[hb]
   have hh:=IY hb;obtain⟨bkr,hbr,_⟩:=jU hh;rw[List.filterMap_cons_some hi];have hcg:r.filterMap (jl blk)=r.filterMap (jl (upd blk l (some (.wE d)))):=by
    refine sK fun l' hl'=> ?_;have hne:l'≠l:=fun e=>hl (e▸hl')
    unfold jl;rw[bK _ _ _ _ hne]
   obtain⟨v,hg,_⟩:=h.dH l _ hbr;have ayV:hot (upd blk l (some (Bk.wE d)) l)=false:=by rw[upd_same];rfl
   have hsub:∀n,hot (upd blk l (some (Bk.wE d)) n)=true->hot (blk n)=true:=fun n hn=>by
    by_cases he:n=l
    ·subst he;rw[ayV]at hn;cases hn
    ·rwa [bK _ _ _ _ he]at hn
   have hM:∀b,aW N (upd blk l (some (Bk.wE d))) g b->aW N blk g b:=by
    rintro b (hb | ⟨n,u,h1,h2,h3⟩)
    ·exact .inl hb
    ·exact .inr ⟨n,u,hsub n h1,h2,h3⟩
   obtain⟨h1,k1⟩:=h.aHc l (some (.wE d)) rfl (fun bk hbk=>by
    injection hbk with hbk
    subst hbk;refine⟨v,hg,ahw hS h hb hg hM fun b hbv=> ?_⟩;rintro(q | ⟨n,u,q1,q2,q3⟩)
    ·exact h.afc hh hg hbv q
    ·have:=h.sep l n v u b hh (hsub n q1) hg q2 hbv q3;subst this;rw[ayV]at q1;cases q1)
   obtain⟨h2,k2,s2,o2⟩:=Hp.FP hS r (upd blk l (some (.wE d))) hr h1;rw[<-hcg]at h2 k2 s2 o2;refine⟨h2,k1.comp k2,fun n hn=>hsub n (s2 n hn),fun l' hl' hi'=> ?_⟩;rcases yR.1 hl' with rfl | hl'
   ·show hot (lG (upd blk l' (some (.wE d))) (r.filterMap (jl blk)) l')=false
    rw[off (x:=none),upd_same];rfl
   ·refine o2 l' hl' ?_;have hne:l'≠l:=fun e=>hl (e▸hl')
    rwa [bK _ _ _ _ hne]
  ·have hi:jl blk l=none:=by
    unfold jl;split
    ·rename_i d hb;exact absurd ⟨d,hb⟩ hrow
    ·rfl
   rw[List.filterMap_cons_none hi];obtain⟨h2,k2,s2,o2⟩:=Hp.FP hS r blk hr h;refine⟨h2,k2,s2,fun l' hl' hi'=> ?_⟩;rcases yR.1 hl' with rfl | hl'
   ·rw[off (x:=none)];unfold isRow at hi';split at hi'
    ·rename_i e d hb;exact absurd ⟨d,by rw[hb];rfl⟩ hrow
    ·rename_i d hb;exact absurd ⟨d,by rw[hb];rfl⟩ hrow
    ·rename_i d hb;rw[hb];rfl
    ·cases hi'
   ·exact o2 l' hl' hi'
theorem alp (hTy:∀t ty,T t=some ty->fU P t ty)(hΓ:∀f ct,Γ f=some ct->fV P S f ct)(hS:jd S)(h:Hp S w0 N blk g al w)(hfr:∀n,fr<=n->n < fr+64->¬al n)
  (hs:∀t,(slot t).Rel S (aW N blk g) w g (a.tmps.getD t undef)) (hout:amv T S Γ slot blk fr o.op=some out) (hp:lZ out.pre) (hK:Post S w0 N blk g al w fr out o.dst a K):o.wp P a w K Q:=by
 unfold amv at hout;split at hout
 ·rename_i out' hx;injection hout with hout
  subst hout;exact adi hTy hΓ hS h hfr hs hx hp hK
 ·unfold arV at hout;dsimp only at hout;split at hout
  ·rename_i hc;simp only[jY,MX]at hc;split at hout
   ·rename_i out' hx;injection hout with hout
    subst hout;have hnd:(iK slot o.op).Nodup:=qj _ _ Qeg;obtain⟨h1,k1,s1,o1⟩:=Hp.FP hS (iK slot o.op) blk hnd h;refine adi hTy hΓ hS h1 hfr (fun t=> ?_) hx hp (fun v w' g' m k hp' hr=> ?_)
    ·unfold Ce;split
     ·rename_i ht;have ht:=gX.1 ht;refine Sl.Rel.view (jr:=iK slot o.op) hS h ⟨?_,fun l hl v b hh hg hb=> ?_⟩ (fun l hl=>(eU _ _ _).2 (.inr (vZ.2 ⟨t,ht,hl⟩))) (hs t)
      ·rintro b (hb | ⟨n,u,q1,q2,q3⟩)
       ·exact .inl hb
       ·exact .inr ⟨n,u,s1 n q1,q2,q3⟩
      ·rintro(q | ⟨n,u,q1,q2,q3⟩)
       ·exact h.afc hh hg hb q
       ·have:=h.sep l n v u b hh (s1 n q1) hg q2 hb q3;subst this;rw[o1 l hl (hc.2 l hl)]at q1;cases q1
     ·exact(hs t).keep k1 (More.refl _)
    ·have e:lG blk ((iK slot o.op).filterMap (jl blk)++out'.blks)=lG (lG blk ((iK slot o.op).filterMap (jl blk))) out'.blks:=Rn _ _ _;refine hK v w' g' m ?_ ?_ ?_
     ·rw[e];exact k1.comp k
     ·rw[e];exact hp'
     ·rw[e];exact hr
   ·cases hout
  ·cases hout
end
end Go.Vc
namespace Go.Vc
open Go.RowKit
section
variable {D:Type}
def Lf.pv:Lf D->Option Pv
 | .bool b=>some (.bool b)
 | .val (.bool b)=>some (.bool b)
 | .int k n=>some (.int k n)
 | .str s=>some (.str s)
 | _=>none
def pvs:List (Lf D)->Option (List Pv)
 | []=>some []
 | x::xs=>(match x.pv,pvs xs with
  | some p,some ps=>some (p::ps)
  | _,_=>none)
def aAS (T:TypeId->Option Ty)(t:TypeId)(x:Sl D):Option (Out D):=
 match T t with
 | none=>none
 | some ty=>if Nat.beq ty.kind 0 then none else(match x with
  | .one (.lf x)=>(match x.pv with
   | some p=>l9 none (.Xb (some ⟨t,false,[p]⟩))
   | none=>none)
  | .one (.agg xs)=>(match pvs xs with
   | some ps=>l9 none (.Xb (some ⟨t,true,ps⟩))
   | none=>none)
  | _=>none)
def mO.is (v:Option mO)(t:TypeId):Bool:=
 match v with
 | some i=>Nat.beq i.t t
 | none=>false
def mO.get (v:Option mO)(t:TypeId)(j:Nat):Option Pv:=
 match v with
 | some i=>if Nat.beq i.t t then i.xs[j]? else none
 | none=>none
def Pv.gB:Option Pv->Bool
 | some (.bool b)=>b
 | _=>false
def Pv.gI:Option Pv->Int
 | some (.int _ n)=>n
 | _=>0
def Pv.gS:Option Pv->List UInt8
 | some (.str s)=>s
 | _=>[]
def AC (z:Value)(p:Option Pv):Option (Lf D):=
 match z with
 | .bool false=>some (.bool (Pv.gB p))
 | .int k 0=>some (.int k (Pv.gI p))
 | .string s=>(match s.data.toList with
  | []=>some (.str (Pv.gS p))
  | _=>none)
 | _=>none
def uS (v:Option mO)(t:TypeId):List Value->Nat->Option (List (Lf D))
 | [],_=>some []
 | z::zs,j=>(match AC z (mO.get v t j),uS v t zs (j+1)with
  | some x,some xs=>some (x::xs)
  | _,_=>none)
def abu:Value->Pv->Bool
 | .bool _, .bool _=>true
 | .int k _, .int k' _=>WB k k'
 | .string _, .str _=>true
 | _,_=>false
def EQ:List Value->List Pv->Bool
 | [],[]=>true
 | z::zs,p::ps=>abu z p && EQ zs ps
 | _,_=>false
def mO.ok (v:Option mO)(t:TypeId)(ag:Bool)(zs:List Value):Bool:=
 match v with
 | some i=> !Nat.beq i.t t || ((i.agg==ag) && EQ zs i.xs)
 | none=>true
def Y9 (T:TypeId->Option Ty)(t:TypeId)(x:Sl D):Option (Out D):=
 match T t with
 | none=>none
 | some ty=>if Nat.beq ty.kind 0 || !(ty.agg==ty.zag)then none else(match x with
  | .one (.lf (.Xb v))=>(match uS v t ty.zero 0 with
   | none=>none
   | some ls=>if ty.agg then some ⟨some (dp (mO.ok v t true ty.zero=true)), .xx [.agg ls, .lf (.bool (mO.is v t))],[]⟩
    else(match ls with
     | [l]=>some ⟨some (dp (mO.ok v t false ty.zero=true)), .xx [.lf l, .lf (.bool (mO.is v t))],[]⟩
     | _=>none))
  | _=>none)
end
section
variable {D:Type}{P:Program}{S:Sh D}{T:TypeId->Option Ty}{Γ:FuncId->Option (Ct D)}{M M' N:Nat->Prop}{w w':World}{w0:Bs}{g g':Nat->Option Value}{blk blk':Nat->Option (Bk D)}{al:Nat->Prop}
 {a:Act} {o:Oper} {K:Act->World->Prop} {Q:Exit->Act->World->Prop} {slot bW:Nat->Sl D} {out:Out D} {fr:Nat}
theorem Tn {x:Lf D}{p:Pv}{v:Value}(h:x.pv=some p)(hr:x.Rel S M w g v):v=p.val/\p.fits:=by
 unfold Lf.pv at h;split at h<;>first | (injection h with h;subst h;exact⟨hr,trivial⟩) | (injection h with h;subst h;exact hr) | (cases h;done)
theorem Qi:∀{xs:List (Lf D)} {ps:List Pv} {vs:List Value},pvs xs=some ps->aZ S M w g xs vs->vs=ps.map Pv.val/\∀p∈ps,p.fits
 | [],ps,[],h,_=>by simp[pvs]at h;subst h;exact⟨rfl,fun p hp=>by simp at hp⟩
 | x::xs,ps,v::vs,h,hr=>by
  unfold pvs at h;split at h
  ·rename_i p ps' h1 h2;injection h with h
   subst h;obtain⟨q1,q2⟩:=Tn h1 hr.1;obtain⟨q3,q4⟩:=Qi h2 hr.2;refine⟨by rw[q1,q3];rfl,fun p hp=> ?_⟩;rcases yR.1 hp with rfl | hp
   ·exact q2
   ·exact q4 p hp
  ·cases h
theorem yf {t:TypeId}{ty:Ty}(h:fU P t ty)(hk:ty.kind≠0):P.concrete t=true:=by
 obtain⟨d,hd,hkd⟩:=ny h;unfold Program.concrete;rw[hd];cases d<;>first | rfl | (exfalso;apply hk;rw[<-hkd];rfl)
theorem ak9 {t:TypeId}{x:Operand}(ho:o.op= .makeInterface t x)(hTy:∀t ty,T t=some ty->fU P t ty)(h:Hp S w0 N blk g al w)(hx:(aH slot x).Rel S (aW N blk g) w g (a.eval x))
  (hout:aAS T t (aH slot x)=some out) (hK:Post S w0 N blk g al w fr out o.dst a K):o.wp P a w K Q:=by
 unfold aAS at hout;split at hout
 ·cases hout
 ·rename_i ty hty;split at hout
  ·cases hout
  ·rename_i hk;have hk:ty.kind≠0:=fun e=>hk qcx
   have hrun:=run_makeInterface (P:=P) w t (a.eval x) (yf (hTy _ _ hty) hk);split at hout
   ·rename_i y hex;rw[hex]at hx;split at hout
    ·rename_i p hpv;injection hout with hout
     subst hout;have hv:=(Tn hpv hx).1;refine bf (v:= .iface t (a.eval x)) ?_ h hK rfl ⟨by rw[hv];rfl,fun q hq=>by have:=Aj.1 hq;subst this;exact(Tn hpv hx).2⟩;simp[execOp,ho,hrun]
    ·cases hout
   ·rename_i xs hex;rw[hex]at hx;obtain⟨vs,hv,hr⟩:=hx;split at hout
    ·rename_i ps hpv;injection hout with hout
     subst hout;have:=(Qi hpv hr).1;refine bf (v:= .iface t (a.eval x)) ?_ h hK rfl ⟨by rw[hv,this];rfl,(Qi hpv hr).2⟩;simp[execOp,ho,hrun]
    ·cases hout
   ·cases hout
theorem amy {z:Value}{x:Lf D}(h:AC z none=some x):x.Rel S M w g z:=by
 unfold AC at h;split at h
 ·injection h with h;subst h;rfl
 ·injection h with h;subst h;rfl
 ·rename_i s;split at h
  ·rename_i hs;injection h with h
   subst h;cases s with
   | mk data=>
    have:data= #[]:=by
     have hs:data.toList=[]:=hs;simpa using hs
    subst this;exact⟨rfl,by simp[Pv.gS]⟩
  ·cases h
 ·cases h
theorem alD {b:Bool}{q:Option Pv}{x:Lf D}(h:AC (.bool b) q=some x):x= .bool (Pv.gB q):=by
 cases b
 ·injection h with h;exact h.symm
 ·cases h
theorem aoC {k:IntKind}{n:Int}{q:Option Pv}{x:Lf D}(h:AC (.int k n) q=some x):x= .int k (Pv.gI q):=by
 unfold AC at h;split at h
 ·rename_i e;cases e
 ·rename_i e;injection e with e1 e2;subst e1;injection h with h;exact h.symm
 ·rename_i e;cases e
 ·cases h
theorem atn {s:ByteArray}{q:Option Pv}{x:Lf D}(h:AC (.string s) q=some x):x= .str (Pv.gS q):=by
 simp only[AC]at h;split at h
 ·injection h with h;exact h.symm
 ·cases h
theorem al9 {z:Value}{p:Pv}{x:Lf D}(hk:abu z p=true)(h:AC z (some p)=some x)(hf:p.fits):x.Rel S M w g p.val:=by
 cases z<;>cases p<;>simp only[abu,Qbr]at hk
 ·rw[alD h];rfl
 ·rename_i k n k' n';have hk:k=k':=by simpa[WB]using hk
  subst hk;rw[aoC h];rfl
 ·rw[atn h];exact⟨rfl,hf⟩
theorem Oi {v:Option mO}{t:TypeId}(hno:∀j,mO.get v t j=none):∀(zs:List Value) (j:Nat) (ls:List (Lf D)),uS v t zs j=some ls->aZ S M w g ls zs
 | [],j,ls,h=>by simp[uS]at h;subst h;trivial
 | z::zs,j,ls,h=>by
  unfold uS at h;rw[hno j]at h;split at h
  ·rename_i x xs h1 h2;injection h with h
   subst h;exact⟨amy h1,Oi hno zs (j+1) xs h2⟩
  ·cases h
theorem OM {i:mO}:∀(zs:List Value) (ps:List Pv) (j:Nat) (ls:List (Lf D)),EQ zs ps=true->(∀k,mO.get (some i) i.t (j+k)=ps[k]?)->uS (some i) i.t zs j=some ls->(∀p∈ps,p.fits)->aZ S M w g ls (ps.map Pv.val)
 | [],[],j,ls,_,_,h,_=>by simp[uS]at h;subst h;trivial
 | z::zs,p::ps,j,ls,hk,hg,h,hf=>by
  simp only[EQ,jY]at hk;unfold uS at h;have h0:=hg 0;simp only[MB,Qch]at h0;rw[h0]at h;split at h
  ·rename_i x xs h1 h2;injection h with h
   subst h;exact⟨al9 hk.1 h1 (hf p oJ),OM zs ps (j+1) xs hk.2 (fun k=>by have:=hg (k+1);rwa [List.getElem?_cons_succ,show j+(k+1)=j+1+k by omega]at this) h2 (fun q hq=>hf q (by simp[hq]))⟩
  ·cases h
 | [],_::_,_,_,hk,_,_,_=>by simp[EQ]at hk
 | _::_,[],_,_,hk,_,_,_=>by simp[EQ]at hk
theorem WN {t st:TypeId}{v:Option mO}{z:Value}(hc:P.concrete t=true)(hno:mO.is v t=false)(hz:(zeroValue t).run P w= .ok z w):(Instr.typeAssert (AB v) st t true).run P w= .ok (.tuple #[z, .bool false]) w:=by
 unfold Program.concrete at hc;cases hd:P.underlying t with
 | none=>rw[hd]at hc;cases hc
 | some d=>
  rw[hd]at hc;cases v with
  | none=>cases d<;>first | (cases hc;done) | simp[Instr.typeAssert,run_underlying hd,AB,hz]
  | some i=>
   have hne:¬i.t=t:=fun e=>by simp[mO.is,e]at hno
   cases d<;>first | (cases hc;done) | simp[Instr.typeAssert,run_underlying hd,AB,hne,hz]
theorem Ro {st:TypeId}{i:mO}(hc:P.concrete i.t=true):(Instr.typeAssert (AB (some i)) st i.t true).run P w= .ok (.tuple #[i.inner, .bool true]) w:=by
 unfold Program.concrete at hc;cases hd:P.underlying i.t with
 | none=>rw[hd]at hc;cases hc
 | some d=>
  rw[hd]at hc;cases d<;>first | (cases hc;done) | simp[Instr.typeAssert,run_underlying hd,AB]
theorem aaD {t st:TypeId}{x:Operand}(ho:o.op= .typeAssert x st t true)(hTy:∀t ty,T t=some ty->fU P t ty)(h:Hp S w0 N blk g al w)(hx:(aH slot x).Rel S (aW N blk g) w g (a.eval x))
  (hout:Y9 T t (aH slot x)=some out) (hp:lZ out.pre) (hK:Post S w0 N blk g al w fr out o.dst a K):o.wp P a w K Q:=by
 unfold Y9 at hout;split at hout
 ·cases hout
 ·rename_i ty hty;split at hout
  ·cases hout
  ·rename_i hk;simp only[Qbt,Qbi,not_or]at hk;have hk0:ty.kind≠0:=fun e=>hk.1 qcx
   have hzg:ty.agg=ty.zag:=by
    have:=hk.2;cases ha:ty.agg<;>cases hb:ty.zag<;>simp[ha,hb]at this⊢
   have hc:=yf (hTy _ _ hty) hk0;obtain⟨z,hz,hzc,hza⟩:=agp (hTy _ _ hty) w;split at hout
   ·rename_i v hex;rw[hex]at hx;obtain⟨hx,hxf⟩:a.eval x=AB v/\asx v:=hx;split at hout
    ·cases hout
    ·rename_i ls hls;by_cases his:mO.is v t=true
     ·obtain⟨i,rfl,hit⟩:∃i,v=some i/\i.t=t:=by
       cases v with
       | none=>simp[mO.is]at his
       | some i=>exact⟨i,rfl,Qa his⟩
      subst hit;have hget:∀k,mO.get (some i) i.t (0+k)=i.xs[k]? :=fun k=>by simp[mO.get]
      have hrun:=Ro (P:=P) (w:=w) (st:=st) (i:=i) hc;have key:∀ag,mO.ok (some i) i.t ag ty.zero=true->i.agg=ag/\aZ S (aW N blk g) w g ls (i.xs.map Pv.val):=by
       intro ag hok;simp only[mO.ok,Nat.beq_refl,Qby,Bool.false_or,jY,Qc6]at hok;exact⟨hok.1,OM ty.zero i.xs 0 ls hok.2 hget hls hxf⟩
      split at hout
      ·injection hout with hout
       subst hout;obtain⟨k1,k2⟩:=key true hp;refine bf (v:= .tuple #[i.inner, .bool true]) ?_ h hK rfl ⟨[i.inner, .bool true],rfl,⟨⟨_,?_,k2⟩,by rw[his];rfl,trivial⟩⟩
       ·simp[execOp,ho,hx,hrun]
       ·unfold mO.inner;rw[k1]
      ·split at hout
       ·rename_i l;injection hout with hout
        subst hout;obtain⟨k1,k2⟩:=key false hp;obtain⟨p,hxs⟩:∃p,i.xs=[p]:=by
         have:=k2.length;simp only[Qbl,Qcp]at this;exact List.length_eq_one_iff.1 this.symm
        have hin:i.inner=p.val:=by unfold mO.inner;rw[k1,hxs]
        rw[hxs]at k2;refine bf (v:= .tuple #[i.inner, .bool true]) ?_ h hK rfl ⟨[i.inner, .bool true],rfl,⟨?_,by rw[his];rfl,trivial⟩⟩
        ·simp[execOp,ho,hx,hrun]
        ·rw[hin];exact k2.1
       ·cases hout
     ·have his:mO.is v t=false:=by simpa using his
      have hrun:=WN (P:=P) (w:=w) (st:=st) hc his hz;have hno:∀j,mO.get v t j=none:=by
       intro j;cases v with
       | none=>rfl
       | some i=>simp only[mO.is]at his;simp[mO.get,his]
      have hl:=Oi (S:=S) (M:=aW N blk g) (w:=w) (g:=g) hno ty.zero 0 ls hls;split at hout
      ·rename_i hag;injection hout with hout
       subst hout;have hz2:z= .agg ty.zero.toArray:=by
        rw[hag]at hzg;rw[<-hzg]at hza;cases z<;>simp[yX]at hza
        rw[<-hzc];simp[Value.cells]
       refine bf (v:= .tuple #[z, .bool false]) ?_ h hK rfl ⟨[z, .bool false],rfl,⟨⟨_,hz2,hl⟩,by rw[his];rfl,trivial⟩⟩;simp[execOp,ho,hx,hrun]
      ·rename_i hag;split at hout
       ·rename_i l;injection hout with hout
        subst hout;have hz2:ty.zero=[z]:=by
         have hag:ty.agg=false:=by simpa using hag
         rw[hag]at hzg;rw[<-hzg]at hza;rw[<-hzc];cases z<;>first | rfl | simp[yX]at hza
        rw[hz2]at hl;refine bf (v:= .tuple #[z, .bool false]) ?_ h hK rfl ⟨[z, .bool false],rfl,⟨hl.1,by rw[his];rfl,trivial⟩⟩;simp[execOp,ho,hx,hrun]
       ·cases hout
   ·cases hout
end
end Go.Vc
namespace Go.Vc
open Go.RowKit
section
variable {D:Type}
def JZ (S:Sh D)(d:D)(sz:Nat):Nat->Nat->List (Lf D)
 | _,0=>[]
 | i,n+1=>Bf S d i 0 sz++JZ S d sz (i+1) n
def LJ (T:TypeId->Option Ty)(t:TypeId):Option (TypeId×Nat×Nat):=
 match T t with
 | none=>none
 | some ty=>(match ty.arr with
  | none=>none
  | some (e,n)=>(match T e with
   | none=>none
   | some te=>if Nat.blt 0 te.size && Nat.beq ty.size (n*te.size) && ty.agg then some (e,n,te.size)else none))
def Vq (T:TypeId->Option Ty)(t:TypeId):Option (TypeId×Nat×Nat):=
 match T t with
 | none=>none
 | some ty=>if ty.lit then none else LJ T t
def abO (T:TypeId->Option Ty)(S:Sh D)(fr:Nat)(t:TypeId):Option (Out D):=
 match Vq T t with
 | none=>none
 | some (e,n,sz)=>(match T t with
  | none=>none
  | some ty=>(match S.make e n (ty.zero.map fun v=>(xG v).norm)with
   | none=>none
   | some d=>if Nat.beq (S.size d) sz && Nat.ble n 1000000 then some ⟨none, .one (.lf (.opt fr 0 0 sz)),[(fr,some (.row t d))]⟩else none))
def Lt (T:TypeId->Option Ty)(S:Sh D)(blk:Nat->Option (Bk D))(t:TypeId)(x:Sl D):Option (Out D):=
 match Vq T t with
 | none=>none
 | some (e,n,sz)=>(match x with
  | .one (.lf (.opt l i j s))=>if Nat.beq i 0 && (Nat.beq j 0 && Nat.beq s sz)then(match blk l with
   | some (.row _ d)=>if Nat.beq sz (S.size d)then some ⟨some (dp (S.len d=n)), .one (.agg (JZ S d sz 0 n)),[]⟩else none
   | _=>none)else none
  | .one (.lf (.glb k))=>(match S.Po k with
   | some d=>if Nat.beq sz (S.size d)then some ⟨some (dp (S.len d=n)), .one (.agg (JZ S d sz 0 n)),[]⟩else none
   | none=>none)
  | _=>none)
def abb (T:TypeId->Option Ty)(S:Sh D)(t:TypeId)(x i:Sl D):Option (Out D):=
 match Vq T t with
 | none=>none
 | some (e,n,sz)=>(match x,i with
  | .one (.lf (.opt l i0 j s)), .one (.lf (.int _ m))=>if Nat.beq i0 0 && (Nat.beq j 0 && Nat.beq s sz)then l9 (some (dp (0<=m/\m < n))) (.opt l m.toNat 0 sz)else none
  | .one (.lf (.glb k)), .one (.lf (.int _ m))=>(match S.Po k with
   | some d=>if Nat.beq sz (S.size d)then l9 (some (dp (0<=m/\m < n/\m < S.len d))) (.elt d m.toNat 0)else none
   | none=>none)
  | _,_=>none)
def Ew (T:TypeId->Option Ty)(S:Sh D)(blk:Nat->Option (Bk D))(t:TypeId)(x y:Sl D):Option (Out D):=
 match Vq T t with
 | none=>none
 | some (e,n,sz)=>(match x,y with
  | .one (.lf (.opt l i j s)), .one (.agg cs)=>if Nat.beq i 0 && (Nat.beq j 0 && Nat.beq s sz) && cs.all Lf.storable then(match blk l with
   | some (.row e' d)=>(match S.make e n (cs.map Lf.norm)with
    | some d'=>if Nat.beq sz (S.size d) && Nat.beq sz (S.size d')then some ⟨some (dp (S.len d=n)), .one (.lf .any),[(l,some (.row e' d'))]⟩else none
    | none=>none)
   | _=>none)else none
  | _,_=>none)
def XB (cs:List (Lf D))(sz j:Nat):Nat->Nat->List (Lf D)
 | _,0=>[]
 | r,n+1=>(match cs[r*sz+j]? with
  | some x=>x
  | none=> .any)::XB cs sz j (r+1) n
def intsOf (k:IntKind):List (Lf D)->Option (List Int)
 | []=>some []
 | .int k' n::r=>if WB k k' then(match intsOf k r with
  | some l=>some (n::l)
  | none=>none)else none
 | _=>none
def strsOf:List (Lf D)->Option (List (List UInt8))
 | []=>some []
 | .str s::r=>(match strsOf r with
  | some l=>some (s::l)
  | none=>none)
 | _=>none
def JO:List (Lf D)->Option (List Bool)
 | []=>some []
 | .bool b::r=>(match JO r with
  | some l=>some (b::l)
  | none=>none)
 | _=>none
def afL (cs:List (Lf D))(i:Nat):Option (Lf D):=
 match cs with
 | .int k n::r=>(match intsOf k (.int k n::r)with
  | some l=>some (.int k (l.getD i 0))
  | none=>none)
 | .str s::r=>(match strsOf (.str s::r)with
  | some l=>some (.str (l.getD i []))
  | none=>none)
 | .bool b::r=>(match JO (.bool b::r)with
  | some l=>some (.bool (l.getD i false))
  | none=>none)
 | _=>none
def pickRow (cs:List (Lf D))(sz n i:Nat):Nat->Nat->Option (List (Lf D))
 | _,0=>some []
 | j,m+1=>(match afL (XB cs sz j 0 n) i,pickRow cs sz n i (j+1) m with
  | some x,some xs=>some (x::xs)
  | _,_=>none)
def Z4 (T:TypeId->Option Ty)(t:TypeId)(x i:Sl D):Option (Out D):=
 match LJ T t with
 | none=>none
 | some (e,n,sz)=>(match T e with
  | none=>none
  | some te=>(match x,i with
   | .one (.agg cs), .one (.lf (.int _ m))=>if Nat.beq cs.length (n*sz) && Nat.beq te.size sz then(match pickRow (cs.map Lf.norm) sz n m.toNat 0 sz with
    | some ls=>if te.agg then some ⟨some (dp (0<=m/\m < n)), .one (.agg ls),[]⟩else(match ls with
     | [l]=>some ⟨some (dp (0<=m/\m < n)), .one (.lf l),[]⟩
     | _=>none)
    | none=>none)else none
   | _,_=>none))
def QK (T:TypeId->Option Ty)(slot:Nat->Sl D)(t:TypeId)(parts:Array (Nat×Operand)):Option (Out D):=
 match LJ T t with
 | none=>none
 | some (e,n,sz)=>(match T t with
  | none=>none
  | some ty=>(match xR sz slot parts.toList (ty.zero.map xG)with
   | some cs=>some ⟨none, .one (.agg cs),[]⟩
   | none=>none))
def Me (T:TypeId->Option Ty)(S:Sh D)(blk:Nat->Option (Bk D))(ts:Array TypeId)(x:Sl D):Option (Out D):=
 match ts.toList with
 | [t]=>(match T t with
  | none=>none
  | some ty=>(match ty.elem with
   | none=>none
   | some e=>(match T e with
    | none=>none
    | some te=>(match x with
     | .one (.lf (.part l i j sz f))=>(match blk l with
      | some (.row e' d)=>if Nat.beq sz te.size && (Nat.beq sz (S.size d) && (Nat.blt 0 sz && Nat.beq te.zero.length sz))then
       (match S.sub d 0 i,S.zero e (j - i) (te.zero.map fun v=>(xG v).norm)with
       | some p,some z=>(match S.cat p z with
        | some d'=>some ⟨some (dp (j=S.len d)), .xx [],[(l,some (.row e' d'))]⟩
        | none=>none)
       | _,_=>none)else none
      | _=>none)
     | _=>none))))
 | _=>none
def Cb (T:TypeId->Option Ty)(S:Sh D)(slot:Nat->Sl D)(blk:Nat->Option (Bk D))(fr:Nat)(op:Op):Option (Out D):=
 match op with
 | .alloc t=>abO T S fr t
 | .load t x=>Lt T S blk t (aH slot x)
 | .store t x y=>Ew T S blk t (aH slot x) (aH slot y)
 | .indexAddr t x i=>abb T S t (aH slot x) (aH slot i)
 | .index t x i=>Z4 T t (aH slot x) (aH slot i)
 | .build t parts=>QK T slot t parts
 | .call c=>(match c.callee with
  | .builtin .clear=>(match c.args.toList with
   | [x]=>Me T S blk c.argTypes (aH slot x)
   | _=>none)
  | _=>none)
 | .makeInterface t x=>aAS T t (aH slot x)
 | .typeAssert x _ t true=>Y9 T t (aH slot x)
 | _=>none
def amr (T:TypeId->Option Ty)(S:Sh D)(Γ:FuncId->Option (Ct D))(slot:Nat->Sl D)(blk:Nat->Option (Bk D))(fr:Nat)(op:Op):Option (Out D):=
 match Cb T S slot blk fr op with
 | some out=>some out
 | none=>amv T S Γ slot blk fr op
end
section
variable {D:Type}{P:Program}{S:Sh D}{T:TypeId->Option Ty}{Γ:FuncId->Option (Ct D)}{M M' N:Nat->Prop}{w w':World}{w0:Bs}{g g':Nat->Option Value}{blk blk':Nat->Option (Bk D)}{al:Nat->Prop}
 {a:Act} {o:Oper} {K:Act->World->Prop} {Q:Exit->Act->World->Prop} {slot bW:Nat->Sl D} {out:Out D} {fr:Nat}
theorem xZ (hTy:∀t ty,T t=some ty->fU P t ty){t e:TypeId}{n sz:Nat}(h:LJ T t=some (e,n,sz)):∃ty te,T t=some ty/\T e=some te/\te.size=sz/\0 < sz/\ty.size=n*sz/\ty.agg=true/\P.underlying t=some (.array n e)/\fU P t ty/\fU P e te:=by
 unfold LJ at h;split at h
 ·cases h
 ·rename_i ty hty;split at h
  ·cases h
  ·rename_i e' n' harr;split at h
   ·cases h
   ·rename_i te hte;split at h
    ·rename_i hc;simp only[jY]at hc;injection h with h
     injection h with h1 h
     injection h with h2 h3
     subst h1 h2 h3;exact⟨ty,te,hty,hte,rfl,by simpa[Gf]using hc.1.1,Qa hc.1.2,hc.2,aCf (hTy _ _ hty) harr,hTy _ _ hty,hTy _ _ hte⟩
    ·cases h
theorem wZ (hTy:∀t ty,T t=some ty->fU P t ty){t e:TypeId}{n sz:Nat}(h:Vq T t=some (e,n,sz)):∃ty te,T t=some ty/\T e=some te/\te.size=sz/\0 < sz/\ty.size=n*sz/\ty.agg=true/\P.underlying t=some (.array n e)/\fU P t ty/\fU P e te:=by
 unfold Vq at h;split at h
 ·cases h
 ·split at h
  ·cases h
  ·exact xZ hTy h
theorem yj {d:D}{ad:Addr}{sz:Nat}:∀(n i:Nat),(∀r,r < n->∃vs:List Value,vs.length=sz/\aZ S M w g (Bf S d (i+r) 0 sz) vs/\∀k u,vs[k]? =some u->w.cell? (ad.add ((i+r)*sz+k))=some u)->
  ∃vs:List Value,vs.length=n*sz/\aZ S M w g (JZ S d sz i n) vs/\∀k u,vs[k]? =some u->w.cell? (ad.add (i*sz+k))=some u
 | 0,i,_=>⟨[],by simp,trivial,fun k u hk=>by simp at hk⟩
 | n+1,i,h=>by
  obtain⟨v1,l1,r1,c1⟩:=h 0 au;obtain⟨v2,l2,r2,c2⟩:=yj n (i+1) (fun r hr=>by have:=h (r+1) au;rwa [show i+(r+1)=i+1+r by omega]at this);refine⟨v1++v2,by rw[pz,l1,l2,Qc3];omega,r1.append r2,fun k u hk=> ?_⟩;by_cases hlt:k < sz
  ·rw[Qa9 au]at hk;exact c1 k u hk
  ·rw[Qa6 au,l1]at hk;have:=c2 _ u hk;rw[Qc3,show i*sz+sz+(k - sz)=i*sz+k by omega]at this;exact this
theorem aB3 {i j s sz:Nat}(h:(Nat.beq i 0 && (Nat.beq j 0 && Nat.beq s sz))=true):i=0/\j=0/\s=sz:=by
 simp only[jY]at h;exact⟨Qa h.1,Qa h.2.1,Qa h.2.2⟩
theorem acD {t:TypeId}{x:Operand}(ho:o.op= .load t x)(hTy:∀t ty,T t=some ty->fU P t ty)(h:Hp S w0 N blk g al w)(hx:(aH slot x).Rel S (aW N blk g) w g (a.eval x))
  (hout:Lt T S blk t (aH slot x)=some out) (hp:lZ out.pre) (hK:Post S w0 N blk g al w fr out o.dst a K):o.wp P a w K Q:=by
 unfold Lt at hout;split at hout
 ·cases hout
 ·rename_i e n sz harr;obtain⟨ty,te,hty,hte,hsz,h0,VX,hag,xK,hok,Ii⟩:=wZ hTy harr;have hagg:=w_ hok w;have Px:=kH hok w;have fin:∀(ad:Addr) (vs:List Value) (ls:List (Lf D)),a.eval x= .pointer (some ad)->vs.length=n*sz->aZ S (aW N blk g) w g ls vs->(∀k u,vs[k]? =some u->w.cell? (ad.add (0*sz+k))=some u)->out=⟨out.pre, .one (.agg ls),[]⟩->o.wp P a w K Q:=by
   intro ad vs ls hv hl hr hc he;have hrun:=run_loadCells (P:=P) (w:=w) ad vs 0 #[] (fun k u hk=>by have:=hc k u hk;simpa using this);rw[hl,<-VX]at hrun;refine bf (v:= .agg vs.toArray) ?_ h hK (by rw[he]) (by rw[he];exact⟨_,rfl,hr⟩);simp[execOp,ho,Instr.loadAt,Instr.sureAddr,hv,loadVar,hagg,hag,Px,loadCells,hrun]
  split at hout
  ·rename_i l i j s hex;rw[hex]at hx;obtain⟨b,n',cap,hg,hv⟩:=hx;split at hout
   ·rename_i hc;obtain⟨rfl,rfl,rfl⟩:=aB3 hc;split at hout
    ·rename_i e' d hb;split at hout
     ·rename_i hs;have hs:=Qa hs;injection hout with hout
      subst hout;have hp:S.len d=n:=hp;obtain⟨vs,hl,hr,hc⟩:=yj (S:=S) (M:=aW N blk g) (w:=w) (g:=g) (d:=d) (ad:=⟨b,0,none⟩) (sz:=s) n 0 (fun r hr=>by
       obtain⟨vs,h1,h2,h3⟩:=wH h hb hg (i:=0+r) au s 0 au;refine⟨vs,h1,h2,fun k u hk=> ?_⟩;have:=h3 k u hk;rw[lq];rw[<-hs]at this;simpa using this)
      exact fin ⟨b,0,none⟩ vs _ (by rw[hv];simp) hl hr hc rfl
     ·cases hout
    ·cases hout
   ·cases hout
  ·rename_i k hex;rw[hex]at hx;have hx:a.eval x= .pointer (some ⟨k,0,none⟩):=hx;split at hout
   ·rename_i d hd;split at hout
    ·rename_i hs;have hs:=Qa hs;injection hout with hout
     subst hout;have hp:S.len d=n:=hp;have hgl:=h.gl k d hd;obtain⟨vs,hl,hr,hc⟩:=yj (S:=S) (M:=aW N blk g) (w:=w) (g:=g) (d:=d) (ad:=⟨k,0,none⟩) (sz:=sz) n 0 (fun r hr=>by
      obtain⟨vs,h1,h2,h3⟩:=yh (g:=g) hgl (i:=0+r) au sz 0 au;refine⟨vs,h1,h2,fun k' u hk=> ?_⟩;have:=h3 k' u hk;rw[<-hs]at this;simpa using this)
     exact fin ⟨k,0,none⟩ vs _ hx hl hr hc rfl
    ·cases hout
   ·cases hout
  ·cases hout
theorem aba {t:TypeId}{x ix:Operand}(ho:o.op= .indexAddr t x ix)(hTy:∀t ty,T t=some ty->fU P t ty)(h:Hp S w0 N blk g al w)(hx:(aH slot x).Rel S (aW N blk g) w g (a.eval x))
  (hi:(aH slot ix).Rel S (aW N blk g) w g (a.eval ix)) (hout:abb T S t (aH slot x) (aH slot ix)=some out) (hp:lZ out.pre) (hK:Post S w0 N blk g al w fr out o.dst a K):o.wp P a w K Q:=by
 unfold abb at hout;split at hout
 ·cases hout
 ·rename_i e n sz harr;obtain⟨ty,te,hty,hte,hsz,h0,VX,hag,xK,hok,Ii⟩:=wZ hTy harr;have Px:=kH Ii w;split at hout
  ·rename_i l i0 j s k m hex hei;rw[hex]at hx;rw[hei]at hi;simp only[Sl.Rel,Sv.Rel,Lf.Rel]at hi;obtain⟨b,n',cap,hg,hv⟩:=hx;split at hout
   ·rename_i hc;obtain⟨rfl,rfl,rfl⟩:=aB3 hc;injection hout with hout
    subst hout;obtain⟨p1,p2⟩:=hp;refine bf (v:= .pointer (some ⟨b,m.toNat*s+0,none⟩)) ?_ h hK rfl ⟨b,n',cap,hg,rfl⟩;simp[execOp,ho,Instr.indexAt,Instr.sureAddr,hi,asIntOf,run_underlying xK,hv,p1,p2,Px,hsz,lq]
   ·cases hout
  ·rename_i k ki m hex hei;rw[hex]at hx;rw[hei]at hi;simp only[Sl.Rel,Sv.Rel,Lf.Rel]at hi hx;split at hout
   ·rename_i d hd;split at hout
    ·rename_i hs;have hs:=Qa hs;injection hout with hout
     subst hout;obtain⟨p1,p2,p3⟩:=hp;refine bf (v:= .pointer (some (Addr.add ⟨k,0,none⟩ (m.toNat*S.size d+0)))) ?_ h hK rfl ⟨_,_,_,h.gl k d hd,by omega,rfl⟩;simp[execOp,ho,Instr.indexAt,Instr.sureAddr,hi,asIntOf,run_underlying xK,hx,p1,p2,Px,hsz,hs]
    ·cases hout
   ·cases hout
  ·cases hout
theorem ZM {t:TypeId}(hS:jd S)(ho:o.op= .alloc t)(hTy:∀t ty,T t=some ty->fU P t ty)(h:Hp S w0 N blk g al w)(hfr:∀n,fr<=n->n < fr+64->¬al n)
  (hout:abO T S fr t=some out) (hK:Post S w0 N blk g al w fr out o.dst a K):o.wp P a w K Q:=by
 unfold abO at hout;split at hout
 ·cases hout
 ·rename_i e n sz harr;obtain⟨ty,te,hty,hte,hsz,h0,VX,hag,xK,hok,Ii⟩:=wZ hTy harr;rw[hty]at hout;dsimp only at hout;split at hout
  ·cases hout
  ·rename_i d hd;split at hout
   ·rename_i hc;simp only[jY]at hc;have hs:=Qa hc.1;have hn:=Qa2 hc.2;injection hout with hout
    subst hout;obtain⟨z,hz,hzc⟩:=Ap hok w;obtain⟨m1,m2,m3⟩:=hS.make _ _ _ _ hd;rw[Qbl]at m2;have hzl:z.cells.size=n*S.size d:=by rw[<-m2,<-hzc];simp
    have hrun:(execOp a.eval o).run P w= .ok (.value (.pointer (some ⟨w.heap.size,0,none⟩))) (w.alloc (.cells z.cells t)):=by
     simp[execOp,ho,Instr.alloc,hz,newVar,newRow,newObj,Sem.run]
    have hB:Below w.heap.size w (w.alloc (.cells z.cells t)):=(Below.refl w.heap.size w).alloc (lU _) _;obtain⟨g1,g2,g3⟩:=h.add (l:=fr) (bk:= .row t d) (v:= .slice (some ⟨w.heap.size,0,none⟩) n n) hB (hfr fr (lU _) au) (fun b hb=>by simp[d_]at hb;omega)
     (fun M' hk _=>by
      refine⟨⟨fun b hb=> .inl ?_,by rw[m1];omega,hS.ab_ _ _ _ _ hd⟩,z.cells.toList,⟨?_, .inr ⟨w.heap.size,n,z.cells,by rw[m1],uN _,heap_alloc_new w _,by omega,by simp only[maxLen];omega,hzl,?_⟩⟩,fun i' j hi' hj=> ?_⟩
      ·simp only[d_,KZ]at hb;have:=h.below.size;omega
      ·rw[O5,m1,hzl]
      ·rw[Qb0];rw[O5,m1,hzl];exact lU _
      ·rw[m1]at hi';obtain⟨x0,hx0,hle⟩:=m3 i' j hi' hj;have hlt:=nU hi' hj;have hlz:i'*S.size d+j < z.cells.size:=by rw[hzl];exact hlt
       refine⟨z.cells[i'*S.size d+j],by simp[hlz],hS.data _ _ _ au hj,hle.rel ?_⟩;have hzj:ty.zero[i'*S.size d+j]? =some z.cells[i'*S.size d+j]:=by rw[<-hzc];simp[hlz]
       simp only[Qbb,hzj,GZ,KZ]at hx0;rw[<-hx0];exact(zZ _).norm)
    exact lm hrun (hK _ _ _ g3 g2 (g1.weaken TW) ⟨w.heap.size,n,n,upd_same _ _ _,by simp⟩)
   ·cases hout
theorem aat {t:TypeId}{x y:Operand}(hS:jd S)(ho:o.op= .store t x y)(hTy:∀t ty,T t=some ty->fU P t ty)(h:Hp S w0 N blk g al w)(hx:(aH slot x).Rel S (aW N blk g) w g (a.eval x))(hy:(aH slot y).Rel S (aW N blk g) w g (a.eval y))
  (hout:Ew T S blk t (aH slot x) (aH slot y)=some out) (hp:lZ out.pre) (hK:Post S w0 N blk g al w fr out o.dst a K):o.wp P a w K Q:=by
 unfold Ew at hout;split at hout
 ·cases hout
 ·rename_i e n sz harr;obtain⟨ty,te,hty,hte,hsz,h0,VX,hag,xK,hok,Ii⟩:=wZ hTy harr;have Px:=kH hok w;split at hout
  ·rename_i l i j s cs hex CE;rw[hex]at hx;rw[CE]at hy;obtain⟨b,n',cap,hg,hv⟩:=hx;split at hout
   ·rename_i hc;simp only[jY]at hc;obtain⟨⟨c1,c2,c3⟩,c4⟩:=hc;have c1:=Qa c1;have c2:=Qa c2;have c3:=Qa c3;subst c1 c2 c3;split at hout
    ·rename_i e' d hb;split at hout
     ·rename_i d' hd;split at hout
      ·rename_i hq;simp only[jY]at hq;have hs:=Qa hq.1;have hs':=Qa hq.2;injection hout with hout
       subst hout;have hp:S.len d=n:=hp;obtain⟨m1,m2,m3⟩:=hS.make _ _ _ _ hd;rw[Qbl]at m2;obtain⟨us,hus,hru⟩:=hy;have hul:=hru.length;obtain⟨v,hv',hm,xs,⟨hxl,hown⟩,hcell⟩:=h.dH l _ hb;rw[hg]at hv';injection hv' with hv'
       subst hv';rcases hown with⟨q0,_⟩ | ⟨b',cap',cur,hvv,_,hh,hnc,hcm,hcs,htake⟩
       ·cases q0
       ·injection hvv with q1 q2 q3
        injection q1 with q1
        injection q1 with q1
        subst q1 q2 q3;have hh':w.heap[b]? =some (.cells (cur.toList).toArray e' (0,0)):=by simpa using hh
        have hcap:S.len d*S.size d<=cur.toList.length:=by rw[O5,hcs];exact L8 _ hnc
        have hlu:us.length=S.len d*S.size d:=by rw[<-hul,m2,hp,<-hs',<-hs]
        obtain⟨w',hrun,hb',hn,hsm,r1,r2,r3⟩:=kT (P:=P) b e' us w cur.toList 0 0 hh' au (kG h.refs c4 hru);have hrun':(execOp a.eval o).run P w= .ok .skip w':=by
         have hsz2:us.length=ty.size:=by rw[VX,hlu,hp,hs]
         simp[execOp,ho,Instr.storeAt,Instr.sureAddr,hv,storeVar,Px,hus,Value.cells,hsz2,hrun]
        obtain⟨hp',hk'⟩:=h.write (bk':= .row e' d') hb rfl rfl hg rfl r1 r2 r3 hsm hn (fun hk=>by
         refine⟨⟨hm.1,by rw[m1,<-hp];exact hm.2.1,by apply hS.ab_;assumption⟩,us,⟨by rw[hlu,m1,hp,<-hs',<-hs], .inr ⟨b,cap,(cur.toList.take (0+0)++(us++cur.toList.drop (0+0+us.length))).toArray,by rw[m1,<-hp],uN _,hb',by rw[m1,<-hp];exact hnc,hcm,?_,?_⟩⟩,fun i' j' hi' hj'=> ?_⟩
         ·rw[<-hs',hs,<-hcs];simp only[Qcl,pz,uP,PW];have:=O5 (xs:=cur);omega
         ·rw[m1,<-hs',<-hp,hs,<-hlu];simp
         ·rw[m1]at hi';obtain⟨x0,hx0,hle⟩:=m3 i' j' hi' hj';obtain⟨uv,huv,hrv⟩:=hru.norm.get _ hx0;exact⟨uv,huv,hS.data _ _ _ au hj',(hle.rel hrv).keep hk (More.refl _)⟩)
        exact KA hrun' (hK _ _ _ (More.refl _) hk' (hp'.weaken fun n hn=> .inl hn) trivial)
      ·cases hout
     ·cases hout
    ·cases hout
   ·cases hout
  ·cases hout
theorem akN {cs:List (Lf D)}{sz j:Nat}:∀(n r k:Nat),k < n->(XB cs sz j r n)[k]? =some (match cs[(r+k)*sz+j]? with
  | some x=>x
  | none=> .any)
 | 0,r,k,h=>by omega
 | n+1,r,0,h=>by simp[XB]
 | n+1,r,k+1,h=>by
  simp only[XB,List.getElem?_cons_succ];rw[akN n (r+1) k au,show r+1+k=r+(k+1) by omega]
theorem acr {k:IntKind}:∀{cs:List (Lf D)} {l:List Int},intsOf k cs=some l->∀(i:Nat) (x:Lf D),cs[i]? =some x->x= .int k (l.getD i 0)
 | [],l,h,i,x,hx=>by simp at hx
 | c::cs,l,h,i,x,hx=>by
  cases c with
  | int k' n=>
   simp only[intsOf]at h;split at h
   ·rename_i hk;have hk:k=k':=by simpa[WB]using hk
    subst hk;split at h
    ·rename_i l' hl;injection h with h
     subst h;cases i with
     | zero=>simp at hx;simp[<-hx]
     | succ i=>have:=acr hl i x qct;simpa using this
    ·cases h
   ·cases h
  | _=>simp[intsOf]at h
theorem strs_get:∀{cs:List (Lf D)} {l:List (List UInt8)},strsOf cs=some l->∀(i:Nat) (x:Lf D),cs[i]? =some x->x= .str (l.getD i [])
 | [],l,h,i,x,hx=>by simp at hx
 | c::cs,l,h,i,x,hx=>by
  cases c with
  | str s=>
   simp only[strsOf]at h;split at h
   ·rename_i l' hl;injection h with h
    subst h;cases i with
    | zero=>simp at hx;simp[<-hx]
    | succ i=>have:=strs_get hl i x qct;simpa using this
   ·cases h
  | _=>simp[strsOf]at h
theorem XT:∀{cs:List (Lf D)} {l:List Bool},JO cs=some l->∀(i:Nat) (x:Lf D),cs[i]? =some x->x= .bool (l.getD i false)
 | [],l,h,i,x,hx=>by simp at hx
 | c::cs,l,h,i,x,hx=>by
  cases c with
  | bool s=>
   simp only[JO]at h;split at h
   ·rename_i l' hl;injection h with h
    subst h;cases i with
    | zero=>simp at hx;simp[<-hx]
    | succ i=>have:=XT hl i x qct;simpa using this
   ·cases h
  | _=>simp[JO]at h
theorem ao1 {cs:List (Lf D)}{i:Nat}{p x:Lf D}(h:afL cs i=some p)(hx:cs[i]? =some x):x=p:=by
 unfold afL at h;split at h
 ·split at h
  ·rename_i l hl;injection h with h;subst h;exact acr hl i x hx
  ·cases h
 ·split at h
  ·rename_i l hl;injection h with h;subst h;exact strs_get hl i x hx
  ·cases h
 ·split at h
  ·rename_i l hl;injection h with h;subst h;exact XT hl i x hx
  ·cases h
 ·cases h
theorem NI {cs:List (Lf D)}{vs:List Value}{sz n i:Nat}(hr:aZ S M w g cs vs)(hl:cs.length=n*sz)(hi:i < n):∀(m j:Nat) (ls:List (Lf D)),j+m=sz->pickRow cs sz n i j m=some ls->aZ S M w g ls ((vs.drop (i*sz+j)).take m)
 | 0,j,ls,hj,h=>by simp[pickRow]at h;subst h;simp[aZ]
 | m+1,j,ls,hj,h=>by
  unfold pickRow at h;split at h
  ·rename_i x xs h1 h2;injection h with h
   subst h;have hlt:=nU hi (show j < sz by omega);have hlc:i*sz+j < cs.length:=by omega
   have hx:(XB cs sz j 0 n)[i]? =some cs[i*sz+j]:=by
    rw[akN n 0 i hi,BZ,Wy hlc]
   have hxx:=ao1 h1 hx;obtain⟨u,hu,hru⟩:=hr.get (i*sz+j) (Wy hlc);have hlv:i*sz+j < vs.length:=by rw[<-hr.length];exact hlc
   have hv:vs.drop (i*sz+j)=u::vs.drop (i*sz+(j+1)):=by
    rw[Qbm hlv];rw[Wy hlv]at hu;injection hu with hu
    rw[hu];rfl
   rw[hv,Qed];exact⟨hxx▸hru,NI hr hl hi m (j+1) xs au h2⟩
  ·cases h
theorem abT {t:TypeId}{x ix:Operand}(ho:o.op= .index t x ix)(hTy:∀t ty,T t=some ty->fU P t ty)(h:Hp S w0 N blk g al w)(hx:(aH slot x).Rel S (aW N blk g) w g (a.eval x))
  (hi:(aH slot ix).Rel S (aW N blk g) w g (a.eval ix)) (hout:Z4 T t (aH slot x) (aH slot ix)=some out) (hp:lZ out.pre) (hK:Post S w0 N blk g al w fr out o.dst a K):o.wp P a w K Q:=by
 unfold Z4 at hout;split at hout
 ·cases hout
 ·rename_i e n sz harr;obtain⟨ty,te,hty,hte,hsz,h0,VX,hag,xK,hok,Ii⟩:=xZ hTy harr;rw[hte]at hout;dsimp only at hout;have ah2:=kH Ii w;have ae8:=w_ Ii w;split at hout
  ·rename_i cs k m hex hei;rw[hex]at hx;rw[hei]at hi;simp only[Sl.Rel,Sv.Rel,Lf.Rel]at hi;obtain⟨vs,hv,hr⟩:=hx;split at hout
   ·rename_i hc;simp only[jY]at hc;have hl:=Qa hc.1;split at hout
    ·rename_i ls hls;have key:0<=m/\m < n->aZ S (aW N blk g) w g ls ((vs.drop (m.toNat*sz)).take sz):=fun hm=>by
      have:=NI hr.norm (by rw[Qbl];exact hl) (show m.toNat < n by omega) sz 0 ls au hls;simpa using this
     split at hout
     ·rename_i hea;injection hout with hout
      subst hout;obtain⟨p1,p2⟩:=hp;have hk:=key ⟨p1,p2⟩;refine bf (v:= .agg ((vs.drop (m.toNat*sz)).take sz).toArray) ?_ h hK rfl ⟨_,rfl,hk⟩;have he:vs.toArray.extract (m.toNat*sz) (m.toNat*sz+sz)=((vs.drop (m.toNat*sz)).take sz).toArray:=by
       apply Io.1;simp[Qdq]
      simp[execOp,ho,Instr.index,hi,asIntOf,run_underlying xK,hv,p1,p2,part,ae8,hea,ah2,hsz,he]
     ·rename_i hea;split at hout
      ·rename_i l;injection hout with hout
       subst hout;obtain⟨p1,p2⟩:=hp;have hk:=key ⟨p1,p2⟩;have hl1:=hk.length;cases hd:(vs.drop (m.toNat*sz)).take sz with
       | nil=>rw[hd]at hl1;simp at hl1
       | cons u r=>
        rw[hd]at hk hl1;have hu:vs[m.toNat*sz]? =some u:=by
         have:((vs.drop (m.toNat*sz)).take sz)[0]? =some u:=by rw[hd];rfl
         rw[LD,Qb h0,Qbk]at this;simpa using this
        refine bf (v:=u) ?_ h hK rfl hk.1;simp[execOp,ho,Instr.index,hi,asIntOf,run_underlying xK,hv,p1,p2,part,ae8,hea,ah2,hsz,hu]
      ·cases hout
    ·cases hout
   ·cases hout
  ·cases hout
theorem Zq {t:TypeId}{parts:Array (Nat×Operand)}(ho:o.op= .build t parts)(hTy:∀t ty,T t=some ty->fU P t ty)(h:Hp S w0 N blk g al w)
  (hs:∀t,(slot t).Rel S (aW N blk g) w g (a.tmps.getD t undef)) (hout:QK T slot t parts=some out) (hK:Post S w0 N blk g al w fr out o.dst a K):o.wp P a w K Q:=by
 unfold QK at hout;split at hout
 ·cases hout
 ·rename_i e n sz harr;obtain⟨ty,te,hty,hte,hsz,h0,VX,hag,xK,hok,Ii⟩:=xZ hTy harr;rw[hty]at hout;dsimp only at hout;split at hout
  ·rename_i cs hf;injection hout with hout
   subst hout;obtain⟨z,hz,hzc⟩:=Ap hok w;have ah2:=kH Ii w;obtain⟨vs',hv',hr'⟩:=TE (a:=a) (sz:=sz) h.refs hs parts.toList _ cs z.cells (by rw[hzc];exact rG _) hf;refine bf (v:= .agg vs') ?_ h hK rfl ⟨vs'.toList,by simp,hr'⟩;have hmap:parts.toList.map (fun p=>(p.1,a.eval p.2))=(parts.map fun(i,x)=>(i,a.eval x)).toList:=by simp
   rw[hmap]at hv';simp at hv';simp[execOp,ho,Instr.build,hz,run_underlying xK,ah2,hsz,hv']
  ·cases hout
theorem X3 {e':TypeId}{d p z d':D}{b i j n cap:Nat}{zs:List (Lf D)}{zv:List Value}{cur cur':Array Value}{e:TypeId}(hS:jd S)(hm:w0.Mine b)(hlm:S.len d<=9223372036854775807)
  (hij:i<=j) (hj:j=S.len d) (hn:n=S.len d) (hsub:S.sub d 0 i=some p) (hz:S.zero e (j - i) zs=some z) (FV:S.cat p z=some d')
  (hold:∀r c,r < S.len d->c < S.size d->∃u,cur[r*S.size d+c]? =some u/\(S.cell d r c).jJ=true/\(S.cell d r c).Rel S M w' g u)
  (hcz:aZ S M w' g zs zv) (hcap:n<=cap) (hcm:cap<=maxLen) (hcs:cur'.size=cap*S.size d)
  (hh:w'.heap[b]? =some (.cells cur' e' (0,0))) (h1:∀k,k < i*S.size d->cur'[k]? =cur[k]?) (h2:∀r c,i<=r->r < j->c < S.size d->cur'[r*S.size d+c]? =zv[c]?):
  xJ S M w' g w0 (.row e' d') (.slice (some ⟨b,0,none⟩) n cap):=by
 obtain⟨a1,a2,a3⟩:=hS.sub _ _ _ _ hsub (uN _) au;obtain⟨z1,z2,z3⟩:=hS.zero _ _ _ _ hz;obtain⟨c1,c2,c3,c4,c5⟩:=hS.cat _ _ _ FV;have hsz:S.size d'=S.size d:=by rw[<-c1,a1]
 have hszz:S.size z=S.size d:=by rw[c2,hsz]
 have hlen:S.len d'=S.len d:=by rw[c3,a2,z1];omega
 have hle:S.len d*S.size d<=cur'.size:=by rw[hcs,<-hn];exact L8 _ hcap
 refine⟨⟨fun b' hb'=>by simp only[d_,KZ]at hb';exact hb'▸hm,by rw[hlen];exact hlm,hS.V3 _ _ _ FV⟩,cur'.toList.take (S.len d*S.size d),⟨?_, .inr ⟨b,cap,cur',by rw[hlen,hn],uN _,hh,by rw[hlen,<-hn];exact hcap,hcm,by rw[hsz];exact hcs,by rw[hlen,hsz]⟩⟩,fun r c hr hc=> ?_⟩
 ·rw[uP,O5,hlen,hsz];omega
 ·rw[hlen]at hr;rw[hsz]at hc;have hlt:=nU hr hc;have hdat:=hS.data d' r c au au;rw[hsz,LD,Qb hlt,Qb8];by_cases hri:r < i
  ·obtain⟨u,q1,q2,q3⟩:=hold r c hr hc;have hcell:S.cell d' r c=S.cell d r c:=by
    rw[c4 r c (by rw[a2];omega),a3 r c au,BZ]
   refine⟨u,by rw[h1 _ (by have:=nU hri hc;omega)];exact q1,hdat,by rw[hcell];exact q3⟩
  ·have hcell:S.cell d' r c=S.cell z (r - i) c:=by
    have:=c5 (r - i) c (by rw[z1];omega);rw[a2]at this;rw[<-this];congr 1;omega
   obtain⟨x,hx,hle⟩:=z3 (r - i) c au au;obtain⟨u,hu,hru⟩:=hcz.get c hx;refine⟨u,by rw[h2 r c au au hc];exact hu,hdat,by rw[hcell];exact hle.rel hru⟩
theorem MZ {z:Array Value}{n k:Nat}(hk:k < n*z.size):(Builtin.zeroCells z n).toList[k]? =z[k % z.size]? :=by
 have h0:0 < z.size:=by
  rcases Qcz z.size with h | h
  ·rw[h,Nat.mul_zero]at hk;omega
  ·exact h
 have hm:k % z.size < z.size:=Qc5 _ h0;simp[Builtin.zeroCells,hk,hm]
theorem adh {c:Call}{x:Operand}(hS:jd S)(ho:o.op= .call c)(hc:c.callee= .builtin .clear)(hargs:c.args.toList=[x])(hTy:∀t ty,T t=some ty->fU P t ty)(h:Hp S w0 N blk g al w)(hx:(aH slot x).Rel S (aW N blk g) w g (a.eval x))
  (hout:Me T S blk c.argTypes (aH slot x)=some out) (hp:lZ out.pre) (hK:Post S w0 N blk g al w fr out o.dst a K):o.wp P a w K Q:=by
 unfold Me at hout;split at hout
 ·rename_i t hts;split at hout
  ·cases hout
  ·rename_i ty hty;split at hout
   ·cases hout
   ·rename_i e hel;split at hout
    ·cases hout
    ·rename_i te hte;split at hout
     ·rename_i l i j sz f hex;rw[hex]at hx;obtain⟨av,n,cap,hg,hv,hij,hjn,_⟩:=hx;split at hout
      ·rename_i e' d hb;split at hout
       ·rename_i hcond;simp only[jY]at hcond;obtain⟨q1,q2,q3,q4⟩:=hcond;have q1:=Qa q1;have q2:=Qa q2;have q3:0 < sz:=by simpa[Gf]using q3
        have q4:=Qa q4;split at hout
        ·rename_i p z hsub hz;split at hout
         ·rename_i d' FV;injection hout with hout
          subst hout;have hj:j=S.len d:=hp;have hsl:=kY (hTy _ _ hty) hel;obtain⟨zv,hzv,hzc⟩:=Ap (hTy _ _ hte) w;have hzs:zv.cells.size=sz:=by rw[<-q4,<-hzc];simp
          obtain⟨v,hv',hm,xs,⟨hxl,hown⟩,hcell⟩:=h.dH l _ hb;rw[hg]at hv';injection hv' with hv'
          have ha1:c.args= #[x]:=by rw[<-Io];simpa using hargs
          have ht1:c.argTypes= #[t]:=by rw[<-Io];simpa using hts
          rcases hown with⟨h0,hn0⟩ | ⟨b,cap',cur,hvv,_,hh,hnc,hcm,hcs,htake⟩
          ·rw[h0]at hv';injection hv' with e1 e2 e3
           subst e1 e2 e3;have hj0:j=0:=by omega
           have hi0:i=0:=by omega
           subst hj0 hi0;obtain⟨a1,a2,a3⟩:=hS.sub _ _ _ _ hsub (uN _) au;obtain⟨z1,z2,z3⟩:=hS.zero _ _ _ _ hz;obtain⟨c1,c2,c3,c4,c5⟩:=hS.cat _ _ _ FV;have hl0:S.len d'=0:=by rw[c3,a2,z1]
           obtain⟨g1,g2⟩:=h.ah9 (bk':= .row e' d') hb rfl rfl hg ⟨⟨fun b hb=>by simp[d_]at hb,by omega,hS.V3 _ _ _ FV⟩,[],⟨by simp[hl0], .inl ⟨rfl,hl0⟩⟩,fun r c hr=>by omega⟩;have hrun:(execOp a.eval o).run P w= .ok (.value (.tuple #[])) w:=by
            have hv:a.eval x= .slice none 0 0:=by rw[hv];simp[sliced]
            simp[execOp,ho,resolve,hc,invoke,builtin,ha1,ht1,Builtin.clear_,run_underlying hsl,hv]
           exact lm hrun (hK _ _ _ (More.refl _) g2 (g1.weaken fun n hn=> .inl hn) ⟨[],rfl,trivial⟩)
          ·rw[hvv]at hv';injection hv' with e1 e2 e3
           subst e1 e2 e3;have hold:∀r c,r < S.len d->c < S.size d->∃u,cur[r*S.size d+c]? =some u/\(S.cell d r c).jJ=true/\(S.cell d r c).Rel S (aW N blk g) w g u:=by
            intro r c hr hc;obtain⟨u,u1,u2,u3⟩:=hcell r c hr hc;refine⟨u,?_,u2,u3⟩;rw[<-u1,<-htake,LD,Qb (nU hr hc),Qb8]
           have hmb:w0.Mine b:=hm.1 b (by rw[hvv];rfl);have hzl:aZ S (aW N blk g) w g (te.zero.map fun v=>(xG v:Lf D).norm) zv.cells.toList:=by
            have:=(rG (D:=D) (S:=S) (M:=aW N blk g) (w:=w) (g:=g) te.zero).norm;rw[Qc2,<-hzc]at this;rw[<-hzc];exact this
           by_cases hlt:i < j
           ·have aHk:¬cap=i:=by omega
            have hva:a.eval x= .slice (some ⟨b,i*sz,none⟩) (j - i) (cap - i):=by rw[hv];simp[sliced,aHk,lq]
            have hh':w.heap[b]? =some (.cells (cur.toList).toArray e' (0,0)):=by simpa using hh
            have hul:(Builtin.zeroCells zv.cells (j - i)).toList.length=(j - i)*sz:=by rw[O5,size_zeroCells,hzs]
            have hji:i*sz+(j - i)*sz=j*sz:=by rw[<-QX];congr 1;omega
            have hjc:j*sz<=cur.toList.length:=by rw[O5,hcs,<-q2];exact L8 _ au
            have hone:(Builtin.zeroCells zv.cells (j - i)).toList.all one'=true:=by
             rw[MX];intro u hu;obtain⟨k,hk,rfl⟩:=Qdu hu;have hk':k < (j - i)*zv.cells.size:=by rw[hul]at hk;rw[hzs];exact hk
             have hg:=MZ hk';rw[Wy hk]at hg;have hmem:(Builtin.zeroCells zv.cells (j - i)).toList[k]∈zv.cells.toList:=by
              have:=Qd2 hg.symm;simpa using this
             obtain⟨m,hm',he⟩:=Qdu hmem;obtain⟨x0,hx0,hxr⟩:∃x0:Lf D,(te.zero.map fun v=>(xG v:Lf D).norm)[m]? =some x0/\x0.Rel S (aW N blk g) w g zv.cells.toList[m]:=by
              have hlm:=hzl.length;have hm2:m < (te.zero.map fun v=>(xG v:Lf D).norm).length:=by rw[hlm];exact hm'
              obtain⟨u,hu1,hu2⟩:=hzl.get m (Wy hm2);rw[Wy hm']at hu1;injection hu1 with hu1
              exact⟨_,Wy hm2,by rw[hu1];exact hu2⟩
             obtain⟨z1,z2,z3⟩:=hS.zero _ _ _ _ hz;have hmz:m < S.size z:=by rw[<-z2];exact(Qaz.1 hx0).1
             obtain⟨x1,hx1,hle⟩:=z3 0 m au hmz;rw[hx0]at hx1;injection hx1 with hx1
             subst hx1;have:=Iu (hS.data z 0 m au hmz) (hle.rel hxr);rw[<-he];exact this
            obtain⟨w',hrun,hb',hn,hsm,r1,r2,r3⟩:=kT (P:=P) b e' (Builtin.zeroCells zv.cells (j - i)).toList w cur.toList (i*sz) 0 hh' au hone;generalize hus:(Builtin.zeroCells zv.cells (j - i)).toList=us at*;obtain⟨hp',hk'⟩:=h.write (bk':= .row e' d') hb rfl rfl hg rfl r1 r2 r3 hsm hn (fun hk=>
             X3 (cur:=cur) (zv:=zv.cells.toList) hS hmb hm.2.1 hij hj rfl hsub hz FV (fun r c hr hc=>by obtain⟨u,u1,u2,u3⟩:=hold r c hr hc;exact⟨u,u1,u2,u3.keep hk (More.refl _)⟩)
              (hzl.keep hk (More.refl _)) hnc hcm (by
               rw[<-hcs];simp only[Qcl,pz,uP,PW];have:=O5 (xs:=cur);omega) hb' (fun k hk=>by
               rw[<-q2]at hk;rw[List.getElem?_toArray,Qa9 qbt,LD,Qb au,Qb8])
              (fun r c hr1 hr2 hc=>by
               rw[<-q2]at hc⊢;have hpos:i*sz<=r*sz:=L8 _ hr1;have hrc:r*sz+c - i*sz=(r - i)*sz+c:=by rw[Qek];omega
               have hlu:(r - i)*sz+c < us.length:=by
                rw[hul];exact nU au hc
               rw[List.getElem?_toArray,Qa6 qbt];have hidx:r*sz+c - (cur.toList.take (i*sz+0)).length=(r - i)*sz+c:=by
                simp only[uP];omega
               rw[hidx,Qa9 hlu,<-hus,MZ (by rw[hzs,<-hul];exact hlu),hzs,Qcv,Qe,Qb1 hc,Qb8]))
            have hrun':(execOp a.eval o).run P w= .ok (.value (.tuple #[])) w':=by
             obtain⟨m,hm'⟩:∃m,j - i=m+1:=⟨j - i - 1,by omega⟩;rw[hm']at hva hus;simp[execOp,ho,resolve,hc,invoke,builtin,ha1,ht1,Builtin.clear_,run_underlying hsl,hva,hzv,hus,hrun]
            exact lm hrun' (hK _ _ _ (More.refl _) hk' (hp'.weaken fun n hn=> .inl hn) ⟨[],rfl,trivial⟩)
           ·have hie:i=j:=by omega
            subst hie;obtain⟨g1,g2⟩:=h.ah9 (bk':= .row e' d') hb rfl rfl hg (X3 (cur:=cur) (zv:=zv.cells.toList) hS hmb hm.2.1 hij hj rfl hsub hz FV hold hzl hnc hcm hcs hh (fun _ _=>rfl) (fun r c h1 h2=>by omega));have hrun:(execOp a.eval o).run P w= .ok (.value (.tuple #[])) w:=by
             have hv:∃q,a.eval x= .slice (some q) 0 (cap - i):=by
              rw[hv];unfold sliced;by_cases hci:cap=i
              ·exact⟨_,by rw[Qb hci,Qef]⟩
              ·exact⟨_,by rw[qC hci,Qef];rfl⟩
             obtain⟨q,hv⟩:=hv;simp[execOp,ho,resolve,hc,invoke,builtin,ha1,ht1,Builtin.clear_,run_underlying hsl,hv]
            exact lm hrun (hK _ _ _ (More.refl _) g2 (g1.weaken fun n hn=> .inl hn) ⟨[],rfl,trivial⟩)
         ·cases hout
        ·cases hout
       ·cases hout
      ·cases hout
     ·cases hout
 ·cases hout
theorem alP (hTy:∀t ty,T t=some ty->fU P t ty)(hΓ:∀f ct,Γ f=some ct->fV P S f ct)(hS:jd S)(h:Hp S w0 N blk g al w)(hfr:∀n,fr<=n->n < fr+64->¬al n)
  (hs:∀t,(slot t).Rel S (aW N blk g) w g (a.tmps.getD t undef)) (hout:amr T S Γ slot blk fr o.op=some out) (hp:lZ out.pre) (hK:Post S w0 N blk g al w fr out o.dst a K):o.wp P a w K Q:=by
 unfold amr at hout;split at hout
 ·rename_i out' hx;injection hout with hout
  subst hout;have hr:=oG hs;unfold Cb at hx;split at hx
  ·rename_i t ho;exact ZM hS ho hTy h hfr hx hK
  ·rename_i t x ho;exact acD ho hTy h (hr x) hx hp hK
  ·rename_i t x y ho;exact aat hS ho hTy h (hr x) (hr y) hx hp hK
  ·rename_i t x i ho;exact aba ho hTy h (hr x) (hr i) hx hp hK
  ·rename_i t x i ho;exact abT ho hTy h (hr x) (hr i) hx hp hK
  ·rename_i t parts ho;exact Zq ho hTy h hs hx hK
  ·rename_i c ho;split at hx
   ·rename_i aD8;split at hx
    ·rename_i x hargs;exact adh hS ho aD8 hargs hTy h (hr x) hx hp hK
    ·cases hx
   ·cases hx
  ·rename_i t x ho;exact ak9 ho hTy h (hr x) hx hK
  ·rename_i x st t ho;exact aaD ho hTy h (hr x) hx hp hK
  ·cases hx
 ·exact alp hTy hΓ hS h hfr hs hout hp hK
end
end Go.Vc
namespace Go.Vc
open Go.RowKit
def um (s:List UInt8)(p:Nat):Int:=((Utf8.decode ⟨s.toArray⟩ p).1:Nat)
def DJ (s:List UInt8)(p:Nat):Nat:=(Utf8.decode ⟨s.toArray⟩ p).2
section
variable {D:Type}
def afB (T:TypeId->Option Ty)(fr:Nat)(t:TypeId)(x:Sl D):Option (Out D):=
 match T t with
 | none=>none
 | some ty=>(match x with
  | .one (.lf (.str s))=>if Nat.beq ty.kind 3 then some ⟨none, .one (.lf (.ptr fr 0)),[(fr,some (.iter s 0))]⟩else none
  | _=>none)
def aql (T:TypeId->Option Ty)(S:Sh D)(Γ:FuncId->Option (Ct D))(slot:Nat->Sl D)(blk:Nat->Option (Bk D))(fr:Nat)(op:Op):Option (Out D):=
 match op with
 | .range t x=>afB T fr t (aH slot x)
 | op=>amr T S Γ slot blk fr op
def U9 (slot:Nat->Sl D)(blk:Nat->Option (Bk D))(op:Op):Option (Bool×Out D×Out D):=
 match op with
 | .next it true=>(match aH slot it with
  | .one (.lf (.ptr l o))=>if Nat.beq o 0 then(match blk l with
   | some (.iter s p)=>some (decide (p < s.length),⟨none, .xx [.lf (.val (.bool true)), .lf (.int .i64 p), .lf (.int .i32 (um s p))],[(l,some (.iter s (p+DJ s p)))]⟩,⟨none, .xx [.lf (.val (.bool false))],[]⟩)
   | _=>none)else none
  | _=>none)
 | _=>none
end
section
variable {D:Type}{P:Program}{S:Sh D}{T:TypeId->Option Ty}{Γ:FuncId->Option (Ct D)}{M M' N:Nat->Prop}{w w':World}{w0:Bs}{g g':Nat->Option Value}{blk blk':Nat->Option (Bk D)}{al:Nat->Prop}
 {a:Act} {o:Oper} {K:Act->World->Prop} {Q:Exit->Act->World->Prop} {slot bW:Nat->Sl D} {out:Out D} {fr:Nat}
theorem adS {t:TypeId}{x:Operand}(ho:o.op= .range t x)(hTy:∀t ty,T t=some ty->fU P t ty)(h:Hp S w0 N blk g al w)(hfr:∀n,fr<=n->n < fr+64->¬al n)(hx:(aH slot x).Rel S (aW N blk g) w g (a.eval x))
  (hout:afB T fr t (aH slot x)=some out) (hK:Post S w0 N blk g al w fr out o.dst a K):o.wp P a w K Q:=by
 unfold afB at hout;split at hout
 ·cases hout
 ·rename_i ty hty;split at hout
  ·rename_i s hex;rw[hex]at hx;simp only[Sl.Rel,Sv.Rel,Lf.Rel]at hx;split at hout
   ·rename_i hk;have hk:=Qa hk;obtain⟨d,hd,hkd⟩:=ny (hTy _ _ hty);rw[hk]at hkd;have hd:P.underlying t=some .string:=by cases d<;>simp_all [kindOf]
    injection hout with hout
    subst hout;have hrun:(execOp a.eval o).run P w= .ok (.value (.pointer (some ⟨w.heap.size,0,none⟩))) (w.alloc (.stringIter ⟨s.toArray⟩ 0)):=by
     simp[execOp,ho,Instr.range,hx.1,run_underlying hd,newObj,Sem.run]
    have hB:Below w.heap.size w (w.alloc (.stringIter ⟨s.toArray⟩ 0)):=(Below.refl w.heap.size w).alloc (lU _) _;obtain⟨g1,g2,g3⟩:=h.add (l:=fr) (bk:= .iter s 0) (v:= .pointer (some ⟨w.heap.size,0,none⟩)) hB (hfr fr (lU _) au) (fun b hb=>by simp[d_]at hb;omega)
     (fun M' hk _=>⟨hx.2,w.heap.size,rfl, .inl h.below.size,heap_alloc_new w _⟩)
    exact lm hrun (hK _ _ _ g3 g2 (g1.weaken TW) ⟨w.heap.size,upd_same _ _ _,rfl⟩)
   ·cases hout
  ·cases hout
theorem run_next_at {s:ByteArray}{p b:Nat}{ty:TypeId}(hh:w.heap[b]? =some (.stringIter s p))(h:p < s.size):(Instr.next (.pointer (some ⟨b,0,none⟩)) true ty).run P w=
  .ok (.tuple #[.bool true, .int .i64 p, .int .i32 ((Utf8.decode s p).1:Nat)]) {w with heap:=w.heap.setIfInBounds b (.stringIter s (p+(Utf8.decode s p).2))}:=by
 simp only[Instr.next,getObj,setObj,Sem.run_bind,Sem.run,hh,Result.andThen,h,if_true];simp[goInt]
theorem acY {s:ByteArray}{p b:Nat}{ty:TypeId}(hh:w.heap[b]? =some (.stringIter s p))(h:¬p < s.size):(Instr.next (.pointer (some ⟨b,0,none⟩)) true ty).run P w= .ok (.tuple #[.bool false]) w:=by
 simp[Instr.next,getObj,Sem.run,hh,h]
theorem ag6 {b:Bool}{o1 o2:Out D}(h:Hp S w0 N blk g al w)(hs:∀t,(slot t).Rel S (aW N blk g) w g (a.tmps.getD t undef))
  (hx:U9 slot blk o.op=some (b,o1,o2)) (hK:Post S w0 N blk g al w fr (bif b then o1 else o2) o.dst a K):o.wp P a w K Q:=by
 have hr:=oG hs;unfold U9 at hx;split at hx
 ·rename_i it ho;have hv:=hr it;split at hx
  ·rename_i l off hex;rw[hex]at hv;split at hx
   ·rename_i hoff;have hoff:=Qa hoff;subst hoff;obtain⟨bb,hg,hv⟩:=hv;split at hx
    ·rename_i s p hb;injection hx with hx
     injection hx with x1 hx
     injection hx with x2 x3
     obtain⟨v,hv',hsl,b',rfl,hm,hh⟩:=h.dH l _ hb;rw[hg]at hv';injection hv' with hv'
     injection hv' with hv'
     injection hv' with hv'
     injection hv' with hv'
     subst hv';have hsz:(ByteArray.mk s.toArray).size=s.length:=by show s.toArray.size=_;simp
     by_cases hp:p < s.length
     ·have hb1:b=true:=by rw[<-x1];simpa using hp
      subst hb1;rw[wB]at hK;subst x2;have hrun:=run_next_at (P:=P) (ty:=o.type) hh (by rw[hsz];exact hp);have hlt:=sJ hh;obtain⟨hp',hk'⟩:=h.write (w':={w with heap:=w.heap.setIfInBounds bb (.stringIter ⟨s.toArray⟩ (p+DJ s p))}) (bk':= .iter s (p+DJ s p)) hb rfl rfl hg rfl rfl rfl rfl oJ
       (fun n hn=>by
        have hne:bb≠n:=fun e=>hn e.symm
        simp[Array.getElem?_setIfInBounds_ne hne]) (fun hk=>⟨hsl,bb,rfl,hm,by simp[hlt]⟩)
      refine lm (v:= .tuple #[.bool true, .int .i64 p, .int .i32 (um s p)]) ?_ (hK _ _ _ (More.refl _) hk' (hp'.weaken fun n hn=> .inl hn) ⟨[.bool true, .int .i64 p, .int .i32 (um s p)],rfl,rfl,rfl,rfl,trivial⟩);simp only[execOp,ho,hv,Sem.run_bind,hrun,Result.andThen_ok,Sem.run_pure];rfl
     ·have hb1:b=false:=by rw[<-x1];simpa using hp
      subst hb1;rw[nR]at hK;subst x3;have hrun:=acY (P:=P) (ty:=o.type) hh (by rw[hsz];exact hp);refine bf (v:= .tuple #[.bool false]) ?_ h hK rfl ⟨[.bool false],rfl,rfl,trivial⟩;simp only[execOp,ho,hv,Sem.run_bind,hrun,Result.andThen_ok,Sem.run_pure]
    ·cases hx
   ·cases hx
  ·cases hx
 ·cases hx
end
end Go.Vc
