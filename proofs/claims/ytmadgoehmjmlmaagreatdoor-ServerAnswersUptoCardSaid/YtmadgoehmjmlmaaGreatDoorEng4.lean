/- Own engine: Vdh, Vdt, Vdu, Vdv, Vdw. -/
import Derived.Test.YtmadgoehmjmlmaaGreatDoorEng3
import Derived.Laws.RangeString
set_option linter.unusedVariables false
set_option linter.unusedSimpArgs false
namespace Go.Vc
open Go.RowKit
section
variable {D:Type}{P:Program}{S:Sh D}{T:TypeId->Option Ty}{Γ:FuncId->Option (Ct D)}{M M' N:Nat->Prop}{w w':World}{w0:Bs}{g g':Nat->Option Value}{blk blk':Nat->Option (Bk D)}{al:Nat->Prop}
 {a:Act} {o:Oper} {K:Act->World->Prop} {Q:Exit->Act->World->Prop} {slot:Nat->Sl D} {out:Out D} {fr:Nat} {ids jA:List Nat}
structure aoy (N:Nat->Prop)(blk:Nat->Option (Bk D))(g:Nat->Option Value)(jA:List Nat)(M':Nat->Prop):Prop where
 sub:∀b,M' b->aT N blk g b
 off:∀l∈jA,∀v b,hot (blk l)=true->g l=some v->dY v=some b->¬M' b
theorem Lf.Rel.view (hS:jf S){x:Lf D}{v:Value}(h:Hp S w0 N blk g al w)(hs:aoy N blk g jA M')(hv:∀l∈x.owns,l∈jA)(hr:x.Rel S (aT N blk g) w g v):(x.view blk).Rel S M' w g v:=by
 cases x with
 | own l=>
  have hr:g l=some v:=hr;simp only[Lf.view];split
  ·rename_i e d hb;exact MP h hb hr hs.sub (fun b hbv=>hs.off l (hv l (by simp[Lf.owns])) v b qch hr hbv)
  ·rename_i d hb;exact ag6 hS h qch hr hs.sub (fun b hbv=>hs.off l (hv l (by simp[Lf.owns])) v b qch hr hbv)
  ·rename_i d hb;obtain⟨v',hv',hok⟩:=h.dE l _ hb;rw[hr]at hv';injection hv' with hv'
   subst hv';exact dA.mono hok hs.sub
  ·exact hr
 | part l i j sz f=>
  obtain⟨av,n,cap,hg,rfl,h1,h2,rfl⟩:=hr;have cut:∀d d',dA S M' w d (.slice av n cap)->YK S sz i j d=some d'->dA S M' w d' (sliced av i j cap sz):=by
   intro d d' hd hf;unfold YK at hf;split at hf
   ·rename_i hz;have hz:=Qa hz;obtain⟨a',cap',e1,_⟩:=dA.slice' hd (hS.Ip _ _ _ _ hf).1;injection e1 with _ e1 _
    have:=GL hS hd hf h1 au;rw[hz];exact this
   ·cases hf
  simp only[Lf.view];split
  ·rename_i e d hb;split
   ·rename_i d' hf;exact cut d d' (MP h hb hg hs.sub (fun b hbv=>hs.off l (hv l (by simp[Lf.owns])) _ b qch hg hbv)) hf
   ·trivial
  ·rename_i d hb;split
   ·rename_i d' hf;obtain⟨v',hv',hok⟩:=h.dE l _ hb;rw[hg]at hv';injection hv' with hv'
    subst hv';exact cut d d' (dA.mono hok hs.sub) hf
   ·trivial
  ·exact⟨av,n,cap,hg,rfl,h1,h2,rfl⟩
 | dat d=>exact dA.mono hr hs.sub
 | elt d i j=>obtain⟨a,n,cap,h1,h2⟩:=hr;exact⟨a,n,cap,h1.mono hs.sub,h2⟩
 | xt e=>exact Xt.Rel.mono hr hs.sub
 | _=>exact hr
theorem aY.view (hS:jf S)(h:Hp S w0 N blk g al w)(hs:aoy N blk g jA M'):∀{xs:List (Lf D)} {vs:List Value},(∀l∈xs.flatMap Lf.owns,l∈jA)->aY S (aT N blk g) w g xs vs->aY S M' w g (xs.map (Lf.view blk)) vs
 | [],[],_,_=>trivial
 | x::xs,v::vs,hv,hr=>⟨hr.1.view hS h hs (fun l hl=>hv l qci),aY.view hS h hs (fun l hl=>hv l qb7) hr.2⟩
theorem Sv.Rel.view (hS:jf S){x:Sv D}{v:Value}(h:Hp S w0 N blk g al w)(hs:aoy N blk g jA M')(hv:∀l∈x.owns,l∈jA)(hr:x.Rel S (aT N blk g) w g v):(x.view blk).Rel S M' w g v:=by
 cases x with
 | lf x=>exact Lf.Rel.view hS h hs hv hr
 | agg xs=>obtain⟨vs,h1,h2⟩:=hr;exact⟨vs,h1,h2.view hS h hs hv⟩
theorem iM.view (hS:jf S)(h:Hp S w0 N blk g al w)(hs:aoy N blk g jA M'):∀{xs:List (Sv D)} {vs:List Value},(∀l∈xs.flatMap Sv.owns,l∈jA)->iM S (aT N blk g) w g xs vs->iM S M' w g (xs.map (Sv.view blk)) vs
 | [],[],_,_=>trivial
 | x::xs,v::vs,hv,hr=>⟨hr.1.view hS h hs (fun l hl=>hv l qci),iM.view hS h hs (fun l hl=>hv l qb7) hr.2⟩
theorem Sl.Rel.view (hS:jf S){x:Sl D}{v:Value}(h:Hp S w0 N blk g al w)(hs:aoy N blk g jA M')(hv:∀l∈x.owns,l∈jA)(hr:x.Rel S (aT N blk g) w g v):(x.view blk).Rel S M' w g v:=by
 cases x with
 | one x=>exact Sv.Rel.view hS h hs hv hr
 | yD xs=>obtain⟨vs,h1,h2⟩:=hr;exact⟨vs,h1,h2.view hS h hs hv⟩
theorem iy.view (hS:jf S)(h:Hp S w0 N blk g al w)(hs:aoy N blk g jA M'):∀{xs:List (Sl D)} {vs:List Value},(∀l∈xs.flatMap Sl.owns,l∈jA)->iy S (aT N blk g) w g xs vs->iy S M' w g (xs.map (Sl.view blk)) vs
 | [],[],_,_=>trivial
 | x::xs,v::vs,hv,hr=>⟨hr.1.view hS h hs (fun l hl=>hv l qci),iy.view hS h hs (fun l hl=>hv l qb7) hr.2⟩
theorem iy.less (hM:∀b,M' b->M b):∀{xs:List (Sl D)} {vs:List Value},iy S M w g xs vs->iy S M' w g xs vs
 | [],[],_=>trivial
 | x::xs,v::vs,hr=>by
  refine⟨?_,iy.less hM hr.2⟩;have:=hr.1.ren (g':=g) (M':=M') (f:=fun l=>l) (fun _ _ _ hu=>hu) (fun _=>hM);have e:x.ren (fun l=>l)=x:=by
   have e1:∀y:Lf D,y.ren (fun l=>l)=y:=fun y=>by cases y<;>simp[Lf.ren]
   have e2:∀y:Sv D,y.ren (fun l=>l)=y:=fun y=>by cases y with
    | lf y=>simp[Sv.ren,e1]
    | agg ys=>simp only[Sv.ren];congr 1;exact(Qbs fun y _=>e1 y).trans (Qeu _)
   cases x with
   | one y=>simp[Sl.ren,e2]
   | yD ys=>simp only[Sl.ren];congr 1;exact(Qbs fun y _=>e2 y).trans (Qeu _)
  rwa [e]at this
theorem iy.app:∀{xs ys:List (Sl D)} {vs us:List Value},iy S M w g xs vs->iy S M w g ys us->iy S M w g (xs++ys) (vs++us)
 | [],_,[],_,_,h=>h
 | _::_,_,_::_,_,h,h'=>⟨h.1,iy.app h.2 h'⟩
theorem eH:∀(r ids:List Nat) (l:Nat),l∈mr ids r ↔ l∈ids\/l∈r
 | [],ids,l=>by simp[mr]
 | x::r,ids,l=>by
  unfold mr;rw[eH r];split
  ·rename_i hm;have:=g_.1 hm;constructor
   ·rintro(h | h)
    ·exact .inl h
    ·exact .inr (by simp[h])
   ·rintro(h | h)
    ·exact .inl h
    ·rcases xI.1 h with rfl | h
     ·exact .inl this
     ·exact .inr h
  ·simp only[rW,xI,Qb,or_false];constructor
   ·rintro((h | h) | h)
    ·exact .inl h
    ·exact .inr (.inl h)
    ·exact .inr (.inr h)
   ·rintro(h | h | h)
    ·exact .inl (.inl h)
    ·exact .inl (.inr h)
    ·exact .inr h
theorem ajP {x:Lf D}{l:Nat}(hl:l∈x.owns):((∃d,rwD (blk l)=some d)\/hot (blk l)=false\/l∈(x.view blk).refs):=by
 cases x with
 | own l'=>
  simp[Lf.owns]at hl;subst hl;simp only[Lf.view];split
  ·rename_i e d hb;exact .inl ⟨d,by rw[hb];rfl⟩
  ·rename_i d hb;exact .inl ⟨d,by rw[hb];rfl⟩
  ·rename_i d hb;exact .inr (.inl qch)
  ·exact .inr (.inr qb3)
 | part l' i j sz f=>
  simp[Lf.owns]at hl;subst hl;simp only[Lf.view];split
  ·rename_i e d hb;exact .inl ⟨d,by rw[hb];rfl⟩
  ·rename_i d hb;exact .inr (.inl qch)
  ·exact .inr (.inr qb3)
 | _=>simp[Lf.owns]at hl
theorem alP {x:Sv D}{l:Nat}(hl:l∈x.owns):((∃d,rwD (blk l)=some d)\/hot (blk l)=false\/l∈(x.view blk).refs):=by
 cases x with
 | lf x=>exact ajP hl
 | agg xs=>
  obtain⟨y,hy,hl⟩:=wW.1 hl;rcases ajP (blk:=blk) hl with h | h | h
  ·exact .inl h
  ·exact .inr (.inl h)
  ·exact .inr (.inr (wW.2 ⟨_,zI.2 ⟨y,hy,rfl⟩,h⟩))
theorem ajF {x:Sl D}{l:Nat}(hl:l∈x.owns):((∃d,rwD (blk l)=some d)\/hot (blk l)=false\/l∈(x.view blk).refs):=by
 cases x with
 | one x=>exact alP hl
 | yD xs=>
  obtain⟨y,hy,hl⟩:=wW.1 hl;rcases alP (blk:=blk) hl with h | h | h
  ·exact .inl h
  ·exact .inr (.inl h)
  ·exact .inr (.inr (wW.2 ⟨_,zI.2 ⟨y,hy,rfl⟩,h⟩))
theorem aqs {x:Lf D}{v:Value}{l:Nat}(hr:x.Rel S M w g v)(hl:l∈x.owns):∃u,g l=some u:=by
 cases x with
 | own l'=>simp[Lf.owns]at hl;subst hl;exact⟨v,hr⟩
 | part l' i j sz f=>simp[Lf.owns]at hl;subst hl;obtain⟨av,n,cap,h1,_⟩:=hr;exact⟨_,h1⟩
 | _=>simp[Lf.owns]at hl
theorem akM {l:Nat}:∀{xs:List (Lf D)} {vs:List Value},aY S M w g xs vs->l∈xs.flatMap Lf.owns->∃u,g l=some u
 | [],[],_,hl=>by simp at hl
 | x::xs,v::vs,hr,hl=>by
  rw[Qbu,rW]at hl;exact hl.elim (aqs hr.1) (akM hr.2)
theorem apE {x:Sv D}{v:Value}{l:Nat}(hr:x.Rel S M w g v)(hl:l∈x.owns):∃u,g l=some u:=by
 cases x with
 | lf x=>exact aqs hr hl
 | agg xs=>obtain⟨vs,_,h2⟩:=hr;exact akM h2 hl
theorem akP {l:Nat}:∀{xs:List (Sv D)} {vs:List Value},iM S M w g xs vs->l∈xs.flatMap Sv.owns->∃u,g l=some u
 | [],[],_,hl=>by simp at hl
 | x::xs,v::vs,hr,hl=>by
  rw[Qbu,rW]at hl;exact hl.elim (apE hr.1) (akP hr.2)
theorem aDE {x:Sl D}{v:Value}{l:Nat}(hr:x.Rel S M w g v)(hl:l∈x.owns):∃u,g l=some u:=by
 cases x with
 | one x=>exact apE hr hl
 | yD xs=>obtain⟨vs,_,h2⟩:=hr;exact akP h2 hl
theorem acu {l:Nat}:∀{xs:List (Sl D)} {vs:List Value},iy S M w g xs vs->l∈xs.flatMap Sl.owns->∃u,g l=some u
 | [],[],_,hl=>by simp at hl
 | x::xs,v::vs,hr,hl=>by
  rw[Qbu,rW]at hl;exact hl.elim (aDE hr.1) (acu hr.2)
theorem X6:∀{caps:List Nat} {vs:List Value},caps.map g=vs.map some->(∀l∈caps,∃b,g l=some (.pointer (some ⟨b,0,none⟩)))->iy S M w g (caps.map fun l=> .one (.lf (.ptr l 0))) vs
 | [],[],_,_=>trivial
 | c::caps,v::vs,h,hp=>by
  simp only[DT,Qdh]at h;obtain⟨b,hb⟩:=hp c qa2;refine⟨⟨b,hb,?_⟩,X6 h.2 fun l hl=>hp l qci⟩;rw[h.1]at hb;injection hb
 | [],_::_,h,_=>by simp at h
 | _::_,[],h,_=>by simp at h
theorem ai0 (hS:jf S){c:Call}{f:FuncId}{caps:List Nat}{fo:Operand}(ho:o.op= .call c)(hc:c.callee= .value fo)(hf:aG slot fo= .one (.lf (.fn f caps)))(hΓ:∀f ct,Γ f=some ct->fV P S f ct)(h:Hp S w0 N blk g al w)(hfr:∀n,fr<=n->n < fr+64->¬al n)
  (hs:∀t,(slot t).Rel S (aT N blk g) w g (a.tmps.getD t undef)) (hout:L9 Γ f blk (c.args.toList.map (aG slot)++caps.map fun l=> .one (.lf (.ptr l 0))) fr=some out) (hp:mF out.pre) (aIN:caps.all (fun l=>isCells (blk l))=true) (hK:Post S w0 N blk g al w fr out o.dst a K):o.wp P a w K Q:=by
 have hfv:=oU hs fo;rw[hf]at hfv;obtain⟨cv,hcv,hcg⟩:=hfv;have aJ7:∀l∈caps,∃b,g l=some (.pointer (some ⟨b,0,none⟩)):=by
  intro l hl;have:=Nv.1 aIN l hl;cases hb:blk l with
  | none=>rw[hb]at this;simp[isCells]at this
  | some bk=>
   cases bk with
   | cells cs=>obtain⟨v,hv,b,vs,t,rfl,_⟩:=h.dE l _ hb;exact⟨b,hv⟩
   | row e d=>rw[hb]at this;simp[isCells]at this
   | xw d=>rw[hb]at this;simp[isCells]at this
   | iter s p=>rw[hb]at this;simp[isCells]at this
   | map kvs=>rw[hb]at this;simp[isCells]at this
   | tc t cs=>rw[hb]at this;simp[isCells]at this
 have hargs:iy S (aT N blk g) w g (c.args.toList.map (aG slot)++caps.map fun l=> .one (.lf (.ptr l 0))) (c.args.toList.map a.eval++cv):=(Og hs c.args.toList).app (X6 hcg aJ7);unfold L9 at hout;split at hout
 ·cases hout
 ·rename_i ct hct;have hok:=hΓ f ct hct;have hrun:(execOp a.eval o).run P w= .ok (.enter f (c.args.toList.map a.eval++cv).toArray) w:=by
   have hen:=hok.enters (c.args.toList.map a.eval++cv).toArray w;simp only[execOp,ho,resolve,hc,Deferred.ofValue,hcv,Sem.run_bind,Sem.run_pure,Result.andThen_ok,invoke];have:(#[]++c.args.map a.eval:Array Value)++cv.toArray=(c.args.toList.map a.eval++cv).toArray:=by rw[<-JD];simp
   rw[this,hen]
  have fin:(Calls P f (c.args.toList.map a.eval++cv).toArray w fun e w'=>∃v g',e= .returned v/\More g g'/\Keeps (aT N blk g) w (aT N (lg blk out.blks) g') w'/\Hp S w0 N (lg blk out.blks) g' (fun n=>al n\/(fr<=n/\n < fr+64)) w'/\
    out.val.Rel S (aT N (lg blk out.blks) g') w' g' v)->o.wp P a w K Q:=by
   intro hcall;simp only[Oper.wp,hrun,Oper.upon_enter];refine hcall.mono ?_;rintro e w' ⟨v,g',rfl,h1,h2,h3,h4⟩;exact hK v w' g' h1 h2 h3 h4
  dsimp only at hout;have hn:=hargs.norm;generalize (c.args.toList.map (aG slot)++caps.map fun l=>(.one (.lf (.ptr l 0)):Sl D)).map Sl.norm=as at hn hout;cases h1:BC ct blk fr (as.map (Sl.view blk)) (mr [] (as.flatMap Sl.owns))with
  | some out'=>
   rw[h1]at hout;simp only[BJ,Nb]at hout;subst hout;refine fin (wX hS hok h hfr (fun ids dE hg hv=> ?_) (fun l hl=> ?_) (fun l hl=> ?_) h1 hp)
   ·refine iy.view hS (jA:=mr [] (as.flatMap Sl.owns)) h ⟨fun b hb=>(vP hg b hb).1,fun l hl v b hh hgl hbl hb=> ?_⟩ (fun l hl=>(eH _ _ _).2 (.inr hl)) hn;rcases(vP hg b hb).2 with q | ⟨l',v',⟨q1,q2,q3,q4⟩ | ⟨q1,q2,q3,q4⟩⟩
    ·exact h.agh hh hgl hbl q
    ·have:=h.sep l l' v v' b hh q1 hgl q3 hbl q4;subst this;exact q2 hl
    ·have:=h.sep l l' v v' b hh q2 hgl q3 hbl q4;subst this;exact hv l hl q1
   ·exact acu hn (((eH _ _ _).1 hl).resolve_left qa2)
   ·obtain⟨x,hx,hlx⟩:=wW.1 (((eH _ _ _).1 hl).resolve_left qa2);rcases ajF (blk:=blk) hlx with q | q | q
    ·exact .inl q
    ·exact .inr (.inl q)
    ·exact .inr (.inr (wW.2 ⟨_,zI.2 ⟨x,hx,rfl⟩,q⟩))
  | none=>
   rw[h1]at hout;simp only[BJ]at hout;exact fin (wX (jA:=[]) hS hok h hfr (fun ids dE hg hv=>hn.less fun b hb=>(vP hg b hb).1) (fun l hl=>by simp at hl) (fun l hl=>by simp at hl) hout hp)
theorem ad3 (hTy:∀t ty,T t=some ty->fP P t ty)(hΓ:∀f ct,Γ f=some ct->fV P S f ct)(hS:jf S)(h:Hp S w0 N blk g al w)(hfr:∀n,fr<=n->n < fr+64->¬al n)
  (hs:∀t,(slot t).Rel S (aT N blk g) w g (a.tmps.getD t undef)) (hout:Bq T S Γ slot blk fr o.op=some out) (hp:mF out.pre) (hK:Post S w0 N blk g al w fr out o.dst a K):o.wp P a w K Q:=by
 have hr:=oU hs;cases ho:o.op with
 | move x=>rw[ho]at hout;injection hout with hout;subst hout;exact bf (v:=a.eval x) (by simp[execOp,ho]) h hK rfl (hr x)
 | assign x=>rw[ho]at hout;injection hout with hout;subst hout;exact bf (v:=a.eval x) (by simp[execOp,ho]) h hK rfl (hr x)
 | pick c x y=>rw[ho]at hout;exact ag7 ho h (hr c) (hr x) (hr y) hout hK
 | alloc t=>
  rw[ho]at hout;simp only[Bq]at hout;split at hout
  ·rename_i ty hty;injection hout with hout
   subst hout;exact aeb ho (hTy _ _ hty) h hfr hK
  ·cases hout
 | box t x=>
  rw[ho]at hout;simp only[Bq]at hout;split at hout
  ·rename_i u hu;split at hout
   ·rename_i hw;injection hout with hout
    subst hout;have hx:=hr x;rw[hu]at hx;exact ano ho h hfr hx hw hK
   ·cases hout
  ·cases hout
 | build t parts=>rw[ho]at hout;exact adG ho hTy h hs hout hK
 | buildSlice t n parts=>rw[ho]at hout;exact sound_row hS ho hTy h hs hfr hout hK
 | load t x=>
  rw[ho]at hout;simp only[Bq]at hout;cases hty:T t with
  | none=>simp[ET,hty]at hout
  | some ty=>exact ahV ho (hTy _ _ hty) hty h (hr x) hout hp hK
 | store t x y=>
  rw[ho]at hout;simp only[Bq]at hout;cases hty:T t with
  | none=>simp[II,hty]at hout
  | some ty=>exact adQ ho (hTy _ _ hty) hty h (hr x) (hr y) hout hS hp hK
 | nilCheck x=>
  rw[ho]at hout;simp only[Bq]at hout;have hx:=hr x;split at hout
  ·rename_i l q he;rw[he]at hx;injection hout with hout;subst hout
   refine bf (v:=a.eval x) ?_ h hK rfl hx;obtain⟨b,_,hv⟩:=hx;simp[execOp,ho,hv]
  ·rename_i d i j he;rw[he]at hx;injection hout with hout;subst hout
   refine bf (v:=a.eval x) ?_ h hK rfl hx;obtain⟨ad,n,cap,_,_,hv⟩:=hx;simp[execOp,ho,hv]
  ·rename_i l i j sz he;rw[he]at hx;injection hout with hout;subst hout
   refine bf (v:=a.eval x) ?_ h hK rfl hx;obtain⟨b,n,cap,_,hv⟩:=hx;simp[execOp,ho,hv]
  ·rename_i f caps he;rw[he]at hx;injection hout with hout;subst hout
   refine bf (v:=a.eval x) ?_ h hK rfl hx;obtain⟨vs,hv,_⟩:=hx;simp[execOp,ho,hv]
  ·cases hout
 | binOp op t x y yt=>
  rw[ho]at hout;simp only[Bq]at hout;cases hq:ak0 T S op t (aG slot x) (aG slot y)with
  | some out'=>
   rw[hq]at hout;injection hout with hout
   subst hout;exact aiV ho hTy h (hr x) (hr y) hq hK
  | none=>
   rw[hq]at hout;exact aok ho hTy h (hr x) (hr y) hout hp hK
 | unOp op t x=>rw[ho]at hout;exact atV ho h (hr x) hout hp hK
 | fieldAddr t x f=>
  rw[ho]at hout;simp only[Bq]at hout;cases hty:T t with
  | none=>simp[Ji,hty]at hout
  | some ty=>exact ad5 ho (hTy _ _ hty) hty h (hr x) hout hK
 | field t x f=>
  rw[ho]at hout;simp only[Bq]at hout;cases hty:T t with
  | none=>simp[ak9,hty]at hout
  | some ty=>exact aib ho (hTy _ _ hty) hty h (hr x) hout hK
 | indexAddr t x i=>rw[ho]at hout;exact aeO ho hTy h (hr x) (hr i) hout hp hK
 | extract x i=>rw[ho]at hout;exact Xr ho h (hr x) hout hK
 | call c=>
  rw[ho]at hout;simp only[Bq]at hout;split at hout
  ·rename_i hc;split at hout
   ·rename_i x hx;exact amD ho hc hx hTy h (hr x) hout hK
   ·cases hout
  ·rename_i hc;split at hout
   ·rename_i x y hx;exact ZK (.inl rfl) ho hc hx h (hr x) (hr y) hout hK
   ·cases hout
  ·rename_i hc;split at hout
   ·rename_i x y hx;exact ZK (.inr rfl) ho hc hx h (hr x) (hr y) hout hK
   ·cases hout
  ·rename_i hc;split at hout
   ·rename_i x y hx;exact aa0 hS ho hc hx hTy h hfr (hr x) (hr y) hout hp hK
   ·cases hout
  ·rename_i hc;split at hout
   ·rename_i x y hx;exact ahS hS ho hc hx hTy h (hr x) (hr y) hout hK
   ·cases hout
  ·rename_i fo hc;split at hout
   ·rename_i f caps hf;split at hout
    ·rename_i hcap;exact ai0 hS ho hc hf hΓ h hfr hs hout hp hcap hK
    ·cases hout
   ·cases hout
  ·cases hout
 | makeFunc fn first caps=>
  rw[ho]at hout;cases fn with
  | func f=>
   simp only[Bq]at hout;split at hout
   ·rename_i hfi;split at hout
    ·rename_i ls hls;injection hout with hout
     subst hout;have hfi:first= #[]:=by simpa using hfi
     subst hfi;refine bf (v:= .func (.func f) #[] (caps.map a.eval)) ?_ h hK rfl ⟨(caps.map a.eval).toList,rfl,by rw[aks hs _ _ hls,Array.toList_map]⟩;simp[execOp,ho,Instr.makeFunc]
    ·cases hout
   ·cases hout
  | _=>simp[Bq]at hout
 | makeSlice t x y=>rw[ho]at hout;exact agr hS ho hTy h hfr (hr x) (hr y) hout hp hK
 | index t x i=>rw[ho]at hout;exact aea ho hTy h (hr x) (hr i) hout hp hK
 | convert src dst x=>rw[ho]at hout;exact ahB ho hTy h (hr x) hout hp hK
 | slice t x lo hi mx=>
  cases mx with
  | some m=>rw[ho]at hout;simp[Bq]at hout
  | none=>rw[ho]at hout;exact ae2 hS ho hTy h hr hout hp hK
 | _=>rw[ho]at hout;simp[Bq]at hout
end
end Go.Vc
namespace Go.Vc
open Go.RowKit
section
variable {D:Type}
def qN:List Operand->List Nat
 | []=>[]
 | .tmp t::r=>t::qN r
 | _::r=>qN r
def Dw (ts:List Nat)(slot:Nat->Sl D)(blk:Nat->Option (Bk D)):Nat->Sl D:=fun t=>if rO t ts then(slot t).view blk else slot t
def isRow:Option (Bk D)->Bool
 | some (.row _ _)=>true
 | some (.map _)=>true
 | some (.xw _)=>true
 | _=>false
def LC:Op->Bool
 | .store _ _ _=>true
 | .buildSlice _ _ _=>true
 | _=>false
def iP (slot:Nat->Sl D)(op:Op):List Nat:=mr [] ((qN op.operands.toList).flatMap fun t=>(slot t).owns)
def aoQ (T:TypeId->Option Ty)(S:Sh D)(Γ:FuncId->Option (Ct D))(slot:Nat->Sl D)(blk:Nat->Option (Bk D))(fr:Nat)(op:Op):Option (Out D):=
 let ls:=iP slot op
 if LC op && ls.all (fun l=>isRow (blk l))then
  (match Bq T S Γ (Dw (qN op.operands.toList) slot blk) (lg blk (ls.filterMap (jm blk))) fr op with
  | some out=>some ⟨out.pre,out.val,ls.filterMap (jm blk)++out.blks⟩
  | none=>none)
 else none
def anj (T:TypeId->Option Ty)(S:Sh D)(Γ:FuncId->Option (Ct D))(slot:Nat->Sl D)(blk:Nat->Option (Bk D))(fr:Nat)(op:Op):Option (Out D):=
 match Bq T S Γ slot blk fr op with
 | some out=>some out
 | none=>aoQ T S Γ slot blk fr op
theorem tY {α β:Type}{f f':α->Option β}:∀{l:List α},(∀x∈l,f x=f' x)->l.filterMap f=l.filterMap f'
 | [],_=>rfl
 | x::l,h=>by
  rw[Qdv,Qdv,h x qa2,tY fun y hy=>h y qcu]
theorem UA {α:Type}:∀(xs ys:List (Nat×α)) (f:Nat->α),lg f (xs++ys)=lg (lg f xs) ys
 | [],_,_=>rfl
 | (k,v)::xs,ys,f=>UA xs ys (upd f k v)
end
section
variable {D:Type}{P:Program}{S:Sh D}{T:TypeId->Option Ty}{Γ:FuncId->Option (Ct D)}{M M' N:Nat->Prop}{w w':World}{w0:Bs}{g g':Nat->Option Value}{blk blk':Nat->Option (Bk D)}{al:Nat->Prop}
 {a:Act} {o:Oper} {K:Act->World->Prop} {Q:Exit->Act->World->Prop} {slot:Nat->Sl D} {out:Out D} {fr:Nat} {ids jA:List Nat}
theorem Keeps.comp {M1 M2 M3:Nat->Prop}{w1 w2 w3:World}(h:Keeps M1 w1 M2 w2)(k:Keeps M2 w2 M3 w3):Keeps M1 w1 M3 w3:=
 ⟨zO h.size k.size,fun b hb hm=>by
  obtain⟨h1,h2⟩:=h.same b hb hm;obtain⟨k1,k2⟩:=k.same b (Qck hb h.size) h1;exact⟨k1,k2.trans h2⟩⟩
theorem awZ {l:Nat}{p:Nat×Option (Bk D)}(h:jm blk l=some p):p.1=l:=by
 unfold jm at h;split at h
 ·injection h with h;rw[<-h]
 ·cases h
theorem Hp.Hf (hS:jf S):∀(ls:List Nat) (blk:Nat->Option (Bk D)),ls.Nodup->Hp S w0 N blk g al w->
  Hp S w0 N (lg blk (ls.filterMap (jm blk))) g al w/\Keeps (aT N blk g) w (aT N (lg blk (ls.filterMap (jm blk))) g) w/\
   (∀n,hot (lg blk (ls.filterMap (jm blk)) n)=true->hot (blk n)=true)/\∀l∈ls,isRow (blk l)=true->hot (lg blk (ls.filterMap (jm blk)) l)=false
 | [],blk,_,h=>⟨h,⟨l9 _,fun b _ hm=>⟨hm,rfl⟩⟩,fun n hn=>hn,fun l hl=>by simp at hl⟩
 | l::r,blk,hn,h=>by
  obtain⟨hl,hr⟩:=Qdj.1 hn;have off:∀{x:Option (Bk D)} (aFq:Nat->Option (Bk D)),lg aFq (r.filterMap (jm blk)) l=aFq l:=fun{x} aFq=>x8 fun v hv=>by
   obtain⟨l',hl',he⟩:=Qde.1 hv;have:=awZ he;exact hl (by rw[show l=l' from this];exact hl')
  by_cases hrow:∃d,rwD (blk l)=some d
  ·obtain⟨d,hb⟩:=hrow;have hi:jm blk l=some (l,some (.xw d)):=by unfold jm;rw[hb]
   have hh:=L6 hb;obtain⟨bkr,hbr,_⟩:=jK hh;rw[List.filterMap_cons_some hi];have hcg:r.filterMap (jm blk)=r.filterMap (jm (upd blk l (some (.xw d)))):=by
    refine tY fun l' hl'=> ?_;have hne:l'≠l:=fun e=>hl (e▸hl')
    unfold jm;rw[bP _ _ _ _ hne]
   obtain⟨v,hg,_⟩:=h.dE l _ hbr;have aAb:hot (upd blk l (some (Bk.xw d)) l)=false:=by rw[upd_same];rfl
   have hsub:∀n,hot (upd blk l (some (Bk.xw d)) n)=true->hot (blk n)=true:=fun n hn=>by
    by_cases he:n=l
    ·subst he;rw[aAb]at hn;cases hn
    ·rwa [bP _ _ _ _ he]at hn
   have hM:∀b,aT N (upd blk l (some (Bk.xw d))) g b->aT N blk g b:=by
    rintro b (hb | ⟨n,u,h1,h2,h3⟩)
    ·exact .inl hb
    ·exact .inr ⟨n,u,hsub n h1,h2,h3⟩
   obtain⟨h1,k1⟩:=h.aIE l (some (.xw d)) rfl (fun bk hbk=>by
    injection hbk with hbk
    subst hbk;refine⟨v,hg,ag6 hS h hb hg hM fun b hbv=> ?_⟩;rintro(q | ⟨n,u,q1,q2,q3⟩)
    ·exact h.agh hh hg hbv q
    ·have:=h.sep l n v u b hh (hsub n q1) hg q2 hbv q3;subst this;rw[aAb]at q1;cases q1)
   obtain⟨h2,k2,s2,o2⟩:=Hp.Hf hS r (upd blk l (some (.xw d))) hr h1;rw[<-hcg]at h2 k2 s2 o2;refine⟨h2,k1.comp k2,fun n hn=>hsub n (s2 n hn),fun l' hl' hi'=> ?_⟩;rcases xI.1 hl' with rfl | hl'
   ·show hot (lg (upd blk l' (some (.xw d))) (r.filterMap (jm blk)) l')=false
    rw[off (x:=none),upd_same];rfl
   ·refine o2 l' hl' ?_;have hne:l'≠l:=fun e=>hl (e▸hl')
    rwa [bP _ _ _ _ hne]
  ·have hi:jm blk l=none:=by
    unfold jm;split
    ·rename_i d hb;exact absurd ⟨d,hb⟩ hrow
    ·rfl
   rw[List.filterMap_cons_none hi];obtain⟨h2,k2,s2,o2⟩:=Hp.Hf hS r blk hr h;refine⟨h2,k2,s2,fun l' hl' hi'=> ?_⟩;rcases xI.1 hl' with rfl | hl'
   ·rw[off (x:=none)];unfold isRow at hi';split at hi'
    ·rename_i e d hb;exact absurd ⟨d,by rw[hb];rfl⟩ hrow
    ·rename_i d hb;exact absurd ⟨d,by rw[hb];rfl⟩ hrow
    ·rename_i d hb;rw[hb];rfl
    ·cases hi'
   ·exact o2 l' hl' hi'
theorem anT (hTy:∀t ty,T t=some ty->fP P t ty)(hΓ:∀f ct,Γ f=some ct->fV P S f ct)(hS:jf S)(h:Hp S w0 N blk g al w)(hfr:∀n,fr<=n->n < fr+64->¬al n)
  (hs:∀t,(slot t).Rel S (aT N blk g) w g (a.tmps.getD t undef)) (hout:anj T S Γ slot blk fr o.op=some out) (hp:mF out.pre) (hK:Post S w0 N blk g al w fr out o.dst a K):o.wp P a w K Q:=by
 unfold anj at hout;split at hout
 ·rename_i out' hx;injection hout with hout
  subst hout;exact ad3 hTy hΓ hS h hfr hs hx hp hK
 ·unfold aoQ at hout;dsimp only at hout;split at hout
  ·rename_i hc;simp only[jR,Nv]at hc;split at hout
   ·rename_i out' hx;injection hout with hout
    subst hout;have hnd:(iP slot o.op).Nodup:=qH _ _ Qc9;obtain⟨h1,k1,s1,o1⟩:=Hp.Hf hS (iP slot o.op) blk hnd h;refine ad3 hTy hΓ hS h1 hfr (fun t=> ?_) hx hp (fun v w' g' m k hp' hr=> ?_)
    ·unfold Dw;split
     ·rename_i ht;have ht:=g_.1 ht;refine Sl.Rel.view (jA:=iP slot o.op) hS h ⟨?_,fun l hl v b hh hg hb=> ?_⟩ (fun l hl=>(eH _ _ _).2 (.inr (wW.2 ⟨t,ht,hl⟩))) (hs t)
      ·rintro b (hb | ⟨n,u,q1,q2,q3⟩)
       ·exact .inl hb
       ·exact .inr ⟨n,u,s1 n q1,q2,q3⟩
      ·rintro(q | ⟨n,u,q1,q2,q3⟩)
       ·exact h.agh hh hg hb q
       ·have:=h.sep l n v u b hh (s1 n q1) hg q2 hb q3;subst this;rw[o1 l hl (hc.2 l hl)]at q1;cases q1
     ·exact(hs t).keep k1 (More.refl _)
    ·have e:lg blk ((iP slot o.op).filterMap (jm blk)++out'.blks)=lg (lg blk ((iP slot o.op).filterMap (jm blk))) out'.blks:=UA _ _ _;refine hK v w' g' m ?_ ?_ ?_
     ·rw[e];exact k1.comp k
     ·rw[e];exact hp'
     ·rw[e];exact hr
   ·cases hout
  ·cases hout
end
end Go.Vc
namespace Go.Vc
open Go.RowKit
section
variable {D:Type}
def Lf.pv:Lf D->Option Pv
 | .bool b=>some (.bool b)
 | .val (.bool b)=>some (.bool b)
 | .int k n=>some (.int k n)
 | .str s=>some (.str s)
 | _=>none
def pvs:List (Lf D)->Option (List Pv)
 | []=>some []
 | x::xs=>(match x.pv,pvs xs with
  | some p,some ps=>some (p::ps)
  | _,_=>none)
def aDv (T:TypeId->Option Ty)(t:TypeId)(x:Sl D):Option (Out D):=
 match T t with
 | none=>none
 | some ty=>if Nat.beq ty.kind 0 then none else(match x with
  | .one (.lf x)=>(match x.pv with
   | some p=>mJ none (.Xa (some ⟨t,false,[p]⟩))
   | none=>none)
  | .one (.agg xs)=>(match pvs xs with
   | some ps=>mJ none (.Xa (some ⟨t,true,ps⟩))
   | none=>none)
  | _=>none)
def mY.is (v:Option mY)(t:TypeId):Bool:=
 match v with
 | some i=>Nat.beq i.t t
 | none=>false
def mY.get (v:Option mY)(t:TypeId)(j:Nat):Option Pv:=
 match v with
 | some i=>if Nat.beq i.t t then i.xs[j]? else none
 | none=>none
def Pv.gB:Option Pv->Bool
 | some (.bool b)=>b
 | _=>false
def Pv.gI:Option Pv->Int
 | some (.int _ n)=>n
 | _=>0
def Pv.gS:Option Pv->List UInt8
 | some (.str s)=>s
 | _=>[]
def Ci (z:Value)(p:Option Pv):Option (Lf D):=
 match z with
 | .bool false=>some (.bool (Pv.gB p))
 | .int k 0=>some (.int k (Pv.gI p))
 | .string s=>(match s.data.toList with
  | []=>some (.str (Pv.gS p))
  | _=>none)
 | _=>none
def vK (v:Option mY)(t:TypeId):List Value->Nat->Option (List (Lf D))
 | [],_=>some []
 | z::zs,j=>(match Ci z (mY.get v t j),vK v t zs (j+1)with
  | some x,some xs=>some (x::xs)
  | _,_=>none)
def abw:Value->Pv->Bool
 | .bool _, .bool _=>true
 | .int k _, .int k' _=>Xx k k'
 | .string _, .str _=>true
 | _,_=>false
def G7:List Value->List Pv->Bool
 | [],[]=>true
 | z::zs,p::ps=>abw z p && G7 zs ps
 | _,_=>false
def mY.ok (v:Option mY)(t:TypeId)(ag:Bool)(zs:List Value):Bool:=
 match v with
 | some i=> !Nat.beq i.t t || ((i.agg==ag) && G7 zs i.xs)
 | none=>true
def abm (T:TypeId->Option Ty)(t:TypeId)(x:Sl D):Option (Out D):=
 match T t with
 | none=>none
 | some ty=>if Nat.beq ty.kind 0 || !(ty.agg==ty.zag)then none else(match x with
  | .one (.lf (.Xa v))=>(match vK v t ty.zero 0 with
   | none=>none
   | some ls=>if ty.agg then some ⟨some (dp (mY.ok v t true ty.zero=true)), .yD [.agg ls, .lf (.bool (mY.is v t))],[]⟩
    else(match ls with
     | [l]=>some ⟨some (dp (mY.ok v t false ty.zero=true)), .yD [.lf l, .lf (.bool (mY.is v t))],[]⟩
     | _=>none))
  | _=>none)
end
section
variable {D:Type}{P:Program}{S:Sh D}{T:TypeId->Option Ty}{Γ:FuncId->Option (Ct D)}{M M' N:Nat->Prop}{w w':World}{w0:Bs}{g g':Nat->Option Value}{blk blk':Nat->Option (Bk D)}{al:Nat->Prop}
 {a:Act} {o:Oper} {K:Act->World->Prop} {Q:Exit->Act->World->Prop} {slot bZ:Nat->Sl D} {out:Out D} {fr:Nat}
theorem TF {x:Lf D}{p:Pv}{v:Value}(h:x.pv=some p)(hr:x.Rel S M w g v):v=p.val/\p.fits:=by
 unfold Lf.pv at h;split at h<;>first | (injection h with h;subst h;exact⟨hr,trivial⟩) | (injection h with h;subst h;exact hr) | (cases h;done)
theorem SA:∀{xs:List (Lf D)} {ps:List Pv} {vs:List Value},pvs xs=some ps->aY S M w g xs vs->vs=ps.map Pv.val/\∀p∈ps,p.fits
 | [],ps,[],h,_=>by simp[pvs]at h;subst h;exact⟨rfl,fun p hp=>by simp at hp⟩
 | x::xs,ps,v::vs,h,hr=>by
  unfold pvs at h;split at h
  ·rename_i p ps' h1 h2;injection h with h
   subst h;obtain⟨q1,q2⟩:=TF h1 hr.1;obtain⟨q3,q4⟩:=SA h2 hr.2;refine⟨by rw[q1,q3];rfl,fun p hp=> ?_⟩;rcases xI.1 hp with rfl | hp
   ·exact q2
   ·exact q4 p hp
  ·cases h
theorem yT {t:TypeId}{ty:Ty}(h:fP P t ty)(hk:ty.kind≠0):P.concrete t=true:=by
 obtain⟨d,hd,hkd⟩:=nI h;unfold Program.concrete;rw[hd];cases d<;>first | rfl | (exfalso;apply hk;rw[<-hkd];rfl)
theorem amS {t:TypeId}{x:Operand}(ho:o.op= .makeInterface t x)(hTy:∀t ty,T t=some ty->fP P t ty)(h:Hp S w0 N blk g al w)(hx:(aG slot x).Rel S (aT N blk g) w g (a.eval x))
  (hout:aDv T t (aG slot x)=some out) (hK:Post S w0 N blk g al w fr out o.dst a K):o.wp P a w K Q:=by
 unfold aDv at hout;split at hout
 ·cases hout
 ·rename_i ty hty;split at hout
  ·cases hout
  ·rename_i hk;have hk:ty.kind≠0:=fun e=>hk qcx
   have hrun:=run_makeInterface (P:=P) w t (a.eval x) (yT (hTy _ _ hty) hk);split at hout
   ·rename_i y hex;rw[hex]at hx;split at hout
    ·rename_i p hpv;injection hout with hout
     subst hout;have hv:=(TF hpv hx).1;refine bf (v:= .iface t (a.eval x)) ?_ h hK rfl ⟨by rw[hv];rfl,fun q hq=>by have:=zD.1 hq;subst this;exact(TF hpv hx).2⟩;simp[execOp,ho,hrun]
    ·cases hout
   ·rename_i xs hex;rw[hex]at hx;obtain⟨vs,hv,hr⟩:=hx;split at hout
    ·rename_i ps hpv;injection hout with hout
     subst hout;have:=(SA hpv hr).1;refine bf (v:= .iface t (a.eval x)) ?_ h hK rfl ⟨by rw[hv,this];rfl,(SA hpv hr).2⟩;simp[execOp,ho,hrun]
    ·cases hout
   ·cases hout
theorem ana {z:Value}{x:Lf D}(h:Ci z none=some x):x.Rel S M w g z:=by
 unfold Ci at h;split at h
 ·injection h with h;subst h;rfl
 ·injection h with h;subst h;rfl
 ·rename_i s;split at h
  ·rename_i hs;injection h with h
   subst h;cases s with
   | mk data=>
    have:data= #[]:=by
     have hs:data.toList=[]:=hs;simpa using hs
    subst this;exact⟨rfl,by simp[Pv.gS]⟩
  ·cases h
 ·cases h
theorem anz {b:Bool}{q:Option Pv}{x:Lf D}(h:Ci (.bool b) q=some x):x= .bool (Pv.gB q):=by
 cases b
 ·injection h with h;exact h.symm
 ·cases h
theorem atr {k:IntKind}{n:Int}{q:Option Pv}{x:Lf D}(h:Ci (.int k n) q=some x):x= .int k (Pv.gI q):=by
 unfold Ci at h;split at h
 ·rename_i e;cases e
 ·rename_i e;injection e with e1 e2;subst e1;injection h with h;exact h.symm
 ·rename_i e;cases e
 ·cases h
theorem ao3 {s:ByteArray}{q:Option Pv}{x:Lf D}(h:Ci (.string s) q=some x):x= .str (Pv.gS q):=by
 simp only[Ci]at h;split at h
 ·injection h with h;exact h.symm
 ·cases h
theorem aoo {z:Value}{p:Pv}{x:Lf D}(hk:abw z p=true)(h:Ci z (some p)=some x)(hf:p.fits):x.Rel S M w g p.val:=by
 cases z<;>cases p<;>simp only[abw,Qbo]at hk
 ·rw[anz h];rfl
 ·rename_i k n k' n';have hk:k=k':=by simpa[Xx]using hk
  subst hk;rw[atr h];rfl
 ·rw[ao3 h];exact⟨rfl,hf⟩
theorem Pj {v:Option mY}{t:TypeId}(hno:∀j,mY.get v t j=none):∀(zs:List Value) (j:Nat) (ls:List (Lf D)),vK v t zs j=some ls->aY S M w g ls zs
 | [],j,ls,h=>by simp[vK]at h;subst h;trivial
 | z::zs,j,ls,h=>by
  unfold vK at h;rw[hno j]at h;split at h
  ·rename_i x xs h1 h2;injection h with h
   subst h;exact⟨ana h1,Pj hno zs (j+1) xs h2⟩
  ·cases h
theorem PD {i:mY}:∀(zs:List Value) (ps:List Pv) (j:Nat) (ls:List (Lf D)),G7 zs ps=true->(∀k,mY.get (some i) i.t (j+k)=ps[k]?)->vK (some i) i.t zs j=some ls->(∀p∈ps,p.fits)->aY S M w g ls (ps.map Pv.val)
 | [],[],j,ls,_,_,h,_=>by simp[vK]at h;subst h;trivial
 | z::zs,p::ps,j,ls,hk,hg,h,hf=>by
  simp only[G7,jR]at hk;unfold vK at h;have h0:=hg 0;simp only[Qm,Qcl]at h0;rw[h0]at h;split at h
  ·rename_i x xs h1 h2;injection h with h
   subst h;exact⟨aoo hk.1 h1 (hf p qa2),PD zs ps (j+1) xs hk.2 (fun k=>by have:=hg (k+1);rwa [List.getElem?_cons_succ,show j+(k+1)=j+1+k by omega]at this) h2 (fun q hq=>hf q (by simp[hq]))⟩
  ·cases h
 | [],_::_,_,_,hk,_,_,_=>by simp[G7]at hk
 | _::_,[],_,_,hk,_,_,_=>by simp[G7]at hk
theorem Xv {t st:TypeId}{v:Option mY}{z:Value}(hc:P.concrete t=true)(hno:mY.is v t=false)(hz:(zeroValue t).run P w= .ok z w):(Instr.typeAssert (C9 v) st t true).run P w= .ok (.tuple #[z, .bool false]) w:=by
 unfold Program.concrete at hc;cases hd:P.underlying t with
 | none=>rw[hd]at hc;cases hc
 | some d=>
  rw[hd]at hc;cases v with
  | none=>cases d<;>first | (cases hc;done) | simp[Instr.typeAssert,run_underlying hd,C9,hz]
  | some i=>
   have hne:¬i.t=t:=fun e=>by simp[mY.is,e]at hno
   cases d<;>first | (cases hc;done) | simp[Instr.typeAssert,run_underlying hd,C9,hne,hz]
theorem V7 {st:TypeId}{i:mY}(hc:P.concrete i.t=true):(Instr.typeAssert (C9 (some i)) st i.t true).run P w= .ok (.tuple #[i.inner, .bool true]) w:=by
 unfold Program.concrete at hc;cases hd:P.underlying i.t with
 | none=>rw[hd]at hc;cases hc
 | some d=>
  rw[hd]at hc;cases d<;>first | (cases hc;done) | simp[Instr.typeAssert,run_underlying hd,C9]
theorem ZZ {t st:TypeId}{x:Operand}(ho:o.op= .typeAssert x st t true)(hTy:∀t ty,T t=some ty->fP P t ty)(h:Hp S w0 N blk g al w)(hx:(aG slot x).Rel S (aT N blk g) w g (a.eval x))
  (hout:abm T t (aG slot x)=some out) (hp:mF out.pre) (hK:Post S w0 N blk g al w fr out o.dst a K):o.wp P a w K Q:=by
 unfold abm at hout;split at hout
 ·cases hout
 ·rename_i ty hty;split at hout
  ·cases hout
  ·rename_i hk;simp only[Qbx,Qbr,not_or]at hk;have hk0:ty.kind≠0:=fun e=>hk.1 qcx
   have hzg:ty.agg=ty.zag:=by
    have:=hk.2;cases ha:ty.agg<;>cases hb:ty.zag<;>simp[ha,hb]at this⊢
   have hc:=yT (hTy _ _ hty) hk0;obtain⟨z,hz,hzc,hza⟩:=ahy (hTy _ _ hty) w;split at hout
   ·rename_i v hex;rw[hex]at hx;obtain⟨hx,hxf⟩:a.eval x=C9 v/\ap8 v:=hx;split at hout
    ·cases hout
    ·rename_i ls hls;by_cases his:mY.is v t=true
     ·obtain⟨i,rfl,hit⟩:∃i,v=some i/\i.t=t:=by
       cases v with
       | none=>simp[mY.is]at his
       | some i=>exact⟨i,rfl,Qa his⟩
      subst hit;have hget:∀k,mY.get (some i) i.t (0+k)=i.xs[k]? :=fun k=>by simp[mY.get]
      have hrun:=V7 (P:=P) (w:=w) (st:=st) (i:=i) hc;have key:∀ag,mY.ok (some i) i.t ag ty.zero=true->i.agg=ag/\aY S (aT N blk g) w g ls (i.xs.map Pv.val):=by
       intro ag hok;simp only[mY.ok,Nat.beq_refl,Qcn,Bool.false_or,jR,Qc7]at hok;exact⟨hok.1,PD ty.zero i.xs 0 ls hok.2 hget hls hxf⟩
      split at hout
      ·injection hout with hout
       subst hout;obtain⟨k1,k2⟩:=key true hp;refine bf (v:= .tuple #[i.inner, .bool true]) ?_ h hK rfl ⟨[i.inner, .bool true],rfl,⟨⟨_,?_,k2⟩,by rw[his];rfl,trivial⟩⟩
       ·simp[execOp,ho,hx,hrun]
       ·unfold mY.inner;rw[k1]
      ·split at hout
       ·rename_i l;injection hout with hout
        subst hout;obtain⟨k1,k2⟩:=key false hp;obtain⟨p,hxs⟩:∃p,i.xs=[p]:=by
         have:=k2.length;simp only[Qbj,Qcg]at this;exact Qd9.1 this.symm
        have hin:i.inner=p.val:=by unfold mY.inner;rw[k1,hxs]
        rw[hxs]at k2;refine bf (v:= .tuple #[i.inner, .bool true]) ?_ h hK rfl ⟨[i.inner, .bool true],rfl,⟨?_,by rw[his];rfl,trivial⟩⟩
        ·simp[execOp,ho,hx,hrun]
        ·rw[hin];exact k2.1
       ·cases hout
     ·have his:mY.is v t=false:=by simpa using his
      have hrun:=Xv (P:=P) (w:=w) (st:=st) hc his hz;have hno:∀j,mY.get v t j=none:=by
       intro j;cases v with
       | none=>rfl
       | some i=>simp only[mY.is]at his;simp[mY.get,his]
      have hl:=Pj (S:=S) (M:=aT N blk g) (w:=w) (g:=g) hno ty.zero 0 ls hls;split at hout
      ·rename_i hag;injection hout with hout
       subst hout;have hz2:z= .agg ty.zero.toArray:=by
        rw[hag]at hzg;rw[<-hzg]at hza;cases z<;>simp[zQ]at hza
        rw[<-hzc];simp[Value.cells]
       refine bf (v:= .tuple #[z, .bool false]) ?_ h hK rfl ⟨[z, .bool false],rfl,⟨⟨_,hz2,hl⟩,by rw[his];rfl,trivial⟩⟩;simp[execOp,ho,hx,hrun]
      ·rename_i hag;split at hout
       ·rename_i l;injection hout with hout
        subst hout;have hz2:ty.zero=[z]:=by
         have hag:ty.agg=false:=by simpa using hag
         rw[hag]at hzg;rw[<-hzg]at hza;rw[<-hzc];cases z<;>first | rfl | simp[zQ]at hza
        rw[hz2]at hl;refine bf (v:= .tuple #[z, .bool false]) ?_ h hK rfl ⟨[z, .bool false],rfl,⟨hl.1,by rw[his];rfl,trivial⟩⟩;simp[execOp,ho,hx,hrun]
       ·cases hout
   ·cases hout
end
end Go.Vc
namespace Go.Vc
open Go.RowKit
section
variable {D:Type}
def Lm (S:Sh D)(d:D)(sz:Nat):Nat->Nat->List (Lf D)
 | _,0=>[]
 | i,n+1=>Cj S d i 0 sz++Lm S d sz (i+1) n
def N9 (T:TypeId->Option Ty)(t:TypeId):Option (TypeId×Nat×Nat):=
 match T t with
 | none=>none
 | some ty=>(match ty.arr with
  | none=>none
  | some (e,n)=>(match T e with
   | none=>none
   | some te=>if Nat.blt 0 te.size && Nat.beq ty.size (n*te.size) && ty.agg then some (e,n,te.size)else none))
def Wl (T:TypeId->Option Ty)(t:TypeId):Option (TypeId×Nat×Nat):=
 match T t with
 | none=>none
 | some ty=>if ty.lit then none else N9 T t
def ack (T:TypeId->Option Ty)(S:Sh D)(fr:Nat)(t:TypeId):Option (Out D):=
 match Wl T t with
 | none=>none
 | some (e,n,sz)=>(match T t with
  | none=>none
  | some ty=>(match S.make e n (ty.zero.map fun v=>(yI v).norm)with
   | none=>none
   | some d=>if Nat.beq (S.size d) sz && Nat.ble n 1000000 then some ⟨none, .one (.lf (.opt fr 0 0 sz)),[(fr,some (.row t d))]⟩else none))
def Nu (T:TypeId->Option Ty)(S:Sh D)(blk:Nat->Option (Bk D))(t:TypeId)(x:Sl D):Option (Out D):=
 match Wl T t with
 | none=>none
 | some (e,n,sz)=>(match x with
  | .one (.lf (.opt l i j s))=>if Nat.beq i 0 && (Nat.beq j 0 && Nat.beq s sz)then(match blk l with
   | some (.row _ d)=>if Nat.beq sz (S.size d)then some ⟨some (dp (S.len d=n)), .one (.agg (Lm S d sz 0 n)),[]⟩else none
   | _=>none)else none
  | .one (.lf (.glb k))=>(match S.OY k with
   | some d=>if Nat.beq sz (S.size d)then some ⟨some (dp (S.len d=n)), .one (.agg (Lm S d sz 0 n)),[]⟩else none
   | none=>none)
  | _=>none)
def abV (T:TypeId->Option Ty)(S:Sh D)(t:TypeId)(x i:Sl D):Option (Out D):=
 match Wl T t with
 | none=>none
 | some (e,n,sz)=>(match x,i with
  | .one (.lf (.opt l i0 j s)), .one (.lf (.int _ m))=>if Nat.beq i0 0 && (Nat.beq j 0 && Nat.beq s sz)then mJ (some (dp (0<=m/\m < n))) (.opt l m.toNat 0 sz)else none
  | .one (.lf (.glb k)), .one (.lf (.int _ m))=>(match S.OY k with
   | some d=>if Nat.beq sz (S.size d)then mJ (some (dp (0<=m/\m < n/\m < S.len d))) (.elt d m.toNat 0)else none
   | none=>none)
  | _,_=>none)
def Ha (T:TypeId->Option Ty)(S:Sh D)(blk:Nat->Option (Bk D))(t:TypeId)(x y:Sl D):Option (Out D):=
 match Wl T t with
 | none=>none
 | some (e,n,sz)=>(match x,y with
  | .one (.lf (.opt l i j s)), .one (.agg cs)=>if Nat.beq i 0 && (Nat.beq j 0 && Nat.beq s sz) && cs.all Lf.storable then(match blk l with
   | some (.row e' d)=>(match S.make e n (cs.map Lf.norm)with
    | some d'=>if Nat.beq sz (S.size d) && Nat.beq sz (S.size d')then some ⟨some (dp (S.len d=n)), .one (.lf .any),[(l,some (.row e' d'))]⟩else none
    | none=>none)
   | _=>none)else none
  | _,_=>none)
def Yv (cs:List (Lf D))(sz j:Nat):Nat->Nat->List (Lf D)
 | _,0=>[]
 | r,n+1=>(match cs[r*sz+j]? with
  | some x=>x
  | none=> .any)::Yv cs sz j (r+1) n
def intsOf (k:IntKind):List (Lf D)->Option (List Int)
 | []=>some []
 | .int k' n::r=>if Xx k k' then(match intsOf k r with
  | some l=>some (n::l)
  | none=>none)else none
 | _=>none
def strsOf:List (Lf D)->Option (List (List UInt8))
 | []=>some []
 | .str s::r=>(match strsOf r with
  | some l=>some (s::l)
  | none=>none)
 | _=>none
def JS:List (Lf D)->Option (List Bool)
 | []=>some []
 | .bool b::r=>(match JS r with
  | some l=>some (b::l)
  | none=>none)
 | _=>none
def aiH (cs:List (Lf D))(i:Nat):Option (Lf D):=
 match cs with
 | .int k n::r=>(match intsOf k (.int k n::r)with
  | some l=>some (.int k (l.getD i 0))
  | none=>none)
 | .str s::r=>(match strsOf (.str s::r)with
  | some l=>some (.str (l.getD i []))
  | none=>none)
 | .bool b::r=>(match JS (.bool b::r)with
  | some l=>some (.bool (l.getD i false))
  | none=>none)
 | _=>none
def pickRow (cs:List (Lf D))(sz n i:Nat):Nat->Nat->Option (List (Lf D))
 | _,0=>some []
 | j,m+1=>(match aiH (Yv cs sz j 0 n) i,pickRow cs sz n i (j+1) m with
  | some x,some xs=>some (x::xs)
  | _,_=>none)
def aaW (T:TypeId->Option Ty)(t:TypeId)(x i:Sl D):Option (Out D):=
 match N9 T t with
 | none=>none
 | some (e,n,sz)=>(match T e with
  | none=>none
  | some te=>(match x,i with
   | .one (.agg cs), .one (.lf (.int _ m))=>if Nat.beq cs.length (n*sz) && Nat.beq te.size sz then(match pickRow (cs.map Lf.norm) sz n m.toNat 0 sz with
    | some ls=>if te.agg then some ⟨some (dp (0<=m/\m < n)), .one (.agg ls),[]⟩else(match ls with
     | [l]=>some ⟨some (dp (0<=m/\m < n)), .one (.lf l),[]⟩
     | _=>none)
    | none=>none)else none
   | _,_=>none))
def Ri (T:TypeId->Option Ty)(slot:Nat->Sl D)(t:TypeId)(parts:Array (Nat×Operand)):Option (Out D):=
 match N9 T t with
 | none=>none
 | some (e,n,sz)=>(match T t with
  | none=>none
  | some ty=>(match zh sz slot parts.toList (ty.zero.map yI)with
   | some cs=>some ⟨none, .one (.agg cs),[]⟩
   | none=>none))
def OJ (T:TypeId->Option Ty)(S:Sh D)(blk:Nat->Option (Bk D))(ts:Array TypeId)(x:Sl D):Option (Out D):=
 match ts.toList with
 | [t]=>(match T t with
  | none=>none
  | some ty=>(match ty.elem with
   | none=>none
   | some e=>(match T e with
    | none=>none
    | some te=>(match x with
     | .one (.lf (.part l i j sz f))=>(match blk l with
      | some (.row e' d)=>if Nat.beq sz te.size && (Nat.beq sz (S.size d) && (Nat.blt 0 sz && Nat.beq te.zero.length sz))then
       (match S.sub d 0 i,S.zero e (j - i) (te.zero.map fun v=>(yI v).norm)with
       | some p,some z=>(match S.cat p z with
        | some d'=>some ⟨some (dp (j=S.len d)), .yD [],[(l,some (.row e' d'))]⟩
        | none=>none)
       | _,_=>none)else none
      | _=>none)
     | _=>none))))
 | _=>none
def Dv (T:TypeId->Option Ty)(S:Sh D)(slot:Nat->Sl D)(blk:Nat->Option (Bk D))(fr:Nat)(op:Op):Option (Out D):=
 match op with
 | .alloc t=>ack T S fr t
 | .load t x=>Nu T S blk t (aG slot x)
 | .store t x y=>Ha T S blk t (aG slot x) (aG slot y)
 | .indexAddr t x i=>abV T S t (aG slot x) (aG slot i)
 | .index t x i=>aaW T t (aG slot x) (aG slot i)
 | .build t parts=>Ri T slot t parts
 | .call c=>(match c.callee with
  | .builtin .clear=>(match c.args.toList with
   | [x]=>OJ T S blk c.argTypes (aG slot x)
   | _=>none)
  | _=>none)
 | .makeInterface t x=>aDv T t (aG slot x)
 | .typeAssert x _ t true=>abm T t (aG slot x)
 | _=>none
def ann (T:TypeId->Option Ty)(S:Sh D)(Γ:FuncId->Option (Ct D))(slot:Nat->Sl D)(blk:Nat->Option (Bk D))(fr:Nat)(op:Op):Option (Out D):=
 match Dv T S slot blk fr op with
 | some out=>some out
 | none=>anj T S Γ slot blk fr op
end
section
variable {D:Type}{P:Program}{S:Sh D}{T:TypeId->Option Ty}{Γ:FuncId->Option (Ct D)}{M M' N:Nat->Prop}{w w':World}{w0:Bs}{g g':Nat->Option Value}{blk blk':Nat->Option (Bk D)}{al:Nat->Prop}
 {a:Act} {o:Oper} {K:Act->World->Prop} {Q:Exit->Act->World->Prop} {slot bZ:Nat->Sl D} {out:Out D} {fr:Nat}
theorem yS (hTy:∀t ty,T t=some ty->fP P t ty){t e:TypeId}{n sz:Nat}(h:N9 T t=some (e,n,sz)):∃ty te,T t=some ty/\T e=some te/\te.size=sz/\0 < sz/\ty.size=n*sz/\ty.agg=true/\P.underlying t=some (.array n e)/\fP P t ty/\fP P e te:=by
 unfold N9 at h;split at h
 ·cases h
 ·rename_i ty hty;split at h
  ·cases h
  ·rename_i e' n' harr;split at h
   ·cases h
   ·rename_i te hte;split at h
    ·rename_i hc;simp only[jR]at hc;injection h with h
     injection h with h1 h
     injection h with h2 h3
     subst h1 h2 h3;exact⟨ty,te,hty,hte,rfl,by simpa[Hu]using hc.1.1,Qa hc.1.2,hc.2,aDe (hTy _ _ hty) harr,hTy _ _ hty,hTy _ _ hte⟩
    ·cases h
theorem xC (hTy:∀t ty,T t=some ty->fP P t ty){t e:TypeId}{n sz:Nat}(h:Wl T t=some (e,n,sz)):∃ty te,T t=some ty/\T e=some te/\te.size=sz/\0 < sz/\ty.size=n*sz/\ty.agg=true/\P.underlying t=some (.array n e)/\fP P t ty/\fP P e te:=by
 unfold Wl at h;split at h
 ·cases h
 ·split at h
  ·cases h
  ·exact yS hTy h
theorem zg {d:D}{ad:Addr}{sz:Nat}:∀(n i:Nat),(∀r,r < n->∃vs:List Value,vs.length=sz/\aY S M w g (Cj S d (i+r) 0 sz) vs/\∀k u,vs[k]? =some u->w.cell? (ad.add ((i+r)*sz+k))=some u)->
  ∃vs:List Value,vs.length=n*sz/\aY S M w g (Lm S d sz i n) vs/\∀k u,vs[k]? =some u->w.cell? (ad.add (i*sz+k))=some u
 | 0,i,_=>⟨[],by simp,trivial,fun k u hk=>by simp at hk⟩
 | n+1,i,h=>by
  obtain⟨v1,l1,r1,c1⟩:=h 0 au;obtain⟨v2,l2,r2,c2⟩:=zg n (i+1) (fun r hr=>by have:=h (r+1) au;rwa [show i+(r+1)=i+1+r by omega]at this);refine⟨v1++v2,by rw[kT,l1,l2,Qc4];omega,r1.append r2,fun k u hk=> ?_⟩;by_cases hlt:k < sz
  ·rw[Qbc au]at hk;exact c1 k u hk
  ·rw[Qba au,l1]at hk;have:=c2 _ u hk;rw[Qc4,show i*sz+sz+(k - sz)=i*sz+k by omega]at this;exact this
theorem aDU {i j s sz:Nat}(h:(Nat.beq i 0 && (Nat.beq j 0 && Nat.beq s sz))=true):i=0/\j=0/\s=sz:=by
 simp only[jR]at h;exact⟨Qa h.1,Qa h.2.1,Qa h.2.2⟩
theorem aeV {t:TypeId}{x:Operand}(ho:o.op= .load t x)(hTy:∀t ty,T t=some ty->fP P t ty)(h:Hp S w0 N blk g al w)(hx:(aG slot x).Rel S (aT N blk g) w g (a.eval x))
  (hout:Nu T S blk t (aG slot x)=some out) (hp:mF out.pre) (hK:Post S w0 N blk g al w fr out o.dst a K):o.wp P a w K Q:=by
 unfold Nu at hout;split at hout
 ·cases hout
 ·rename_i e n sz harr;obtain⟨ty,te,hty,hte,hsz,h0,W9,hag,yM,hok,JA⟩:=xC hTy harr;have hagg:=xR hok w;have Qx:=kz hok w;have fin:∀(ad:Addr) (vs:List Value) (ls:List (Lf D)),a.eval x= .pointer (some ad)->vs.length=n*sz->aY S (aT N blk g) w g ls vs->(∀k u,vs[k]? =some u->w.cell? (ad.add (0*sz+k))=some u)->out=⟨out.pre, .one (.agg ls),[]⟩->o.wp P a w K Q:=by
   intro ad vs ls hv hl hr hc he;have hrun:=run_loadCells (P:=P) (w:=w) ad vs 0 #[] (fun k u hk=>by have:=hc k u hk;simpa using this);rw[hl,<-W9]at hrun;refine bf (v:= .agg vs.toArray) ?_ h hK (by rw[he]) (by rw[he];exact⟨_,rfl,hr⟩);simp[execOp,ho,Instr.loadAt,Instr.sureAddr,hv,loadVar,hagg,hag,Qx,loadCells,hrun]
  split at hout
  ·rename_i l i j s hex;rw[hex]at hx;obtain⟨b,n',cap,hg,hv⟩:=hx;split at hout
   ·rename_i hc;obtain⟨rfl,rfl,rfl⟩:=aDU hc;split at hout
    ·rename_i e' d hb;split at hout
     ·rename_i hs;have hs:=Qa hs;injection hout with hout
      subst hout;have hp:S.len d=n:=hp;obtain⟨vs,hl,hr,hc⟩:=zg (S:=S) (M:=aT N blk g) (w:=w) (g:=g) (d:=d) (ad:=⟨b,0,none⟩) (sz:=s) n 0 (fun r hr=>by
       obtain⟨vs,h1,h2,h3⟩:=xN h hb hg (i:=0+r) au s 0 au;refine⟨vs,h1,h2,fun k u hk=> ?_⟩;have:=h3 k u hk;rw[kX];rw[<-hs]at this;simpa using this)
      exact fin ⟨b,0,none⟩ vs _ (by rw[hv];simp) hl hr hc rfl
     ·cases hout
    ·cases hout
   ·cases hout
  ·rename_i k hex;rw[hex]at hx;have hx:a.eval x= .pointer (some ⟨k,0,none⟩):=hx;split at hout
   ·rename_i d hd;split at hout
    ·rename_i hs;have hs:=Qa hs;injection hout with hout
     subst hout;have hp:S.len d=n:=hp;have hgl:=h.gl k d hd;obtain⟨vs,hl,hr,hc⟩:=zg (S:=S) (M:=aT N blk g) (w:=w) (g:=g) (d:=d) (ad:=⟨k,0,none⟩) (sz:=sz) n 0 (fun r hr=>by
      obtain⟨vs,h1,h2,h3⟩:=yZ (g:=g) hgl (i:=0+r) au sz 0 au;refine⟨vs,h1,h2,fun k' u hk=> ?_⟩;have:=h3 k' u hk;rw[<-hs]at this;simpa using this)
     exact fin ⟨k,0,none⟩ vs _ hx hl hr hc rfl
    ·cases hout
   ·cases hout
  ·cases hout
theorem acv {t:TypeId}{x ix:Operand}(ho:o.op= .indexAddr t x ix)(hTy:∀t ty,T t=some ty->fP P t ty)(h:Hp S w0 N blk g al w)(hx:(aG slot x).Rel S (aT N blk g) w g (a.eval x))
  (hi:(aG slot ix).Rel S (aT N blk g) w g (a.eval ix)) (hout:abV T S t (aG slot x) (aG slot ix)=some out) (hp:mF out.pre) (hK:Post S w0 N blk g al w fr out o.dst a K):o.wp P a w K Q:=by
 unfold abV at hout;split at hout
 ·cases hout
 ·rename_i e n sz harr;obtain⟨ty,te,hty,hte,hsz,h0,W9,hag,yM,hok,JA⟩:=xC hTy harr;have Qx:=kz JA w;split at hout
  ·rename_i l i0 j s k m hex hei;rw[hex]at hx;rw[hei]at hi;simp only[Sl.Rel,Sv.Rel,Lf.Rel]at hi;obtain⟨b,n',cap,hg,hv⟩:=hx;split at hout
   ·rename_i hc;obtain⟨rfl,rfl,rfl⟩:=aDU hc;injection hout with hout
    subst hout;obtain⟨p1,p2⟩:=hp;refine bf (v:= .pointer (some ⟨b,m.toNat*s+0,none⟩)) ?_ h hK rfl ⟨b,n',cap,hg,rfl⟩;simp[execOp,ho,Instr.indexAt,Instr.sureAddr,hi,asIntOf,run_underlying yM,hv,p1,p2,Qx,hsz,kX]
   ·cases hout
  ·rename_i k ki m hex hei;rw[hex]at hx;rw[hei]at hi;simp only[Sl.Rel,Sv.Rel,Lf.Rel]at hi hx;split at hout
   ·rename_i d hd;split at hout
    ·rename_i hs;have hs:=Qa hs;injection hout with hout
     subst hout;obtain⟨p1,p2,p3⟩:=hp;refine bf (v:= .pointer (some (Addr.add ⟨k,0,none⟩ (m.toNat*S.size d+0)))) ?_ h hK rfl ⟨_,_,_,h.gl k d hd,by omega,rfl⟩;simp[execOp,ho,Instr.indexAt,Instr.sureAddr,hi,asIntOf,run_underlying yM,hx,p1,p2,Qx,hsz,hs]
    ·cases hout
   ·cases hout
  ·cases hout
theorem ab_ {t:TypeId}(hS:jf S)(ho:o.op= .alloc t)(hTy:∀t ty,T t=some ty->fP P t ty)(h:Hp S w0 N blk g al w)(hfr:∀n,fr<=n->n < fr+64->¬al n)
  (hout:ack T S fr t=some out) (hK:Post S w0 N blk g al w fr out o.dst a K):o.wp P a w K Q:=by
 unfold ack at hout;split at hout
 ·cases hout
 ·rename_i e n sz harr;obtain⟨ty,te,hty,hte,hsz,h0,W9,hag,yM,hok,JA⟩:=xC hTy harr;rw[hty]at hout;dsimp only at hout;split at hout
  ·cases hout
  ·rename_i d hd;split at hout
   ·rename_i hc;simp only[jR]at hc;have hs:=Qa hc.1;have hn:=Qa8 hc.2;injection hout with hout
    subst hout;obtain⟨z,hz,hzc⟩:=BR hok w;obtain⟨m1,m2,m3⟩:=hS.make _ _ _ _ hd;rw[Qbj]at m2;have hzl:z.cells.size=n*S.size d:=by rw[<-m2,<-hzc];simp
    have hrun:(execOp a.eval o).run P w= .ok (.value (.pointer (some ⟨w.heap.size,0,none⟩))) (w.alloc (.cells z.cells t)):=by
     simp[execOp,ho,Instr.alloc,hz,newVar,newRow,newObj,Sem.run]
    have hB:Below w.heap.size w (w.alloc (.cells z.cells t)):=(Below.refl w.heap.size w).alloc (l9 _) _;obtain⟨g1,g2,g3⟩:=h.add (l:=fr) (bk:= .row t d) (v:= .slice (some ⟨w.heap.size,0,none⟩) n n) hB (hfr fr (l9 _) au) (fun b hb=>by simp[dY]at hb;omega)
     (fun M' hk _=>by
      refine⟨⟨fun b hb=> .inl ?_,by rw[m1];omega,hS.acX _ _ _ _ hd⟩,z.cells.toList,⟨?_, .inr ⟨w.heap.size,n,z.cells,by rw[m1],vg _,heap_alloc_new w _,by omega,by simp only[maxLen];omega,hzl,?_⟩⟩,fun i' j hi' hj=> ?_⟩
      ·simp only[dY,Nb]at hb;have:=h.below.size;omega
      ·rw[Qj,m1,hzl]
      ·rw[Qb4];rw[Qj,m1,hzl];exact l9 _
      ·rw[m1]at hi';obtain⟨x0,hx0,hle⟩:=m3 i' j hi' hj;have hlt:=oL hi' hj;have hlz:i'*S.size d+j < z.cells.size:=by rw[hzl];exact hlt
       refine⟨z.cells[i'*S.size d+j],by simp[hlz],hS.data _ _ _ au hj,hle.rel ?_⟩;have hzj:ty.zero[i'*S.size d+j]? =some z.cells[i'*S.size d+j]:=by rw[<-hzc];simp[hlz]
       simp only[Qbd,hzj,IR,Nb]at hx0;rw[<-hx0];exact(Ah _).norm)
    exact kU hrun (hK _ _ _ g3 g2 (g1.weaken Ve) ⟨w.heap.size,n,n,upd_same _ _ _,by simp⟩)
   ·cases hout
theorem aaU {t:TypeId}{x y:Operand}(hS:jf S)(ho:o.op= .store t x y)(hTy:∀t ty,T t=some ty->fP P t ty)(h:Hp S w0 N blk g al w)(hx:(aG slot x).Rel S (aT N blk g) w g (a.eval x))(hy:(aG slot y).Rel S (aT N blk g) w g (a.eval y))
  (hout:Ha T S blk t (aG slot x) (aG slot y)=some out) (hp:mF out.pre) (hK:Post S w0 N blk g al w fr out o.dst a K):o.wp P a w K Q:=by
 unfold Ha at hout;split at hout
 ·cases hout
 ·rename_i e n sz harr;obtain⟨ty,te,hty,hte,hsz,h0,W9,hag,yM,hok,JA⟩:=xC hTy harr;have Qx:=kz hok w;split at hout
  ·rename_i l i j s cs hex DN;rw[hex]at hx;rw[DN]at hy;obtain⟨b,n',cap,hg,hv⟩:=hx;split at hout
   ·rename_i hc;simp only[jR]at hc;obtain⟨⟨c1,c2,c3⟩,c4⟩:=hc;have c1:=Qa c1;have c2:=Qa c2;have c3:=Qa c3;subst c1 c2 c3;split at hout
    ·rename_i e' d hb;split at hout
     ·rename_i d' hd;split at hout
      ·rename_i hq;simp only[jR]at hq;have hs:=Qa hq.1;have hs':=Qa hq.2;injection hout with hout
       subst hout;have hp:S.len d=n:=hp;obtain⟨m1,m2,m3⟩:=hS.make _ _ _ _ hd;rw[Qbj]at m2;obtain⟨us,hus,hru⟩:=hy;have hul:=hru.length;obtain⟨v,hv',hm,xs,⟨hxl,hown⟩,hcell⟩:=h.dE l _ hb;rw[hg]at hv';injection hv' with hv'
       subst hv';rcases hown with⟨q0,_⟩ | ⟨b',cap',cur,hvv,_,hh,hnc,hcm,hcs,htake⟩
       ·cases q0
       ·injection hvv with q1 q2 q3
        injection q1 with q1
        injection q1 with q1
        subst q1 q2 q3;have hh':w.heap[b]? =some (.cells (cur.toList).toArray e' (0,0)):=by simpa using hh
        have hcap:S.len d*S.size d<=cur.toList.length:=by rw[Qj,hcs];exact Om _ hnc
        have hlu:us.length=S.len d*S.size d:=by rw[<-hul,m2,hp,<-hs',<-hs]
        obtain⟨w',hrun,hb',hn,hsm,r1,r2,r3⟩:=kJ (P:=P) b e' us w cur.toList 0 0 hh' au (kC h.refs c4 hru);have hrun':(execOp a.eval o).run P w= .ok .skip w':=by
         have hsz2:us.length=ty.size:=by rw[W9,hlu,hp,hs]
         simp[execOp,ho,Instr.storeAt,Instr.sureAddr,hv,storeVar,Qx,hus,Value.cells,hsz2,hrun]
        obtain⟨hp',hk'⟩:=h.write (bk':= .row e' d') hb rfl rfl hg rfl r1 r2 r3 hsm hn (fun hk=>by
         refine⟨⟨hm.1,by rw[m1,<-hp];exact hm.2.1,by apply hS.acX;assumption⟩,us,⟨by rw[hlu,m1,hp,<-hs',<-hs], .inr ⟨b,cap,(cur.toList.take (0+0)++(us++cur.toList.drop (0+0+us.length))).toArray,by rw[m1,<-hp],vg _,hb',by rw[m1,<-hp];exact hnc,hcm,?_,?_⟩⟩,fun i' j' hi' hj'=> ?_⟩
         ·rw[<-hs',hs,<-hcs];simp only[Qcq,kT,uw,Nk];have:=Qj (xs:=cur);omega
         ·rw[m1,<-hs',<-hp,hs,<-hlu];simp
         ·rw[m1]at hi';obtain⟨x0,hx0,hle⟩:=m3 i' j' hi' hj';obtain⟨uv,huv,hrv⟩:=hru.norm.get _ hx0;exact⟨uv,huv,hS.data _ _ _ au hj',(hle.rel hrv).keep hk (More.refl _)⟩)
        exact KN hrun' (hK _ _ _ (More.refl _) hk' (hp'.weaken fun n hn=> .inl hn) trivial)
      ·cases hout
     ·cases hout
    ·cases hout
   ·cases hout
  ·cases hout
theorem akd {cs:List (Lf D)}{sz j:Nat}:∀(n r k:Nat),k < n->(Yv cs sz j r n)[k]? =some (match cs[(r+k)*sz+j]? with
  | some x=>x
  | none=> .any)
 | 0,r,k,h=>by omega
 | n+1,r,0,h=>by simp[Yv]
 | n+1,r,k+1,h=>by
  simp only[Yv,List.getElem?_cons_succ];rw[akd n (r+1) k au,show r+1+k=r+(k+1) by omega]
theorem adD {k:IntKind}:∀{cs:List (Lf D)} {l:List Int},intsOf k cs=some l->∀(i:Nat) (x:Lf D),cs[i]? =some x->x= .int k (l.getD i 0)
 | [],l,h,i,x,hx=>by simp at hx
 | c::cs,l,h,i,x,hx=>by
  cases c with
  | int k' n=>
   simp only[intsOf]at h;split at h
   ·rename_i hk;have hk:k=k':=by simpa[Xx]using hk
    subst hk;split at h
    ·rename_i l' hl;injection h with h
     subst h;cases i with
     | zero=>simp at hx;simp[<-hx]
     | succ i=>have:=adD hl i x qcs;simpa using this
    ·cases h
   ·cases h
  | _=>simp[intsOf]at h
theorem strs_get:∀{cs:List (Lf D)} {l:List (List UInt8)},strsOf cs=some l->∀(i:Nat) (x:Lf D),cs[i]? =some x->x= .str (l.getD i [])
 | [],l,h,i,x,hx=>by simp at hx
 | c::cs,l,h,i,x,hx=>by
  cases c with
  | str s=>
   simp only[strsOf]at h;split at h
   ·rename_i l' hl;injection h with h
    subst h;cases i with
    | zero=>simp at hx;simp[<-hx]
    | succ i=>have:=strs_get hl i x qcs;simpa using this
   ·cases h
  | _=>simp[strsOf]at h
theorem Zl:∀{cs:List (Lf D)} {l:List Bool},JS cs=some l->∀(i:Nat) (x:Lf D),cs[i]? =some x->x= .bool (l.getD i false)
 | [],l,h,i,x,hx=>by simp at hx
 | c::cs,l,h,i,x,hx=>by
  cases c with
  | bool s=>
   simp only[JS]at h;split at h
   ·rename_i l' hl;injection h with h
    subst h;cases i with
    | zero=>simp at hx;simp[<-hx]
    | succ i=>have:=Zl hl i x qcs;simpa using this
   ·cases h
  | _=>simp[JS]at h
theorem atY {cs:List (Lf D)}{i:Nat}{p x:Lf D}(h:aiH cs i=some p)(hx:cs[i]? =some x):x=p:=by
 unfold aiH at h;split at h
 ·split at h
  ·rename_i l hl;injection h with h;subst h;exact adD hl i x hx
  ·cases h
 ·split at h
  ·rename_i l hl;injection h with h;subst h;exact strs_get hl i x hx
  ·cases h
 ·split at h
  ·rename_i l hl;injection h with h;subst h;exact Zl hl i x hx
  ·cases h
 ·cases h
theorem PT {cs:List (Lf D)}{vs:List Value}{sz n i:Nat}(hr:aY S M w g cs vs)(hl:cs.length=n*sz)(hi:i < n):∀(m j:Nat) (ls:List (Lf D)),j+m=sz->pickRow cs sz n i j m=some ls->aY S M w g ls ((vs.drop (i*sz+j)).take m)
 | 0,j,ls,hj,h=>by simp[pickRow]at h;subst h;simp[aY]
 | m+1,j,ls,hj,h=>by
  unfold pickRow at h;split at h
  ·rename_i x xs h1 h2;injection h with h
   subst h;have hlt:=oL hi (show j < sz by omega);have hlc:i*sz+j < cs.length:=by omega
   have hx:(Yv cs sz j 0 n)[i]? =some cs[i*sz+j]:=by
    rw[akd n 0 i hi,DU,Xh hlc]
   have hxx:=atY h1 hx;obtain⟨u,hu,hru⟩:=hr.get (i*sz+j) (Xh hlc);have hlv:i*sz+j < vs.length:=by rw[<-hr.length];exact hlc
   have hv:vs.drop (i*sz+j)=u::vs.drop (i*sz+(j+1)):=by
    rw[Qbw hlv];rw[Xh hlv]at hu;injection hu with hu
    rw[hu];rfl
   rw[hv,Qen];exact⟨hxx▸hru,PT hr hl hi m (j+1) xs au h2⟩
  ·cases h
theorem abD {t:TypeId}{x ix:Operand}(ho:o.op= .index t x ix)(hTy:∀t ty,T t=some ty->fP P t ty)(h:Hp S w0 N blk g al w)(hx:(aG slot x).Rel S (aT N blk g) w g (a.eval x))
  (hi:(aG slot ix).Rel S (aT N blk g) w g (a.eval ix)) (hout:aaW T t (aG slot x) (aG slot ix)=some out) (hp:mF out.pre) (hK:Post S w0 N blk g al w fr out o.dst a K):o.wp P a w K Q:=by
 unfold aaW at hout;split at hout
 ·cases hout
 ·rename_i e n sz harr;obtain⟨ty,te,hty,hte,hsz,h0,W9,hag,yM,hok,JA⟩:=yS hTy harr;rw[hte]at hout;dsimp only at hout;have ai8:=kz JA w;have agb:=xR JA w;split at hout
  ·rename_i cs k m hex hei;rw[hex]at hx;rw[hei]at hi;simp only[Sl.Rel,Sv.Rel,Lf.Rel]at hi;obtain⟨vs,hv,hr⟩:=hx;split at hout
   ·rename_i hc;simp only[jR]at hc;have hl:=Qa hc.1;split at hout
    ·rename_i ls hls;have key:0<=m/\m < n->aY S (aT N blk g) w g ls ((vs.drop (m.toNat*sz)).take sz):=fun hm=>by
      have:=PT hr.norm (by rw[Qbj];exact hl) (show m.toNat < n by omega) sz 0 ls au hls;simpa using this
     split at hout
     ·rename_i hea;injection hout with hout
      subst hout;obtain⟨p1,p2⟩:=hp;have hk:=key ⟨p1,p2⟩;refine bf (v:= .agg ((vs.drop (m.toNat*sz)).take sz).toArray) ?_ h hK rfl ⟨_,rfl,hk⟩;have he:vs.toArray.extract (m.toNat*sz) (m.toNat*sz+sz)=((vs.drop (m.toNat*sz)).take sz).toArray:=by
       apply JD.1;simp[Qdt]
      simp[execOp,ho,Instr.index,hi,asIntOf,run_underlying yM,hv,p1,p2,part,agb,hea,ai8,hsz,he]
     ·rename_i hea;split at hout
      ·rename_i l;injection hout with hout
       subst hout;obtain⟨p1,p2⟩:=hp;have hk:=key ⟨p1,p2⟩;have hl1:=hk.length;cases hd:(vs.drop (m.toNat*sz)).take sz with
       | nil=>rw[hd]at hl1;simp at hl1
       | cons u r=>
        rw[hd]at hk hl1;have hu:vs[m.toNat*sz]? =some u:=by
         have:((vs.drop (m.toNat*sz)).take sz)[0]? =some u:=by rw[hd];rfl
         rw[Nj,mi h0,Qbp]at this;simpa using this
        refine bf (v:=u) ?_ h hK rfl hk.1;simp[execOp,ho,Instr.index,hi,asIntOf,run_underlying yM,hv,p1,p2,part,agb,hea,ai8,hsz,hu]
      ·cases hout
    ·cases hout
   ·cases hout
  ·cases hout
theorem ab3 {t:TypeId}{parts:Array (Nat×Operand)}(ho:o.op= .build t parts)(hTy:∀t ty,T t=some ty->fP P t ty)(h:Hp S w0 N blk g al w)
  (hs:∀t,(slot t).Rel S (aT N blk g) w g (a.tmps.getD t undef)) (hout:Ri T slot t parts=some out) (hK:Post S w0 N blk g al w fr out o.dst a K):o.wp P a w K Q:=by
 unfold Ri at hout;split at hout
 ·cases hout
 ·rename_i e n sz harr;obtain⟨ty,te,hty,hte,hsz,h0,W9,hag,yM,hok,JA⟩:=yS hTy harr;rw[hty]at hout;dsimp only at hout;split at hout
  ·rename_i cs hf;injection hout with hout
   subst hout;obtain⟨z,hz,hzc⟩:=BR hok w;have ai8:=kz JA w;obtain⟨vs',hv',hr'⟩:=TA (a:=a) (sz:=sz) h.refs hs parts.toList _ cs z.cells (by rw[hzc];exact sO _) hf;refine bf (v:= .agg vs') ?_ h hK rfl ⟨vs'.toList,by simp,hr'⟩;have hmap:parts.toList.map (fun p=>(p.1,a.eval p.2))=(parts.map fun(i,x)=>(i,a.eval x)).toList:=by simp
   rw[hmap]at hv';simp at hv';simp[execOp,ho,Instr.build,hz,run_underlying yM,ai8,hsz,hv']
  ·cases hout
theorem Zw {e':TypeId}{d p z d':D}{b i j n cap:Nat}{zs:List (Lf D)}{zv:List Value}{cur cur':Array Value}{e:TypeId}(hS:jf S)(hm:w0.Mine b)(hlm:S.len d<=9223372036854775807)
  (hij:i<=j) (hj:j=S.len d) (hn:n=S.len d) (hsub:S.sub d 0 i=some p) (hz:S.zero e (j - i) zs=some z) (Hq:S.cat p z=some d')
  (hold:∀r c,r < S.len d->c < S.size d->∃u,cur[r*S.size d+c]? =some u/\(S.cell d r c).jI=true/\(S.cell d r c).Rel S M w' g u)
  (hcz:aY S M w' g zs zv) (hcap:n<=cap) (hcm:cap<=maxLen) (hcs:cur'.size=cap*S.size d)
  (hh:w'.heap[b]? =some (.cells cur' e' (0,0))) (h1:∀k,k < i*S.size d->cur'[k]? =cur[k]?) (h2:∀r c,i<=r->r < j->c < S.size d->cur'[r*S.size d+c]? =zv[c]?):
  yL S M w' g w0 (.row e' d') (.slice (some ⟨b,0,none⟩) n cap):=by
 obtain⟨a1,a2,a3⟩:=hS.sub _ _ _ _ hsub (vg _) au;obtain⟨z1,z2,z3⟩:=hS.zero _ _ _ _ hz;obtain⟨c1,c2,c3,c4,c5⟩:=hS.cat _ _ _ Hq;have hsz:S.size d'=S.size d:=by rw[<-c1,a1]
 have hszz:S.size z=S.size d:=by rw[c2,hsz]
 have hlen:S.len d'=S.len d:=by rw[c3,a2,z1];omega
 have hle:S.len d*S.size d<=cur'.size:=by rw[hcs,<-hn];exact Om _ hcap
 refine⟨⟨fun b' hb'=>by simp only[dY,Nb]at hb';exact hb'▸hm,by rw[hlen];exact hlm,hS.Xd _ _ _ Hq⟩,cur'.toList.take (S.len d*S.size d),⟨?_, .inr ⟨b,cap,cur',by rw[hlen,hn],vg _,hh,by rw[hlen,<-hn];exact hcap,hcm,by rw[hsz];exact hcs,by rw[hlen,hsz]⟩⟩,fun r c hr hc=> ?_⟩
 ·rw[uw,Qj,hlen,hsz];omega
 ·rw[hlen]at hr;rw[hsz]at hc;have hlt:=oL hr hc;have hdat:=hS.data d' r c au au;rw[hsz,Nj,mi hlt,Qcd];by_cases hri:r < i
  ·obtain⟨u,q1,q2,q3⟩:=hold r c hr hc;have hcell:S.cell d' r c=S.cell d r c:=by
    rw[c4 r c (by rw[a2];omega),a3 r c au,DU]
   refine⟨u,by rw[h1 _ (by have:=oL hri hc;omega)];exact q1,hdat,by rw[hcell];exact q3⟩
  ·have hcell:S.cell d' r c=S.cell z (r - i) c:=by
    have:=c5 (r - i) c (by rw[z1];omega);rw[a2]at this;rw[<-this];congr 1;omega
   obtain⟨x,hx,hle⟩:=z3 (r - i) c au au;obtain⟨u,hu,hru⟩:=hcz.get c hx;refine⟨u,by rw[h2 r c au au hc];exact hu,hdat,by rw[hcell];exact hle.rel hru⟩
theorem ND {z:Array Value}{n k:Nat}(hk:k < n*z.size):(Builtin.zeroCells z n).toList[k]? =z[k % z.size]? :=by
 have h0:0 < z.size:=by
  rcases Qcz z.size with h | h
  ·rw[h,Nat.mul_zero]at hk;omega
  ·exact h
 have hm:k % z.size < z.size:=Qc6 _ h0;simp[Builtin.zeroCells,hk,hm]
theorem ad7 {c:Call}{x:Operand}(hS:jf S)(ho:o.op= .call c)(hc:c.callee= .builtin .clear)(hargs:c.args.toList=[x])(hTy:∀t ty,T t=some ty->fP P t ty)(h:Hp S w0 N blk g al w)(hx:(aG slot x).Rel S (aT N blk g) w g (a.eval x))
  (hout:OJ T S blk c.argTypes (aG slot x)=some out) (hp:mF out.pre) (hK:Post S w0 N blk g al w fr out o.dst a K):o.wp P a w K Q:=by
 unfold OJ at hout;split at hout
 ·rename_i t hts;split at hout
  ·cases hout
  ·rename_i ty hty;split at hout
   ·cases hout
   ·rename_i e hel;split at hout
    ·cases hout
    ·rename_i te hte;split at hout
     ·rename_i l i j sz f hex;rw[hex]at hx;obtain⟨av,n,cap,hg,hv,hij,hjn,_⟩:=hx;split at hout
      ·rename_i e' d hb;split at hout
       ·rename_i hcond;simp only[jR]at hcond;obtain⟨q1,q2,q3,q4⟩:=hcond;have q1:=Qa q1;have q2:=Qa q2;have q3:0 < sz:=by simpa[Hu]using q3
        have q4:=Qa q4;split at hout
        ·rename_i p z hsub hz;split at hout
         ·rename_i d' Hq;injection hout with hout
          subst hout;have hj:j=S.len d:=hp;have hsl:=kR (hTy _ _ hty) hel;obtain⟨zv,hzv,hzc⟩:=BR (hTy _ _ hte) w;have hzs:zv.cells.size=sz:=by rw[<-q4,<-hzc];simp
          obtain⟨v,hv',hm,xs,⟨hxl,hown⟩,hcell⟩:=h.dE l _ hb;rw[hg]at hv';injection hv' with hv'
          have ha1:c.args= #[x]:=by rw[<-JD];simpa using hargs
          have ht1:c.argTypes= #[t]:=by rw[<-JD];simpa using hts
          rcases hown with⟨h0,hn0⟩ | ⟨b,cap',cur,hvv,_,hh,hnc,hcm,hcs,htake⟩
          ·rw[h0]at hv';injection hv' with e1 e2 e3
           subst e1 e2 e3;have hj0:j=0:=by omega
           have hi0:i=0:=by omega
           subst hj0 hi0;obtain⟨a1,a2,a3⟩:=hS.sub _ _ _ _ hsub (vg _) au;obtain⟨z1,z2,z3⟩:=hS.zero _ _ _ _ hz;obtain⟨c1,c2,c3,c4,c5⟩:=hS.cat _ _ _ Hq;have hl0:S.len d'=0:=by rw[c3,a2,z1]
           obtain⟨g1,g2⟩:=h.ajf (bk':= .row e' d') hb rfl rfl hg ⟨⟨fun b hb=>by simp[dY]at hb,by omega,hS.Xd _ _ _ Hq⟩,[],⟨by simp[hl0], .inl ⟨rfl,hl0⟩⟩,fun r c hr=>by omega⟩;have hrun:(execOp a.eval o).run P w= .ok (.value (.tuple #[])) w:=by
            have hv:a.eval x= .slice none 0 0:=by rw[hv];simp[sliced]
            simp[execOp,ho,resolve,hc,invoke,builtin,ha1,ht1,Builtin.clear_,run_underlying hsl,hv]
           exact kU hrun (hK _ _ _ (More.refl _) g2 (g1.weaken fun n hn=> .inl hn) ⟨[],rfl,trivial⟩)
          ·rw[hvv]at hv';injection hv' with e1 e2 e3
           subst e1 e2 e3;have hold:∀r c,r < S.len d->c < S.size d->∃u,cur[r*S.size d+c]? =some u/\(S.cell d r c).jI=true/\(S.cell d r c).Rel S (aT N blk g) w g u:=by
            intro r c hr hc;obtain⟨u,u1,u2,u3⟩:=hcell r c hr hc;refine⟨u,?_,u2,u3⟩;rw[<-u1,<-htake,Nj,mi (oL hr hc),Qcd]
           have hmb:w0.Mine b:=hm.1 b (by rw[hvv];rfl);have hzl:aY S (aT N blk g) w g (te.zero.map fun v=>(yI v:Lf D).norm) zv.cells.toList:=by
            have:=(sO (D:=D) (S:=S) (M:=aT N blk g) (w:=w) (g:=g) te.zero).norm;rw[Qc2,<-hzc]at this;rw[<-hzc];exact this
           by_cases hlt:i < j
           ·have aIM:¬cap=i:=by omega
            have hva:a.eval x= .slice (some ⟨b,i*sz,none⟩) (j - i) (cap - i):=by rw[hv];simp[sliced,aIM,kX]
            have hh':w.heap[b]? =some (.cells (cur.toList).toArray e' (0,0)):=by simpa using hh
            have hul:(Builtin.zeroCells zv.cells (j - i)).toList.length=(j - i)*sz:=by rw[Qj,size_zeroCells,hzs]
            have hji:i*sz+(j - i)*sz=j*sz:=by rw[<-QO];congr 1;omega
            have hjc:j*sz<=cur.toList.length:=by rw[Qj,hcs,<-q2];exact Om _ au
            have hone:(Builtin.zeroCells zv.cells (j - i)).toList.all one'=true:=by
             rw[Nv];intro u hu;obtain⟨k,hk,rfl⟩:=Qdw hu;have hk':k < (j - i)*zv.cells.size:=by rw[hul]at hk;rw[hzs];exact hk
             have hg:=ND hk';rw[Xh hk]at hg;have hmem:(Builtin.zeroCells zv.cells (j - i)).toList[k]∈zv.cells.toList:=by
              have:=Qea hg.symm;simpa using this
             obtain⟨m,hm',he⟩:=Qdw hmem;obtain⟨x0,hx0,hxr⟩:∃x0:Lf D,(te.zero.map fun v=>(yI v:Lf D).norm)[m]? =some x0/\x0.Rel S (aT N blk g) w g zv.cells.toList[m]:=by
              have hlm:=hzl.length;have hm2:m < (te.zero.map fun v=>(yI v:Lf D).norm).length:=by rw[hlm];exact hm'
              obtain⟨u,hu1,hu2⟩:=hzl.get m (Xh hm2);rw[Xh hm']at hu1;injection hu1 with hu1
              exact⟨_,Xh hm2,by rw[hu1];exact hu2⟩
             obtain⟨z1,z2,z3⟩:=hS.zero _ _ _ _ hz;have hmz:m < S.size z:=by rw[<-z2];exact(Qa6.1 hx0).1
             obtain⟨x1,hx1,hle⟩:=z3 0 m au hmz;rw[hx0]at hx1;injection hx1 with hx1
             subst hx1;have:=LP (hS.data z 0 m au hmz) (hle.rel hxr);rw[<-he];exact this
            obtain⟨w',hrun,hb',hn,hsm,r1,r2,r3⟩:=kJ (P:=P) b e' (Builtin.zeroCells zv.cells (j - i)).toList w cur.toList (i*sz) 0 hh' au hone;generalize hus:(Builtin.zeroCells zv.cells (j - i)).toList=us at*;obtain⟨hp',hk'⟩:=h.write (bk':= .row e' d') hb rfl rfl hg rfl r1 r2 r3 hsm hn (fun hk=>
             Zw (cur:=cur) (zv:=zv.cells.toList) hS hmb hm.2.1 hij hj rfl hsub hz Hq (fun r c hr hc=>by obtain⟨u,u1,u2,u3⟩:=hold r c hr hc;exact⟨u,u1,u2,u3.keep hk (More.refl _)⟩)
              (hzl.keep hk (More.refl _)) hnc hcm (by
               rw[<-hcs];simp only[Qcq,kT,uw,Nk];have:=Qj (xs:=cur);omega) hb' (fun k hk=>by
               rw[<-q2]at hk;rw[List.getElem?_toArray,Qbc qbt,Nj,mi au,Qcd])
              (fun r c hr1 hr2 hc=>by
               rw[<-q2]at hc⊢;have hpos:i*sz<=r*sz:=Om _ hr1;have hrc:r*sz+c - i*sz=(r - i)*sz+c:=by rw[Qew];omega
               have hlu:(r - i)*sz+c < us.length:=by
                rw[hul];exact oL au hc
               rw[List.getElem?_toArray,Qba qbt];have hidx:r*sz+c - (cur.toList.take (i*sz+0)).length=(r - i)*sz+c:=by
                simp only[uw];omega
               rw[hidx,Qbc hlu,<-hus,ND (by rw[hzs,<-hul];exact hlu),hzs,Qcy,Qej,Qb6 hc,Qcd]))
            have hrun':(execOp a.eval o).run P w= .ok (.value (.tuple #[])) w':=by
             obtain⟨m,hm'⟩:∃m,j - i=m+1:=⟨j - i - 1,by omega⟩;rw[hm']at hva hus;simp[execOp,ho,resolve,hc,invoke,builtin,ha1,ht1,Builtin.clear_,run_underlying hsl,hva,hzv,hus,hrun]
            exact kU hrun' (hK _ _ _ (More.refl _) hk' (hp'.weaken fun n hn=> .inl hn) ⟨[],rfl,trivial⟩)
           ·have hie:i=j:=by omega
            subst hie;obtain⟨g1,g2⟩:=h.ajf (bk':= .row e' d') hb rfl rfl hg (Zw (cur:=cur) (zv:=zv.cells.toList) hS hmb hm.2.1 hij hj rfl hsub hz Hq hold hzl hnc hcm hcs hh (fun _ _=>rfl) (fun r c h1 h2=>by omega));have hrun:(execOp a.eval o).run P w= .ok (.value (.tuple #[])) w:=by
             have hv:∃q,a.eval x= .slice (some q) 0 (cap - i):=by
              rw[hv];unfold sliced;by_cases hci:cap=i
              ·exact⟨_,by rw[mi hci,Qeq]⟩
              ·exact⟨_,by rw[lL hci,Qeq];rfl⟩
             obtain⟨q,hv⟩:=hv;simp[execOp,ho,resolve,hc,invoke,builtin,ha1,ht1,Builtin.clear_,run_underlying hsl,hv]
            exact kU hrun (hK _ _ _ (More.refl _) g2 (g1.weaken fun n hn=> .inl hn) ⟨[],rfl,trivial⟩)
         ·cases hout
        ·cases hout
       ·cases hout
      ·cases hout
     ·cases hout
 ·cases hout
theorem aof (hTy:∀t ty,T t=some ty->fP P t ty)(hΓ:∀f ct,Γ f=some ct->fV P S f ct)(hS:jf S)(h:Hp S w0 N blk g al w)(hfr:∀n,fr<=n->n < fr+64->¬al n)
  (hs:∀t,(slot t).Rel S (aT N blk g) w g (a.tmps.getD t undef)) (hout:ann T S Γ slot blk fr o.op=some out) (hp:mF out.pre) (hK:Post S w0 N blk g al w fr out o.dst a K):o.wp P a w K Q:=by
 unfold ann at hout;split at hout
 ·rename_i out' hx;injection hout with hout
  subst hout;have hr:=oU hs;unfold Dv at hx;split at hx
  ·rename_i t ho;exact ab_ hS ho hTy h hfr hx hK
  ·rename_i t x ho;exact aeV ho hTy h (hr x) hx hp hK
  ·rename_i t x y ho;exact aaU hS ho hTy h (hr x) (hr y) hx hp hK
  ·rename_i t x i ho;exact acv ho hTy h (hr x) (hr i) hx hp hK
  ·rename_i t x i ho;exact abD ho hTy h (hr x) (hr i) hx hp hK
  ·rename_i t parts ho;exact ab3 ho hTy h hs hx hK
  ·rename_i c ho;split at hx
   ·rename_i aFB;split at hx
    ·rename_i x hargs;exact ad7 hS ho aFB hargs hTy h (hr x) hx hp hK
    ·cases hx
   ·cases hx
  ·rename_i t x ho;exact amS ho hTy h (hr x) hx hK
  ·rename_i x st t ho;exact ZZ ho hTy h (hr x) hx hp hK
  ·cases hx
 ·exact anT hTy hΓ hS h hfr hs hout hp hK
end
end Go.Vc
namespace Go.Vc
open Go.RowKit
def DZ (s:List UInt8)(p:Nat):Int:=((Utf8.decode ⟨s.toArray⟩ p).1:Nat)
def NZ (s:List UInt8)(p:Nat):Nat:=(Utf8.decode ⟨s.toArray⟩ p).2
section
variable {D:Type}
def aif (T:TypeId->Option Ty)(fr:Nat)(t:TypeId)(x:Sl D):Option (Out D):=
 match T t with
 | none=>none
 | some ty=>(match x with
  | .one (.lf (.str s))=>if Nat.beq ty.kind 3 then some ⟨none, .one (.lf (.ptr fr 0)),[(fr,some (.iter s 0))]⟩else none
  | _=>none)
def aus (T:TypeId->Option Ty)(S:Sh D)(Γ:FuncId->Option (Ct D))(slot:Nat->Sl D)(blk:Nat->Option (Bk D))(fr:Nat)(op:Op):Option (Out D):=
 match op with
 | .range t x=>aif T fr t (aG slot x)
 | op=>ann T S Γ slot blk fr op
def VN (slot:Nat->Sl D)(blk:Nat->Option (Bk D))(op:Op):Option (Bool×Out D×Out D):=
 match op with
 | .next it true=>(match aG slot it with
  | .one (.lf (.ptr l o))=>if Nat.beq o 0 then(match blk l with
   | some (.iter s p)=>some (decide (p < s.length),⟨none, .yD [.lf (.val (.bool true)), .lf (.int .i64 p), .lf (.int .i32 (DZ s p))],[(l,some (.iter s (p+NZ s p)))]⟩,⟨none, .yD [.lf (.val (.bool false))],[]⟩)
   | _=>none)else none
  | _=>none)
 | _=>none
end
section
variable {D:Type}{P:Program}{S:Sh D}{T:TypeId->Option Ty}{Γ:FuncId->Option (Ct D)}{M M' N:Nat->Prop}{w w':World}{w0:Bs}{g g':Nat->Option Value}{blk blk':Nat->Option (Bk D)}{al:Nat->Prop}
 {a:Act} {o:Oper} {K:Act->World->Prop} {Q:Exit->Act->World->Prop} {slot bZ:Nat->Sl D} {out:Out D} {fr:Nat}
theorem aeU {t:TypeId}{x:Operand}(ho:o.op= .range t x)(hTy:∀t ty,T t=some ty->fP P t ty)(h:Hp S w0 N blk g al w)(hfr:∀n,fr<=n->n < fr+64->¬al n)(hx:(aG slot x).Rel S (aT N blk g) w g (a.eval x))
  (hout:aif T fr t (aG slot x)=some out) (hK:Post S w0 N blk g al w fr out o.dst a K):o.wp P a w K Q:=by
 unfold aif at hout;split at hout
 ·cases hout
 ·rename_i ty hty;split at hout
  ·rename_i s hex;rw[hex]at hx;simp only[Sl.Rel,Sv.Rel,Lf.Rel]at hx;split at hout
   ·rename_i hk;have hk:=Qa hk;obtain⟨d,hd,hkd⟩:=nI (hTy _ _ hty);rw[hk]at hkd;have hd:P.underlying t=some .string:=by cases d<;>simp_all [kindOf]
    injection hout with hout
    subst hout;have hrun:(execOp a.eval o).run P w= .ok (.value (.pointer (some ⟨w.heap.size,0,none⟩))) (w.alloc (.stringIter ⟨s.toArray⟩ 0)):=by
     simp[execOp,ho,Instr.range,hx.1,run_underlying hd,newObj,Sem.run]
    have hB:Below w.heap.size w (w.alloc (.stringIter ⟨s.toArray⟩ 0)):=(Below.refl w.heap.size w).alloc (l9 _) _;obtain⟨g1,g2,g3⟩:=h.add (l:=fr) (bk:= .iter s 0) (v:= .pointer (some ⟨w.heap.size,0,none⟩)) hB (hfr fr (l9 _) au) (fun b hb=>by simp[dY]at hb;omega)
     (fun M' hk _=>⟨hx.2,w.heap.size,rfl, .inl h.below.size,heap_alloc_new w _⟩)
    exact kU hrun (hK _ _ _ g3 g2 (g1.weaken Ve) ⟨w.heap.size,upd_same _ _ _,rfl⟩)
   ·cases hout
  ·cases hout
theorem run_next_at {s:ByteArray}{p b:Nat}{ty:TypeId}(hh:w.heap[b]? =some (.stringIter s p))(h:p < s.size):(Instr.next (.pointer (some ⟨b,0,none⟩)) true ty).run P w=
  .ok (.tuple #[.bool true, .int .i64 p, .int .i32 ((Utf8.decode s p).1:Nat)]) {w with heap:=w.heap.setIfInBounds b (.stringIter s (p+(Utf8.decode s p).2))}:=by
 simp only[Instr.next,getObj,setObj,Sem.run_bind,Sem.run,hh,Result.andThen,h,if_true];simp[goInt]
theorem adg {s:ByteArray}{p b:Nat}{ty:TypeId}(hh:w.heap[b]? =some (.stringIter s p))(h:¬p < s.size):(Instr.next (.pointer (some ⟨b,0,none⟩)) true ty).run P w= .ok (.tuple #[.bool false]) w:=by
 simp[Instr.next,getObj,Sem.run,hh,h]
theorem agX {b:Bool}{o1 o2:Out D}(h:Hp S w0 N blk g al w)(hs:∀t,(slot t).Rel S (aT N blk g) w g (a.tmps.getD t undef))
  (hx:VN slot blk o.op=some (b,o1,o2)) (hK:Post S w0 N blk g al w fr (bif b then o1 else o2) o.dst a K):o.wp P a w K Q:=by
 have hr:=oU hs;unfold VN at hx;split at hx
 ·rename_i it ho;have hv:=hr it;split at hx
  ·rename_i l off hex;rw[hex]at hv;split at hx
   ·rename_i hoff;have hoff:=Qa hoff;subst hoff;obtain⟨bb,hg,hv⟩:=hv;split at hx
    ·rename_i s p hb;injection hx with hx
     injection hx with x1 hx
     injection hx with x2 x3
     obtain⟨v,hv',hsl,b',rfl,hm,hh⟩:=h.dE l _ hb;rw[hg]at hv';injection hv' with hv'
     injection hv' with hv'
     injection hv' with hv'
     injection hv' with hv'
     subst hv';have hsz:(ByteArray.mk s.toArray).size=s.length:=by show s.toArray.size=_;simp
     by_cases hp:p < s.length
     ·have hb1:b=true:=by rw[<-x1];simpa using hp
      subst hb1;rw[Bo]at hK;subst x2;have hrun:=run_next_at (P:=P) (ty:=o.type) hh (by rw[hsz];exact hp);have hlt:=tZ hh;obtain⟨hp',hk'⟩:=h.write (w':={w with heap:=w.heap.setIfInBounds bb (.stringIter ⟨s.toArray⟩ (p+NZ s p))}) (bk':= .iter s (p+NZ s p)) hb rfl rfl hg rfl rfl rfl rfl qa2
       (fun n hn=>by
        have hne:bb≠n:=fun e=>hn e.symm
        simp[Array.getElem?_setIfInBounds_ne hne]) (fun hk=>⟨hsl,bb,rfl,hm,by simp[hlt]⟩)
      refine kU (v:= .tuple #[.bool true, .int .i64 p, .int .i32 (DZ s p)]) ?_ (hK _ _ _ (More.refl _) hk' (hp'.weaken fun n hn=> .inl hn) ⟨[.bool true, .int .i64 p, .int .i32 (DZ s p)],rfl,rfl,rfl,rfl,trivial⟩);simp only[execOp,ho,hv,Sem.run_bind,hrun,Result.andThen_ok,Sem.run_pure];rfl
     ·have hb1:b=false:=by rw[<-x1];simpa using hp
      subst hb1;rw[pO]at hK;subst x3;have hrun:=adg (P:=P) (ty:=o.type) hh (by rw[hsz];exact hp);refine bf (v:= .tuple #[.bool false]) ?_ h hK rfl ⟨[.bool false],rfl,rfl,trivial⟩;simp only[execOp,ho,hv,Sem.run_bind,hrun,Result.andThen_ok,Sem.run_pure]
    ·cases hx
   ·cases hx
  ·cases hx
 ·cases hx
end
end Go.Vc
