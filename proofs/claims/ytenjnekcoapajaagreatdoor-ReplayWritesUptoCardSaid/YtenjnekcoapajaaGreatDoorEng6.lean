/- Own engine: Vd8, Vd9, Vda, Vdb. -/
import Derived.Test.YtenjnekcoapajaaGreatDoorEng5
set_option linter.unusedVariables false
set_option linter.unusedSimpArgs false
namespace Go.Vc
open Go.RowKit
def RN:Value->Bool
 | .bool _=>false
 | _=>true
structure Wr (D:Type) where
 dst:Option Nat
 val:Sl D
 blks:List (Nat×Option (Bk D))
def Dq {D:Type}(a:Nat->Sl D)(W:Wr D):Nat->Sl D:=
 match W.dst with
 | some d=>upd a d W.val
 | none=>a
def Af {D:Type}(a:Nat->Option (Bk D))(W:Wr D):Nat->Option (Bk D):=jc a W.blks
def Wanted {D:Type}(e:Array Oper)(a:Nat->Sl D)(o:Oper)(r:Bool):Prop:=
 match o.guard with
 | none=>r=true
 | some (j,c)=>∃d,(e[j]?).bind (·.dst)=some d/\((∃b,bOf (a d)=some b/\r=(b==c))\/(∃v,a d= .one (.lf (.val v))/\RN v=true/\r=false))
def Ny {D:Type}(T:TypeId->Option Ty)(S:Sh D)(g:FuncId->Option (Ct D))(c:Array Oper)(n f:Nat)(a:Nat->Sl D)(e:Nat->Option (Bk D))(o:Oper)(W:Wr D):Prop:=
 W.dst=o.dst/\(∀d,o.dst=some d->d < n)/\
 (
   (Wanted c a o true/\∃b,Does T S g a e f o.op b/\lG b.pre/\W.val=b.val/\W.blks=b.blks)\/
   (Wanted c a o false/\W.val= .one (.lf (.val undef))/\W.blks=[]))
def Holds {D:Type}(S:Sh D)(d:Bs)(e:Nat->Option Value)(N:Nat->Prop)(n:Nat)(c:Nat->Sl D)(b:Nat->Option (Bk D))(f:Nat->Prop)(a:Act)(w:World):Prop:=
 ∃g,Hp S d N b g f w/\(∀t,(c t).Rel S (aS N b g) w g (a.tmps.getD t undef))/\a.tmps.size=n/\a.defers=[]/\More e g
section
variable {D:Type}{P:Program}{S:Sh D}{T:TypeId->Option Ty}{Γ:FuncId->Option (Ct D)}{N:Nat->Prop}{w w':World}{w0:Bs}{g0:Nat->Option Value}{blk:Nat->Option (Bk D)}{al:Nat->Prop}
 {a:Act} {o:Oper} {K:Act->World->Prop} {Q:Exit->Act->World->Prop} {slot:Nat->Sl D} {fr n:Nat} {ops:Array Oper} {W:Wr D}
theorem ass {d:Option Tmp}{v:Value}{t:Nat}(c:∀x,d=some x->x < a.tmps.size):(a.put d v).tmps.getD t undef=if d=some t then v else a.tmps.getD t undef:=by
 cases d with
 | none=>simp[Act.put]
 | some d=>
  have:=c d rfl;simp only[Act.put];by_cases h:d=t
  ·subst h;simp[Array.getD,this]
  ·rw[uU qa4];simp only[Array.getD];by_cases b:t < a.tmps.size
   ·simp[b,h]
   ·simp[b]
theorem PE {g:Nat->Option Value}{M:Nat->Prop}{r:Bool}(i:∀t,(slot t).Rel S M w g (a.tmps.getD t undef))(h:Wanted ops slot o r):Region.wanted o (yielded ops a.tmps)=r:=by
 unfold Wanted at h;unfold Region.wanted;split at h
 ·grind
 ·rename_i j m l;simp only[l];obtain⟨d,f,h⟩:=h;have q:∀v,a.tmps.getD d undef=v->RN v=true->yielded ops a.tmps j=none:=by
   intro v e k;simp only[yielded,f,Option.bind_some];by_cases c:d < a.tmps.size
   ·simp only[Array.getD,c,dif_pos]at e;simp only[Array.getElem?_eq_getElem c];have:a.tmps[d]=v:=e;rw[this];cases v<;>first | rfl | simp[RN]at k
   ·simp[c]
  rcases h with⟨b,n,rfl⟩ | ⟨v,e,k,rfl⟩
  ·have:=i d;have this:=E5 n this;have p:yielded ops a.tmps j=some b:=by
    simp only[yielded,f,Option.bind_some];by_cases c:d < a.tmps.size
    ·simp_all
    ·simp[Array.getD,c,undef]at this
   grind
  ·have:=i d;rw[e]at this;simp only[Sl.Rel,Sv.Rel,Lf.Rel]at this
   grind
def Alike (x y:Sl D):Prop:=x=y\/∃b,bOf x=some b/\bOf y=some b
theorem Alike.refl (x:Sl D):Alike x x:= .inl rfl
theorem Alike.symm {x y:Sl D}(h:Alike x y):Alike y x:=by
 rcases h with rfl | ⟨b,a,c⟩
 ·exact .inl rfl
 ·exact .inr ⟨b,c,a⟩
theorem Alike.trans {x y z:Sl D}(h:Alike x y)(k:Alike y z):Alike x z:=by
 rcases h with rfl | ⟨b,d,e⟩
 ·exact k
 ·rcases k with rfl | ⟨c,a,f⟩
  ·exact .inr ⟨b,d,e⟩
  ·rw[e]at a;injection a with a
   subst a;exact .inr ⟨b,d,f⟩
theorem aDs {M:Nat->Prop}{g:Nat->Option Value}{x:Sl D}{b:Bool}(h:bOf x=some b):x.Rel S M w g (.bool b):=by
 unfold bOf at h;split at h
 ·injection h with h;subst h;rfl
 ·injection h with h;subst h;rfl
 ·cases h
theorem Alike.rel {M:Nat->Prop}{g:Nat->Option Value}{x y:Sl D}{v:Value}(h:Alike x y)(a:x.Rel S M w g v):y.Rel S M w g v:=by
 rcases h with rfl | ⟨b,c,d⟩
 ·exact a
 ·rw[E5 c a];exact aDs d
theorem Holds.alike {b:Nat->Sl D}(h:Holds S w0 g0 N n slot blk al a w)(d:∀t,Alike (slot t) (b t)):Holds S w0 g0 N n b blk al a w:=by
 obtain⟨g,e,c,f⟩:=h;exact⟨g,e,fun t=>(d t).rel (c t),f⟩
theorem xR {a:Nat->Sl D}(b:∀t,Alike (slot t) (a t))(t:Nat):Alike (Dq slot W t) (Dq a W t):=by
 unfold Dq;cases W.dst with
 | none=>exact b t
 | some d=>
  grind [Alike.refl,bM,upd_same]
theorem TA {i:Nat}(C:∀t H,T t=some H->TyOk P t H)(M:∀f D,Γ f=some D->CtOk P S f D)(R:ShOk S)(V:ops[i]? =some o)(h:Holds S w0 g0 N n slot blk al a w)(L:∀n,fr<=n->n < fr+64->¬al n)
  (p:Ny T S Γ ops n fr slot blk o W) (Z:∀G b,Holds S w0 g0 N n (Dq slot W) (Af blk W) (fun l=>al l\/(fr<=l/\l < fr+64)) G b->K G b):wpOp P ops Q i K a w:=by
 obtain⟨g,J,r,Y,O,F⟩:=h;obtain⟨j,ab,p⟩:=p;have y:∀v b g',More g g'->Keeps (aS N blk g) w (aS N (Af blk W) g') b->Hp S w0 N (Af blk W) g' (fun l=>al l\/(fr<=l/\l < fr+64)) b->W.val.Rel S (aS N (Af blk W) g') b g' v->K (a.put o.dst v) b:=by
  intro v b g' s A q k;have E:∀x,o.dst=some x->x < a.tmps.size:=fun x I=>by grind
  refine Z _ _ ⟨g',q,fun t=> ?_,?_,?_,fun l v h=>s l v (F l v h)⟩
  ·rw[ass E];by_cases c:o.dst=some t
   ·rw[vJ c];simp only[Dq,j,c,upd_same];exact k
   ·rw[uU c];have:Dq slot W t=slot t:=by
     unfold Dq;rw[j];cases U:o.dst with
     | none=>rfl
     | some d=>exact bM _ _ _ _ (fun e=>c (by rw[U,e]))
    rw[this];exact(r t).keep A s
  ·cases c:o.dst<;>simp[Act.put,Y]
  ·cases c:o.dst<;>simp[Act.put,O]
 unfold wpOp;simp only[V];rcases p with⟨z,aa,I,B,k,m⟩ | ⟨z,k,m⟩
 ·rw[PE r z,vJ rfl];refine .inl (ahY C M R J L r I B ?_);intro v b g' s A q X;refine y v b g' s ?_ ?_ ?_
  ·simpa[Af,m]using A
  ·simpa[Af,m]using q
  ·simpa[Af,m,k]using X
 ·rw[PE r z];have u:Af blk W=blk:=by simp[Af,m,jc]
  refine y undef w g (More.refl _) (by rw[u];exact Keeps.refl _ _) (by rw[u];exact J.weaken fun _ h=> .inl h) (by rw[k];rfl)
def Trace (T:TypeId->Option Ty)(S:Sh D)(d:FuncId->Option (Ct D))(a:Array Oper)(n:Nat):Nat->(Nat->Sl D)->(Nat->Option (Bk D))->List Oper->List (Wr D)->Prop
 | _,_,_,[],[]=>True
 | b,slot,blk,o::r,W::e=>(∃c,(∀t,Alike (slot t) (c t))/\Ny T S d a n b c blk o W)/\Trace T S d a n (b+64) (Dq slot W) (Af blk W) r e
 | _,_,_,_,_=>False
def C9:(Nat->Sl D)->List (Wr D)->(Nat->Sl D)
 | slot,[]=>slot
 | slot,W::a=>C9 (Dq slot W) a
def GX:(Nat->Option (Bk D))->List (Wr D)->(Nat->Option (Bk D))
 | blk,[]=>blk
 | blk,W::a=>GX (Af blk W) a
theorem aez (s:∀t C,T t=some C->TyOk P t C)(u:∀f B,Γ f=some B->CtOk P S f B)(y:ShOk S):
  ∀(l:List Oper) (k:List (Wr D)) (i c:Nat) (b:Nat->Sl D) (d:Nat->Option (Bk D)) (a:Act) (w:World),(∀j,l[j]? =ops[i+j]?)->Trace T S Γ ops n c b d l k->Holds S w0 g0 N n b d (· < c) a w->
   (∀p q,Holds S w0 g0 N n (C9 b k) (GX d k) (· < c+64*l.length) p q->Q .normal p q)->wpOps P ops Q (List.range' i l.length) a w
 | [],[],i,c,b,d,a,w,_,_,h,x=>by simpa[wpOps]using x a w (by simpa[C9,GX]using h)
 | [],_::_,_,_,_,_,_,_,_,m,_,_=>by simp[Trace]at m
 | _::_,[],_,_,_,_,_,_,_,m,_,_=>by simp[Trace]at m
 | o::l,W::k,i,c,b,d,a,w,v,m,h,x=>by
  rw[JV,List.range'_succ,wpOps_cons];have J:ops[i]? =some o:=by simpa using(v 0).symm
  obtain⟨⟨L,A,E⟩,G⟩:=m;refine TA s u y J (h.alike A) aj E fun p q I=> ?_;obtain⟨g,K,r⟩:=I.alike (xR fun t=>(A t).symm);refine aez s u y l k (i+1) (c+64) _ _ p q (fun j=>by have:=v (j+1);grind) G ⟨g,K.weaken fun l v=>by omega,r⟩ fun H z F=>x H z ?_;have e:c+64*(l.length+1)=c+64+64*l.length:=by omega
  rw[JV,e];simpa only[C9,GX]using F
end
end Go.Vc
namespace Go.Vc
open Go.RowKit
def Wr.keys {D:Type}(W:Wr D):List Nat:=W.blks.map (·.1)
def Hq (o:Oper)(i:Nat):Bool:=o.after.toList.any fun e=>Region.binds .any e && Nat.beq e.on i
def xW (a:Array Oper):Nat->Oper->Nat->Bool
 | 0,o,i=>Hq o i
 | k+1,o,i=>Hq o i || o.after.toList.any fun e=>Region.binds .any e && (match a[e.on]? with
  | some o'=>xW a k o' i
  | none=>false)
theorem aj7 {a:Array Oper}{o:Oper}{i:Nat}(h:Hq o i=true):∀k,xW a k o i=true
 | 0=>h
 | k+1=>by simp[xW,h]
section
variable {D:Type}{P:Program}{S:Sh D}{T:TypeId->Option Ty}{Γ:FuncId->Option (Ct D)}{N:Nat->Prop}{w w':World}{w0:Bs}{blk blk':Nat->Option (Bk D)}{al:Nat->Prop}
 {a:Act} {o:Oper} {K:Act->World->Prop} {Q:Exit->Act->World->Prop} {slot gz:Nat->Sl D} {fr n:Nat} {ops:Array Oper} {W:Wr D}
theorem ajq {x y:Sl D}(h:Alike x y):x.refs=y.refs:=by
 rcases h with rfl | ⟨b,d,e⟩
 ·rfl
 ·have c:∀z:Sl D,bOf z=some b->z.refs=[]:=by
   intro z a;unfold bOf at a;split at a<;>first | rfl | cases a
  grind
theorem Eo {op:Op}(h:∀t,Alike (slot t) (gz t)):dS slot blk op=dS gz blk op:=by
 have:(fun x=>(aP slot x).refs)=fun x=>(aP gz x).refs:=by
  funext x;cases x with
  | tmp t=>exact ajq (h t)
  | _=>rfl
 unfold dS;rw[this]
theorem ZT:∀(n:Nat) (ids:List Nat) (l:Nat),l∈ids->l∈reach blk n ids
 | 0,_,_,h=>h
 | n+1,ids,l,h=>ZT n _ l ((lH _ _ _).2 (.inl h))
theorem Ea {b c:Type}{l:List b}{f a:b->List c}(h:∀x∈l,f x=a x):l.flatMap f=l.flatMap a:=by
 induction l with
 | nil=>rfl
 | cons x r d=>grind
theorem OW:∀(n:Nat) (ids:List Nat),(∀l∈reach blk n ids,blk l=blk' l)->reach blk n ids=reach blk' n ids
 | 0,_,_=>rfl
 | n+1,ids,h=>by
  have e:(ids.flatMap fun l=>match blk l with
    | some a=>a.refs
    | none=>[])=(ids.flatMap fun l=>match blk' l with
    | some a=>a.refs
    | none=>[]):=Ea fun l b=>by rw[h l (ZT (n+1) ids l b)]
  have c:∀l∈reach blk n (mZ ids (ids.flatMap fun l=>match blk l with
    | some a=>a.refs
    | none=>[])),blk l=blk' l:=h
  have r:=OW n _ c;refine Qb7 (show reach blk (n+1) ids=_ from r) ?_;rw[e];rfl
theorem Xd:∀{l:List Operand} {t:Nat},t∈xe l ↔ Operand.tmp t∈l
 | [],_=>by simp[xe]
 | x::r,t=>by cases x<;>simp[xe,Xd]
theorem ajp {a:Op}{b:Out D}(c:∀x∈a.operands.toList,aP slot x=aP gz x)(e:∀l∈dS slot blk a,blk l=blk' l)(h:Does T S Γ slot blk fr a b):Does T S Γ gz blk' fr a b:=by
 have g:ahr a slot=ahr a gz:=by
  funext t;unfold ahr;cases f:rP t (xe a.operands.toList)with
  | true=>exact c (.tmp t) (Xd.1 (fC.1 f))
  | false=>rfl
 have i:dS slot blk a=dS gz blk' a:=by
  have k:(a.operands.toList.flatMap fun x=>(aP slot x).refs)=a.operands.toList.flatMap fun x=>(aP gz x).refs:=Ea fun x d=>by rw[c x d]
  unfold dS at e⊢
  grind [OW]
 have j:nG (dS slot blk a) blk=nG (dS slot blk a) blk':=by
  funext l;unfold nG
  grind [fC]
 unfold Does axD aji at h⊢
 grind
theorem ajC (c:∀t∈o.looksAt ops,slot t=gz t)(v:∀l∈dS slot blk o.op,blk l=blk' l)(h:Ny T S Γ ops n fr slot blk o W):Ny T S Γ ops n fr gz blk' o W:=by
 have m:∀x∈o.op.operands.toList,aP slot x=aP gz x:=by
  intro x u;cases x with
  | tmp t=>
   refine c t ?_;simp only[Oper.looksAt,vO,Qc6]
   grind
  | _=>rfl
 have q:∀r,Wanted ops slot o r->Wanted ops gz o r:=by
  intro r a;unfold Wanted at a⊢;cases b:o.guard with
  | none=>grind
  | some g=>
   obtain⟨j,f⟩:=g;rw[b]at a;obtain⟨d,p,a⟩:=a;have k:slot d=gz d:=by
    refine c d ?_;simp only[Oper.looksAt,vO,b]
    grind
   grind
 obtain⟨e,i,s⟩:=h;refine⟨e,i,?_⟩
 grind [ajp]
def oI (L:Nat->Bool):Nat->(Nat->Sl D)->List (Wr D)->(Nat->Sl D)
 | _,slot,[]=>slot
 | i,slot,W::a=>oI L (i+1) (if L i then Dq slot W else slot) a
def pq (L:Nat->Bool):Nat->(Nat->Option (Bk D))->List (Wr D)->(Nat->Option (Bk D))
 | _,blk,[]=>blk
 | i,blk,W::a=>pq L (i+1) (if L i then Af blk W else blk) a
theorem Iw {t:Nat}(h:W.dst≠some t):Dq slot W t=slot t:=by
 unfold Dq;cases a:W.dst with
 | some d=>exact bM _ _ _ _ (fun e=>h (by rw[a,e]))
 | none=>rfl
theorem MS {t:Nat}(h:W.dst=some t):Dq slot W t=W.val:=by simp[Dq,h,upd_same]
theorem IE {L e:Nat->Bool}{t:Nat}:∀(b:List (Wr D)) (i:Nat) (a c:Nat->Sl D),(∀j W,b[j]? =some W->W.dst=some t->L (i+j)=e (i+j))->a t=c t->oI L i a b t=oI e i c b t
 | [],i,a,c,_,h=>h
 | W::b,i,a,c,f,h=>by
  simp only[oI];refine IE b (i+1) _ _ (fun j W' hj d=>by have:=f (j+1) W' qbb d;grind) ?_;by_cases d:W.dst=some t
  ·have:=f 0 W rfl d
   grind [MS]
  grind [Iw]
theorem Hz {L e:Nat->Bool}{t:Nat}:∀(d:List (Wr D)) (i:Nat) (b a:Nat->Option (Bk D)),(∀j W,d[j]? =some W->t∈W.keys->L (i+j)=e (i+j))->b t=a t->pq L i b d t=pq e i a d t
 | [],i,b,a,_,h=>h
 | W::d,i,b,a,f,h=>by
  simp only[pq];refine Hz d (i+1) _ _ (fun j W' hj c=>by have:=f (j+1) W' qbb c;grind) ?_;by_cases c:t∈W.keys
  ·have:=f 0 W rfl c;simp only[XE]at this;rw[this];split
   ·exact RY c
   ·exact h
  ·have g:(if L i then Af b W else b) t=b t:=by split<;>first | exact oq c | rfl
   have k:(if e i then Af a W else a) t=a t:=by split<;>first | exact oq c | rfl
   grind
theorem Gn {L:Nat->Bool}{t:Nat}(c:List (Wr D))(i:Nat)(a:Nat->Sl D)(h:∀j W,c[j]? =some W->W.dst=some t->L (i+j)=false):oI L i a c t=a t:=by
 induction c generalizing i a with
 | nil=>rfl
 | cons W c d=>
  simp only[oI];rw[d (i+1) _ fun j W' hj b=>by have:=h (j+1) W' qbb b;grind];by_cases b:W.dst=some t
  ·have:=h 0 W rfl b
   grind
  ·split<;>first | exact Iw b | rfl
theorem E8 {L:Nat->Bool}{t:Nat}(c:List (Wr D))(i:Nat)(a:Nat->Option (Bk D))(h:∀j W,c[j]? =some W->t∈W.keys->L (i+j)=false):pq L i a c t=a t:=by
 induction c generalizing i a with
 | nil=>rfl
 | cons W c d=>
  simp only[pq];rw[d (i+1) _ fun j W' hj b=>by have:=h (j+1) W' qbb b;grind];by_cases b:t∈W.keys
  ·have:=h 0 W rfl b
   grind
  ·split<;>first | exact oq b | rfl
theorem Yd {L:Nat->Bool}{t:Nat}:∀(c:List (Wr D)) (b i:Nat) (a:Nat->Sl D) (W:Wr D),c[i]? =some W->L (b+i)=true->W.dst=some t->(∀j d,i < j->c[j]? =some d->d.dst=some t->L (b+j)=false)->oI L b a c t=W.val
 | [],b,i,a,W,h,_,_,_=>by simp at h
 | V::c,b,0,a,W,h,l,g,f=>by
  simp only[Qcf,XM]at h;subst h;simp only[oI];rw[Gn c (b+1) _ fun j d hj e=>by have:=f (j+1) d aj qbb e;grind]
  grind [MS]
 | V::c,b,i+1,a,W,h,l,g,f=>by
  simp only[oI];exact Yd c (b+1) i _ W qa4 dm g fun j d hj k e=>by have:=f (j+1) d aj (by simpa using k) e;grind
theorem Y_ {L:Nat->Bool}{t:Nat}:∀(c:List (Wr D)) (b i:Nat) (d a:Nat->Option (Bk D)) (W:Wr D),c[i]? =some W->L (b+i)=true->t∈W.keys->(∀j e,i < j->c[j]? =some e->t∈e.keys->L (b+j)=false)->pq L b d c t=Af a W t
 | [],b,i,d,a,W,h,_,_,_=>by simp at h
 | V::c,b,0,d,a,W,h,l,g,k=>by
  simp only[Qcf,XM]at h;subst h;simp only[pq];rw[E8 c (b+1) _ fun j e hj f=>by have:=k (j+1) e aj qbb f;grind];simp only[XE]at l;rw[l];exact RY g
 | V::c,b,i+1,d,a,W,h,l,g,k=>by
  simp only[pq];exact Y_ c (b+1) i _ a W qa4 dm g fun j e hj m f=>by have:=k (j+1) e aj (by simpa using m) f;grind
theorem aeu {L:Nat->Bool}:∀(c:List (Wr D)) (b:Nat) (a:Nat->Sl D),(∀j,j < c.length->L (b+j)=true)->oI L b a c=C9 a c
 | [],_,_,_=>rfl
 | W::c,b,a,h=>by
  have d:=h 0 jQ;simp only[XE]at d;simp only[oI,d,if_true,C9];exact aeu c (b+1) _ fun j hj=>by have:=h (j+1) qbb;grind
theorem adw {L:Nat->Bool}:∀(a:List (Wr D)) (b:Nat) (c:Nat->Option (Bk D)),(∀j,j < a.length->L (b+j)=true)->pq L b c a=GX c a
 | [],_,_,_=>rfl
 | W::a,b,c,h=>by
  have d:=h 0 jQ;simp only[XE]at d;simp only[pq,d,if_true,GX];exact adw a (b+1) _ fun j hj=>by have:=h (j+1) qbb;grind
theorem Ug:∀(l:List Oper) (d:List (Wr D)) (b i e:Nat) (a:Nat->Sl D) (c:Nat->Option (Bk D)) (o:Oper),Trace T S Γ ops n e a c l d->l[i]? =some o->
  ∃W,d[i]? =some W/\∃k,(∀t,Alike (oI (fun j=>decide (j < b+i)) b a d t) (k t))/\Ny T S Γ ops n (e+64*i) k (pq (fun j=>decide (j < b+i)) b c d) o W
 | [],_,_,i,_,_,_,_,_,h=>by simp at h
 | _::_,[],_,_,_,_,_,_,f,_=>by simp[Trace]at f
 | o'::l,W::d,b,0,e,a,c,o,f,h=>by
  simp only[Qcf,XM]at h;subst h;refine⟨W,rfl,?_⟩;have m:oI (fun j=>decide (j < b+0)) b a (W::d)=a:=by
   grind [Gn]
  have p:pq (fun j=>decide (j < b+0)) b c (W::d)=c:=by
   grind [E8]
  rw[m,p];exact f.1
 | o'::l,W::d,b,i+1,e,a,c,o,f,h=>by
  obtain⟨W',g,r⟩:=Ug l d (b+1) i (e+64) _ _ o f.2 qa4;refine⟨W',by simpa using g,?_⟩;have q:decide (b < b+(i+1))=true:=by simp
  simp only[oI,pq,q,if_true]
  grind
theorem JZ:∀(l:List Oper) (a:List (Wr D)) (c:Nat) (b:Nat->Sl D) (d:Nat->Option (Bk D)),Trace T S Γ ops n c b d l a->a.length=l.length
 | [],[],_,_,_,_=>rfl
 | [],_::_,_,_,_,h=>by simp[Trace]at h
 | _::_,[],_,_,_,h=>by simp[Trace]at h
 | _::l,_::a,c,_,_,h=>by simp[JZ l a _ _ _ h.2]
end
end Go.Vc
namespace Go.Vc
open Go.RowKit
def yY (a:Array Oper):Bool:=
 (List.range a.size).all fun j=>
  match a[j]? with
  | none=>true
  | some b=>(b.after.toList.all fun e=> !Region.binds .any e || Nat.blt e.on j) && (List.range j).all fun i=>
   match a[i]? with
   | none=>true
   | some c=>Oper.apart a c b || Hq b i
section
variable {D:Type}{P:Program}{S:Sh D}{T:TypeId->Option Ty}{Γ:FuncId->Option (Ct D)}{N:Nat->Prop}{w w':World}{w0:Bs}{g0:Nat->Option Value}{blk blk':Nat->Option (Bk D)}{al:Nat->Prop}
 {a:Act} {o:Oper} {K:Act->World->Prop} {Q:Exit->Act->World->Prop} {slot gz:Nat->Sl D} {fr n:Nat} {ops:Array Oper} {W:Wr D} {Ws:List (Wr D)}
theorem abl (h:yY ops=true){j:Nat}{a:Oper}(c:ops[j]? =some a):∀e∈a.after.toList,Region.binds .any e=true->e.on < j:=by
 intro e d f;have b:j < ops.size:=(Array.getElem?_eq_some_iff.1 c).1;have:=Qb.1 h j (Qcd.2 b);simp only[c,iZ]at this;have:=Qb.1 this.1 e d;simp_all
theorem Et (h:yY ops=true){i j:Nat}{c a:Oper}(e:i < j)(f:ops[i]? =some c)(d:ops[j]? =some a):Oper.apart ops c a=true\/Hq a i=true:=by
 have b:j < ops.size:=(Array.getElem?_eq_some_iff.1 d).1;have:=Qb.1 h j (Qcd.2 b)
 grind
def Lm (a:Nat->Sl D)(d:Nat->Option (Bk D))(c:List (Wr D))(b:Array Oper)(i:Nat):List Nat:=
 match b[i]? with
 | some o=>dS (oI (fun j=>decide (j < i)) 0 a c) (pq (fun j=>decide (j < i)) 0 d c) o.op
 | none=>[]
def atV (b:Nat->Sl D)(d:Nat->Option (Bk D))(c:List (Wr D))(a:Array Oper):Prop:=
 ∀i j g e f l,i < j->a[j]? =some g->c[i]? =some e->c[j]? =some f->((l∈f.keys/\(l∈Lm b d c a i\/l∈e.keys))\/(l∈Lm b d c a j/\l∈e.keys))->xW a 3 g i=true
theorem YG {o:Oper}{i:Nat}(h:Hq o i=true):∃e∈o.after.toList,Region.binds .any e=true/\e.on=i:=by
 simp only[Hq,Qbs,iZ]at h;simp_all
theorem Ir {a:Array Bool}(c:∀i o,ops[i]? =some o->a.getD i false=true->∀e∈o.after.toList,Region.binds .any e=true->a.getD e.on false=true):
  ∀(k:Nat) (o:Oper) (i:Nat),(∀e∈o.after.toList,Region.binds .any e=true->a.getD e.on false=true)->xW ops k o i=true->a.getD i false=true
 | 0,o,i,b,h=>by
  obtain⟨e,g,j,rfl⟩:=YG h
  grind
 | k+1,o,i,b,h=>by
  simp only[xW,Qbi,Qbs,iZ]at h;rcases h with h | ⟨e,g,j,d⟩
  ·grind [YG]
  ·split at d
   ·rename_i o' f;exact Ir c k o' i (c e.on o' f (b e g j)) d
   ·cases d
theorem UE {a:Array Bool}(f:a.size=ops.size){i:Nat}(h:i∈Region.ready .any ops a):
  ∃o,ops[i]? =some o/\a.getD i false=false/\i < ops.size/\∀e∈o.after.toList,Region.binds .any e=true->a.getD e.on false=true:=by
 simp only[Region.ready,Qbb,Qcd,iZ]at h;obtain⟨c,g,b⟩:=h;cases d:ops[i]? with
 | none=>grind
 | some o=>
  rw[d]at b;simp only[Qbm,Qdg]at b;refine⟨o,rfl,?_,c,fun e j k=> ?_⟩
  ·grind
  ·rw[Array.all_eq_true_iff_forall_mem]at b
   grind
theorem ready_nil {a:Array Bool}(c:a.size=ops.size)(e:yY ops=true)(h:Region.ready .any ops a=[]):∀j,j < ops.size->a.getD j false=true:=by
 intro j;induction j using Nat.strongRecOn with
 | _ j g=>
  intro b;cases i:a.getD j false with
  | true=>rfl
  | false=>
   exfalso;have f:ops[j]? =some ops[j]:=by simp[b]
   have d:j∈Region.ready .any ops a:=by
    simp only[Region.ready,Qbb,Qcd,iZ]
    grind [abl]
   grind
theorem ayE (hTy:∀t ty,T t=some ty->TyOk P t ty)(hΓ:∀f ct,Γ f=some ct->CtOk P S f ct)(hS:ShOk S)(hd:yY ops=true)(Z:Trace T S Γ ops n fr slot blk ops.toList Ws)(L:atV slot blk Ws ops)
  (hQ:∀a w,Holds S w0 g0 N n (C9 slot Ws) (GX blk Ws) (· < fr+64*ops.size) a w->Q .normal a w):
  ∀(A:Nat) (b:Array Bool) (a:Act) (w:World),b.size=ops.size->(∀i o,ops[i]? =some o->b.getD i false=true->∀e∈o.after.toList,Region.binds .any e=true->b.getD e.on false=true)->
   b.toList.count false<=A->Holds S w0 g0 N n (oI (fun j=>b.getD j false) 0 slot Ws) (pq (fun j=>b.getD j false) 0 blk Ws) (fun l=>l < fr\/∃j,b.getD j false=true/\fr+64*j<=l/\l < fr+64*j+64) a w->
   wpAny P .any ops Q A b a w:=by
 have hlen:Ws.length=ops.size:=by simpa using JZ _ _ _ _ _ Z
 have hWs:∀(j:Nat) (c:Wr D),Ws[j]? =some c->∃p:Oper,ops[j]? =some p/\c.dst=p.dst:=by
  intro j c d;have R:j < ops.size:=by grind
  obtain⟨W',O,_,_,M⟩:=Ug ops.toList Ws 0 j fr slot blk ops[j] Z (by simp[R]);rw[d]at O;injection O with O
  subst O;exact⟨ops[j],by simp[R],M.1⟩
 have fin:∀(b:Array Bool) (a:Act) (w:World),b.size=ops.size->Region.ready .any ops b=[]->Holds S w0 g0 N n (oI (fun j=>b.getD j false) 0 slot Ws) (pq (fun j=>b.getD j false) 0 blk Ws) (fun l=>l < fr\/∃j,b.getD j false=true/\fr+64*j<=l/\l < fr+64*j+64) a w->Q .normal a w:=by
  intro b a w x B h;have hall:=ready_nil x hd B;rw[aeu Ws 0 slot fun j d=>by grind,adw Ws 0 blk fun j d=>by grind]at h;obtain⟨g,hp,F⟩:=h;refine hQ a w ⟨g,hp.weaken ?_,F⟩
  grind
 intro A;induction A with
 | zero=>
  intro b a w x K hcnt h;have B:Region.ready .any ops b=[]:=by
   cases hx:Region.ready .any ops b with
   | nil=>rfl
   | cons i rs=>
    exfalso;obtain⟨o,V,hf,R,_⟩:=UE x (show i∈Region.ready .any ops b by rw[hx];simp);have X:i < b.size:=by omega
    have aJK:false∈b.toList:=by
     have:b[i]=false:=by simp_all
     grind
    grind
  exact⟨B,fin b a w x B h⟩
 | succ A ih=>
  intro b a w x K hcnt h;refine⟨fun B=>fin b a w x B h,fun i hi=> ?_⟩;obtain⟨C,s,hli,hilt,hed⟩:=UE x hi;obtain⟨y,E,aCS,heI,M⟩:=Ug ops.toList Ws 0 i fr slot blk C Z (by simpa using s);simp only[Bc]at M heI;have aa:i < b.size:=by omega
  have z:∀j c p,Ws[j]? =some c->ops[j]? =some p->(j < i->xW ops 3 C j=true)->(i < j->xW ops 3 p i=true)->b.getD j false=decide (j < i):=by
   intro j c p d q h1 h2;rcases Nat.lt_trichotomy j i with k | rfl | k
   ·rw[Ir K 3 C j hed (h1 k)];simp[k]
   ·rw[hli];simp
   ·have hn:¬j < i:=by omega
    simp only[hn,decide_false];cases hb:b.getD j false with
    | false=>rfl
    | true=>
     have:=Ir K 3 p i (K j p q hb) (h2 k)
     grind
  have Y:∀(j:Nat) (c:Wr D) (p:Oper) (t:Nat),Ws[j]? =some c->ops[j]? =some p->c.dst=some t->p.dst=some t:=by
   grind
  have G:∀j c,Ws[j]? =some c->∃p,ops[j]? =some p:=fun j c d=>by obtain⟨o',ho',_⟩:=hWs j c d;exact⟨o',ho'⟩
  have agV:∀t∈C.looksAt ops,oI (fun j=>decide (j < i)) 0 slot Ws t=oI (fun j=>b.getD j false) 0 slot Ws t:=by
   intro t ht;refine IE Ws 0 slot slot (fun j c d v=> ?_) rfl;obtain⟨p,q⟩:=G j c d;have J:=Y j c p t d q v;simp only[Bc];refine(z j c p d q (fun k=> ?_) (fun u=> ?_)).symm
   ·rcases Et hd k q s with I | H
    ·exact absurd ht ((Oper.apart_spec I).1 t J)
    ·exact aj7 H 3
   ·rcases Et hd u s q with I | H
    ·exact absurd ht ((Oper.apart_spec I).2.2 t J)
    ·exact aj7 H 3
  have hrd:Lm slot blk Ws ops i=dS (oI (fun j=>decide (j < i)) 0 slot Ws) (pq (fun j=>decide (j < i)) 0 blk Ws) C.op:=by simp[Lm,s]
  have hblk:∀l∈dS (oI (fun j=>decide (j < i)) 0 slot Ws) (pq (fun j=>decide (j < i)) 0 blk Ws) C.op,pq (fun j=>decide (j < i)) 0 blk Ws l=pq (fun j=>b.getD j false) 0 blk Ws l:=by
   intro l X;refine Hz Ws 0 blk blk (fun j c d U=> ?_) rfl;obtain⟨p,q⟩:=G j c d;simp only[Bc];exact(z j c p d q (fun k=>L j i C c y l k s d E (.inr ⟨by grind,U⟩)) (fun u=>L i j p y c l u q E d (.inl ⟨U, .inl dm⟩))).symm
  have hst':=ajC (gz:=fun t=>if t∈C.looksAt ops then aCS t else oI (fun j=>b.getD j false) 0 slot Ws t) (fun t ht=>by grind) (fun l X=>hblk l (by rw[Eo heI];exact X)) M;have heL:∀t,Alike (oI (fun j=>b.getD j false) 0 slot Ws t) (if t∈C.looksAt ops then aCS t else oI (fun j=>b.getD j false) 0 slot Ws t):=by
   grind [Alike.refl]
  refine TA hTy hΓ hS s (h.alike heL) ?_ hst' fun a' w' h'=> ?_
  ·rintro m hm1 hm2 (R | ⟨j,d,H⟩)
   ·omega
   grind
  ·
   have h':=h'.alike (xR (W:=y) fun t=>(heL t).symm);have r:∀j,(b.setIfInBounds i true).getD j false=(if j=i then true else b.getD j false):=by
    intro j;by_cases k:j=i
    ·subst k;simp[Array.getD,aa]
    ·simp only[k,if_false,Array.getD];by_cases hjl:j < b.size
     ·have u:¬i=j:=fun e=>k e.symm
      simp[hjl,u]
     ·simp[hjl]
   have e1:Dq (oI (fun j=>b.getD j false) 0 slot Ws) y=oI (fun j=>(b.setIfInBounds i true).getD j false) 0 slot Ws:=by
    funext t;by_cases v:y.dst=some t
    ·rw[MS v];refine(Yd Ws 0 i slot y E (by simp[r]) v fun j c u d J=> ?_).symm;obtain⟨p,q⟩:=G j c d;simp only[Bc,r,show j≠i by omega,if_false];have:=z j c p d q (fun h=>by omega) (fun _=>by
      rcases Et hd u s q with I | H
      ·exact absurd (Y j c p t d q J) ((Oper.apart_spec I).2.1 t (Y i y C t E s v))
      ·exact aj7 H 3)
     grind
    ·rw[Iw v];refine IE Ws 0 slot slot (fun j c d J=> ?_) rfl;have k:j≠i:=by
      grind
     grind
   have e2:Af (pq (fun j=>b.getD j false) 0 blk Ws) y=pq (fun j=>(b.setIfInBounds i true).getD j false) 0 blk Ws:=by
    funext t;by_cases U:t∈y.keys
    ·refine(Y_ Ws 0 i blk _ y E (by simp[r]) U fun j c u d hkj=> ?_).symm;obtain⟨p,q⟩:=G j c d;simp only[Bc,r,show j≠i by omega,if_false];have:=z j c p d q (fun h=>by omega) (fun _=>L i j p y c t u q E d (.inl ⟨hkj, .inr U⟩))
     grind
    ·rw[show Af (pq (fun j=>b.getD j false) 0 blk Ws) y t=pq (fun j=>b.getD j false) 0 blk Ws t from oq U];refine Hz Ws 0 blk blk (fun j c d hkj=> ?_) rfl;have k:j≠i:=by
      grind
     grind
   rw[e1,e2]at h';refine ih _ a' w' (by simp[x]) ?_ ?_ ?_
   ·intro j o V d e H hb;rw[r]at d⊢;by_cases k:j=i
    ·subst k;rw[s]at V;injection V with V
     subst V;have:=hed e H hb;split<;>simp_all
    ·rw[uU k]at d;have:=K j o V d e H hb;split<;>simp_all
   ·have hx:b.toList[i]'(by simpa using aa)=false:=by simpa[Array.getD,aa]using hli
    grind
   ·obtain⟨g,hp,F⟩:=h';refine⟨g,hp.weaken ?_,F⟩;rintro l ((X | ⟨j,d,B⟩) | B)
    ·exact .inl X
    ·exact .inr ⟨j,by rw[r];split<;>simp_all,B⟩
    ·exact .inr ⟨i,by simp[r],B⟩
theorem aeg {id:Nat}(I:P.follows .mixedOrders=true)(d:∀t q,T t=some q->TyOk P t q)(r:∀f k,Γ f=some k->CtOk P S f k)(x:ShOk S)(y:yY ops=true)(m:Trace T S Γ ops n fr slot blk ops.toList Ws)(c:atV slot blk Ws ops)
  (h:Holds S w0 g0 N n slot blk (· < fr) a w) (G:∀a w,Holds S w0 g0 N n (C9 slot Ws) (GX blk Ws) (· < fr+64*ops.size) a w->Q .normal a w):(Code.region id ops true).wp P Q a w:=by
 refine wp_region_any I (ayE d r x y m c G ops.size _ a _ jQ ?_ jQ ?_)
 ·intro i o _ s;exfalso;by_cases b:i < ops.size
  ·simp[Array.getD,b]at s
  ·simp[Array.getD,b]at s
 ·have e:∀j,(Array.replicate ops.size false).getD j false=false:=by
   intro j;by_cases b:j < ops.size<;>simp[Array.getD,b]
  have A:oI (fun j=>(Array.replicate ops.size false).getD j false) 0 slot Ws=slot:=by
   funext t;exact Gn _ _ _ fun j W _ _=>e _
  have H:pq (fun j=>(Array.replicate ops.size false).getD j false) 0 blk Ws=blk:=by
   funext t;exact E8 _ _ _ fun j W _ _=>e _
  rw[A,H];obtain⟨g,B,E,F,u,p⟩:=h;have C:Below w.heap.size w {w with drawn:=w.drawn+1}:=⟨rfl,rfl,rfl,pJ _,fun _ _=>rfl⟩;obtain⟨v,D⟩:=B.grow C;exact⟨g,v.weaken fun l z=> .inl z,fun t=>(E t).keep D (More.refl _),F,u,p⟩
end
end Go.Vc
namespace Go.Vc
open Go.RowKit
structure Alg (τ:Type 1) where
 stuck:τ
 ob:DP->τ->τ
 br:Bool->τ->τ->τ
structure Ha {τ:Type 1}(A:Alg τ)(den:τ->Prop):Prop where
 stuck:¬den A.stuck
 ob:∀{p k},den (A.ob p k)->p.p/\den k
 br:∀{b t e},den (A.br b t e)->(b=true->den t)/\(b=false->den e)
def Alg.opt {a:Type 1}(A:Alg a)(p:Option DP)(k:a):a:=
 match p with
 | none=>k
 | some p=>A.ob p k
theorem Ha.opt {b:Type 1}{A:Alg b}{a:b->Prop}(c:Ha A a){p:Option DP}{k:b}(h:a (A.opt p k)):lG p/\a k:=by
 cases p with
 | none=>exact⟨trivial,h⟩
 | some p=>exact c.ob h
def look {a:Type}(d:a):List (Nat×a)->Nat->a
 | [],_=>d
 | (k,v)::r,n=>if Nat.beq n k then v else look d r n
theorem zU {a:Type}(d:a)(k:Nat)(v:a)(r:List (Nat×a)):look d ((k,v)::r)=upd (look d r) k v:=by
 funext n;simp only[look,upd];simp_all
theorem agb {b:Type}(d:b):∀(a l:List (Nat×b)),look d (a.reverse++l)=jc (look d l) a
 | [],l=>rfl
 | (k,v)::a,l=>by
  rw[List.reverse_cons,Yt,List.singleton_append,agb d a,zU];rfl
structure St (D:Type) where
 tmps:List (Nat×Sl D)
 blks:List (Nat×Option (Bk D))
 next:Nat
def St.slot {D:Type}(s:St D):Nat->Sl D:=look (.one (.lf .any)) s.tmps
def St.blk {D:Type}(s:St D):Nat->Option (Bk D):=look none s.blks
def St.put {D:Type}(s:St D)(a:Option Nat)(v:Sl D)(b:List (Nat×Option (Bk D))):St D:=
 match a with
 | some d=>⟨(d,v)::s.tmps,b.reverse++s.blks,s.next⟩
 | none=>⟨s.tmps,b.reverse++s.blks,s.next⟩
theorem Aj {D:Type}(s:St D)(a:Option Nat)(v:Sl D)(b:List (Nat×Option (Bk D))):(s.put a v b).slot=Dq s.slot ⟨a,v,b⟩:=by
 cases a with
 | none=>rfl
 | some d=>exact zU _ _ _ _
theorem Ff {D:Type}(s:St D)(a:Option Nat)(v:Sl D)(b:List (Nat×Option (Bk D))):(s.put a v b).blk=Af s.blk ⟨a,v,b⟩:=by
 cases a<;>exact agb _ _ _
theorem ry {D:Type}(s:St D)(a:Option Nat)(v:Sl D)(b:List (Nat×Option (Bk D))):(s.put a v b).next=s.next:=by
 cases a<;>rfl
theorem aAS {D:Type}{s:St D}{b:Option Nat}{v:Sl D}{d a x:List (Nat×Option (Bk D))}(h:x=a++(s.put b v d).blks):∃c,x=c++s.blks:=by
 cases b<;>exact⟨a++d.reverse,by rw[h];simp[St.put]⟩
theorem aoD {D:Type}{s:St D}{a:Option Nat}{v:Sl D}{b:List (Nat×Option (Bk D))}{t:Nat}(h:a≠some t):(s.put a v b).slot t=s.slot t:=by
 cases a with
 | none=>rfl
 | some d=>
  show look _ _ t=look _ _ t
  rw[show(s.put (some d) v b).tmps=(d,v)::s.tmps from rfl,zU];exact bM _ _ _ _ fun e=>h (by rw[e])
structure Rep (D σ:Type) where
 st:σ->St D
 slot:σ->Nat->Sl D
 blk:σ->Nat->Option (Bk D)
 put:σ->Option Nat->Sl D->List (Nat×Option (Bk D))->Option σ
 skip:σ->Nat->σ
 ok:σ->Prop
structure aal {D σ:Type}(R:Rep D σ):Prop where
 slot:∀{s},R.ok s->R.slot s=(R.st s).slot
 blk:∀{s},R.ok s->R.blk s=(R.st s).blk
 put:∀{s s' d v bs},R.ok s->R.put s d v bs=some s'->R.ok s'/\R.st s'=(R.st s).put d v bs
 skip:∀{s n},R.ok s->R.ok (R.skip s n)/\R.st (R.skip s n)=⟨(R.st s).tmps,(R.st s).blks,(R.st s).next+n⟩
def aBv {D:Type}:Rep D (St D):=⟨fun s=>s,St.slot,St.blk,fun s d v a=>some (s.put d v a),fun s n=>⟨s.tmps,s.blks,s.next+n⟩,fun _=>True⟩
theorem auO {D:Type}:aal (aBv (D:=D)):=⟨fun _=>rfl,fun _=>rfl,fun _ h=>by injection h with h;exact⟨trivial,h.symm⟩,fun _=>⟨trivial,rfl⟩⟩
def meets (a b:List Nat):Bool:=a.any fun x=>b.any fun y=>Nat.beq x y
def aDd (a:Array Oper)(b:List (Nat×List Nat×List Nat))(o:Oper)(d c:List Nat):Bool:=
 b.any fun p=>(meets c p.2.1 || meets c p.2.2 || meets d p.2.2) && !xW a 3 o p.1
def Zz (n:Nat):Option Nat->Bool
 | none=>true
 | some d=>Nat.blt d n
section
variable {D σ:Type}{τ:Type 1}
abbrev Acc:=List (Nat×List Nat×List Nat)
def aoc (R:Rep D σ)(A:Alg τ)(s:σ)(d:Option Nat)(v:Sl D)(a:List (Nat×Option (Bk D)))(k:σ->τ):τ:=
 match R.put s d v a with
 | none=>A.stuck
 | some s=>k s
def stepW (R:Rep D σ)(A:Alg τ)(d:Array Oper)(c:Bool)(o:Oper)(i:Nat)(b:Acc)(s:σ)(a:Out D)(k:Acc->σ->τ):τ:=
 match c with
 | false=>A.opt a.pre (aoc R A s o.dst a.val a.blks (k b))
 | true=>
  match aDd d b o (dS (R.slot s) (R.blk s) o.op) (a.blks.map (·.1))with
  | true=>A.stuck
  | false=>A.opt a.pre (aoc R A s o.dst a.val a.blks (k ((i,dS (R.slot s) (R.blk s) o.op,a.blks.map (·.1))::b)))
def ZQ (R:Rep D σ)(A:Alg τ)(T:TypeId->Option Ty)(S:Sh D)(h:FuncId->Option (Ct D))(c:Array Oper)(a:Bool)(o:Oper)(i:Nat)(d:Acc)(s:σ)(k:Acc->σ->τ):τ:=
 match aji (R.slot s) (R.blk s) o.op with
 | some (b,g,f)=>A.br b (stepW R A c a o i d s g k) (stepW R A c a o i d s f k)
 | none=>
  match axD T S h (R.slot s) (R.blk s) ((R.st s).next+64*i) o.op with
  | none=>A.stuck
  | some e=>stepW R A c a o i d s e k
def ad4 (R:Rep D σ)(A:Alg τ)(b:Array Oper)(a:Bool)(o:Oper)(i:Nat)(c:Acc)(s:σ)(k:Acc->σ->τ):τ:=stepW R A b a o i c s ⟨none, .one (.lf (.val undef)),[]⟩ k
def ad1 (R:Rep D σ)(A:Alg τ)(s:σ)(d:Nat)(b:Bool)(k:σ->τ):τ:=aoc R A s (some d) (.one (.lf (.val (.bool b)))) [] k
def mi (R:Rep D σ)(A:Alg τ)(T:TypeId->Option Ty)(S:Sh D)(f:FuncId->Option (Ct D))(e:Array Oper)(n:Nat)(c:Bool):List Oper->Nat->Acc->σ->(σ->τ)->τ
 | [],i,_,s,K=>K (R.skip s (64*i))
 | o::r,i,a,s,K=>
  match Zz n o.dst with
  | false=>A.stuck
  | true=>
   match o.guard with
   | none=>ZQ R A T S f e c o i a s fun a s=>mi R A T S f e n c r (i+1) a s K
   | some (j,g)=>
    match(e[j]?).bind (·.dst)with
    | none=>A.stuck
    | some d=>
     match R.slot s d with
     | .one (.lf (.bool b))=>
      match g with
      | true=>A.br b (ad1 R A s d true fun s=>ZQ R A T S f e c o i a s fun a s=>mi R A T S f e n c r (i+1) a s K) (ad1 R A s d false fun s=>ad4 R A e c o i a s fun a s=>mi R A T S f e n c r (i+1) a s K)
      | false=>A.br b (ad1 R A s d true fun s=>ad4 R A e c o i a s fun a s=>mi R A T S f e n c r (i+1) a s K) (ad1 R A s d false fun s=>ZQ R A T S f e c o i a s fun a s=>mi R A T S f e n c r (i+1) a s K)
     | .one (.lf (.val (.bool b)))=>
      match b==g with
      | true=>ZQ R A T S f e c o i a s fun a s=>mi R A T S f e n c r (i+1) a s K
      | false=>ad4 R A e c o i a s fun a s=>mi R A T S f e n c r (i+1) a s K
     | .one (.lf (.val v))=>
      match RN v with
      | true=>ad4 R A e c o i a s fun a s=>mi R A T S f e n c r (i+1) a s K
      | false=>A.stuck
     | _=>A.stuck
end
section
variable {D:Type}{P:Program}{S:Sh D}{T:TypeId->Option Ty}{Γ:FuncId->Option (Ct D)}{N:Nat->Prop}{w w':World}{w0:Bs}{n:Nat}{ops:Array Oper}{τ:Type 1}{A:Alg τ}{den:τ->Prop}{σ:Type}{R:Rep D σ}
def ae3 (p:List Nat×List Nat)(b a:List Nat):Prop:=∃l,(l∈a/\(l∈p.1\/l∈p.2))\/(l∈b/\l∈p.2)
theorem awf {a b:List Nat}{l:Nat}(c:l∈a)(d:l∈b):meets a b=true:=by
 simp only[meets,Qbs];exact⟨l,c,l,d,by simp⟩
theorem aAB {a:Acc}{o:Oper}{b c:List Nat}(h:¬aDd ops a o b c=true):∀p∈a,ae3 p.2 b c->xW ops 3 o p.1=true:=by
 intro p f ⟨l,d⟩;cases e:xW ops 3 o p.1 with
 | true=>rfl
 | false=>
  exfalso;apply h;simp only[aDd,Qbs,iZ,Qbi]
  grind [awf]
def ait (a:Array Oper):Acc->Nat->(Nat->Sl D)->(Nat->Option (Bk D))->List Oper->List (Wr D)->Prop
 | _,_,_,_,[],_=>True
 | _,_,_,_,_::_,[]=>True
 | b,i,slot,blk,o::r,W::c=>(∀p∈b,ae3 p.2 (dS slot blk o.op) W.keys->xW a 3 o p.1=true)/\ait a ((i,dS slot blk o.op,W.keys)::b) (i+1) (Dq slot W) (Af blk W) r c
def GM (R:Rep D σ)(g:τ->Prop)(T:TypeId->Option Ty)(S:Sh D)(h:FuncId->Option (Ct D))(b:Array Oper)(n:Nat)(d:Bool)(l:List Oper)(i:Nat)(e:Acc)(s:St D)(K:σ->τ):Prop:=
 ∃c a,Trace T S h b n (s.next+64*i) s.slot s.blk l c/\(∀t,Alike (C9 s.slot c t) ((R.st a).slot t))/\(R.st a).blk=GX s.blk c/\(R.st a).next=s.next+64*(i+l.length)/\(R.ok a/\g (K a))/\(d=true->ait b e i s.slot s.blk l c)/\
  (∃f,(R.st a).blks=f++s.blks)/\∀t,(∀o∈b.toList,o.dst≠some t)->(∀o∈l,o.dst≠some t)->(R.st a).slot t=s.slot t
theorem PK:∀(l:List Oper) (d:List (Wr D)) (c:Nat) (a e:Nat->Sl D) (b:Nat->Option (Bk D)),(∀t,Alike (a t) (e t))->Trace T S Γ ops n c a b l d->Trace T S Γ ops n c e b l d
 | [],[],_,_,_,_,_,_=>trivial
 | [],_::_,_,_,_,_,_,h=>by simp[Trace]at h
 | _::_,[],_,_,_,_,_,h=>by simp[Trace]at h
 | o::l,W::d,c,a,e,b,g,⟨⟨j,i,f⟩,k⟩=>⟨⟨j,fun t=>(g t).symm.trans (i t),f⟩,PK l d (c+64) _ _ _ (xR g) k⟩
theorem PI:∀(b:List (Wr D)) (a c:Nat->Sl D),(∀t,Alike (a t) (c t))->∀t,Alike (C9 a b t) (C9 c b t)
 | [],_,_,h,t=>h t
 | W::b,_,_,h,t=>PI b _ _ (xR h) t
theorem VT:∀(l:List Oper) (c:List (Wr D)) (b:Acc) (i:Nat) (a d:Nat->Sl D) (blk:Nat->Option (Bk D)),(∀t,Alike (a t) (d t))->ait ops b i a blk l c->ait ops b i d blk l c
 | [],_,_,_,_,_,_,_,_=>trivial
 | _::_,[],_,_,_,_,_,_,_=>trivial
 | o::l,W::c,b,i,a,d,blk,f,h=>by
  have e:=Eo (op:=o.op) (blk:=blk) f;simp only[ait]at h⊢;rw[e]at h;exact⟨h.1,VT l c _ _ _ _ _ (xR f) h.2⟩
theorem Z4 (c:Ha A den){s:σ}{d:Option Nat}{v:Sl D}{a:List (Nat×Option (Bk D))}{k:σ->τ}(h:den (aoc R A s d v a k)):∃b,R.put s d v a=some b/\den (k b):=by
 unfold aoc at h
 grind [Ha.stuck]
theorem PQ {c:Bool}{o:Oper}{r:List Oper}{i:Nat}{b:Acc}{s:σ}{K:σ->τ}{a:Out D}(j:Ha A den)(v:aal R)(x:R.ok s)(U:Zz n o.dst=true)
  (E:lG a.pre->Ny T S Γ ops n ((R.st s).next+64*i) (R.st s).slot (R.st s).blk o ⟨o.dst,a.val,a.blks⟩)
  (H:∀b s,R.ok s->den (mi R A T S Γ ops n c r (i+1) b s K)->GM R den T S Γ ops n c r (i+1) b (R.st s) K)
  (h:den (stepW R A ops c o i b s a fun b s=>mi R A T S Γ ops n c r (i+1) b s K)):GM R den T S Γ ops n c (o::r) i b (R.st s) K:=by
 have F:∀d,lG a.pre->den (aoc R A s o.dst a.val a.blks fun s=>mi R A T S Γ ops n c r (i+1) d s K)->(c=true->d=(i,dS (R.st s).slot (R.st s).blk o.op,a.blks.map (·.1))::b/\∀p∈b,ae3 p.2 (dS (R.st s).slot (R.st s).blk o.op) (a.blks.map (·.1))->xW ops 3 o p.1=true)->
   GM R den T S Γ ops n c (o::r) i b (R.st s) K:=by
  intro d g f u;obtain⟨P,z,f⟩:=Z4 j f;obtain⟨y,J⟩:=v.put x z;obtain⟨L,O,l,q,w,C,I,m,⟨Q,B⟩,G⟩:=H d P y f;rw[J]at l q w C m B G;rw[Aj,Ff,ry]at l;rw[Aj]at q;rw[Ff]at w;rw[ry]at C;rw[Aj,Ff]at m;refine⟨⟨o.dst,a.val,a.blks⟩::L,O,⟨⟨(R.st s).slot,fun _=>Alike.refl _,E g⟩,?_⟩,q,w,by grind,I,fun k=> ?_,aAS B,fun t W V=> ?_⟩
  ·omega
  ·obtain⟨e,N⟩:=u k;subst e;exact⟨N,m k⟩
  grind [aoD]
 unfold stepW at h;rw[v.slot x,v.blk x]at h;split at h
 ·obtain⟨g,f⟩:=j.opt h;exact F b g f (fun e=>by cases e)
 ·split at h
  ·exact(j.stuck h).elim
  ·rename_i M;obtain⟨g,f⟩:=j.opt h;exact F _ g f (fun _=>⟨rfl,aAB (by rw[M];simp)⟩)
theorem aqX {o:Oper}(a:Zz n o.dst=true):∀d,o.dst=some d->d < n:=fun d e=>by rw[e]at a;simpa[Zz,Qcp]using a
theorem yV {c:Bool}{o:Oper}{r:List Oper}{i:Nat}{a:Acc}{s:σ}{K:σ->τ}(j:Ha A den)(l:aal R)(p:R.ok s)(q:Zz n o.dst=true)(u:Wanted ops (R.st s).slot o true)
  (w:∀a s,R.ok s->den (mi R A T S Γ ops n c r (i+1) a s K)->GM R den T S Γ ops n c r (i+1) a (R.st s) K)
  (h:den (ZQ R A T S Γ ops c o i a s fun a s=>mi R A T S Γ ops n c r (i+1) a s K)):GM R den T S Γ ops n c (o::r) i a (R.st s) K:=by
 have e:∀d,Does T S Γ (R.st s).slot (R.st s).blk ((R.st s).next+64*i) o.op d->den (stepW R A ops c o i a s d fun a s=>mi R A T S Γ ops n c r (i+1) a s K)->GM R den T S Γ ops n c (o::r) i a (R.st s) K:=
  fun d m h=>PQ j l p q (fun x=>⟨rfl,aqX q, .inl ⟨u,d,m,x,rfl,rfl⟩⟩) w h
 unfold ZQ at h;rw[l.slot p,l.blk p]at h;split at h
 ·rename_i b k g t;obtain⟨v,y⟩:=j.br h;cases f:b with
  | true=>exact e k (.inr ⟨b,k,g,t,by rw[f];rfl⟩) (v f)
  | false=>exact e g (.inr ⟨b,k,g,t,by rw[f];rfl⟩) (y f)
 ·split at h
  ·exact(j.stuck h).elim
  ·rename_i d m;exact e d (.inl m) h
theorem YJ (f:Ha A den)(u:aal R){draw:Bool}{K:σ->τ}:∀(l:List Oper) (i:Nat) (a:Acc) (s:σ),R.ok s->den (mi R A T S Γ ops n draw l i a s K)->GM R den T S Γ ops n draw l i a (R.st s) K
 | [],i,a,s,g,h=>by
  obtain⟨x,p⟩:=u.skip (n:=64*i) g;exact⟨[],_,trivial,fun _=>by rw[p];exact Alike.refl _,by rw[p];rfl,by rw[p];rfl,⟨x,h⟩,fun _=>trivial,⟨[],by rw[p];rfl⟩,fun _ _ _=>by rw[p];rfl⟩
 | o::r,i,a,s,g,h=>by
  have F:=fun a s g=>YJ f u (draw:=draw) (K:=K) r (i+1) a s g
  have skip:∀{s},R.ok s->Wanted ops (R.st s).slot o false->Zz n o.dst=true->den (ad4 R A ops draw o i a s fun a s=>mi R A T S Γ ops n draw r (i+1) a s K)->GM R den T S Γ ops n draw (o::r) i a (R.st s) K:=
   fun g U m h=>PQ f u g m (fun _=>⟨rfl,aqX m, .inr ⟨U,rfl,rfl⟩⟩) F h
  unfold mi at h;split at h
  ·exact(f.stuck h).elim
  ·rename_i m;split at h
   ·rename_i w;exact yV f u g m (by simp[Wanted,w]) F h
   ·rename_i j q w;split at h
    ·exact(f.stuck h).elim
    ·rename_i d P;rw[u.slot g]at h;split at h
     ·rename_i b D;have Z:∀(c:Bool) (k:σ->τ),b=c->den (ad1 R A s d c k)->(∀e,R.ok e->Wanted ops (R.st e).slot o (c==q)->den (k e)->GM R den T S Γ ops n draw (o::r) i a (R.st e) K)->GM R den T S Γ ops n draw (o::r) i a (R.st s) K:=by
       rintro c k rfl C hc;obtain⟨e,I,C⟩:=Z4 f C;obtain⟨G,y⟩:=u.put g I;have B:(R.st e).slot=upd (R.st s).slot d (.one (.lf (.val (.bool b)))):=by rw[y,Aj];rfl
       have same:∀t,Alike ((R.st e).slot t) ((R.st s).slot t):=fun t=>by
        rw[B];by_cases z:t=d
        ·subst z;rw[upd_same,D];exact .inr ⟨b,rfl,rfl⟩
        ·rw[bM _ _ _ _ z];exact Alike.refl _
       obtain⟨J,s',x,p,N,H,V,M,E,W⟩:=hc e G (by
        simp only[Wanted,w];exact⟨d,P, .inl ⟨b,by rw[B,upd_same];rfl,rfl⟩⟩) C
       have Q:(R.st e).blk=(R.st s).blk:=by rw[y,Ff];rfl
       have L:(R.st e).next=(R.st s).next:=by rw[y,ry]
       have X:(R.st e).blks=(R.st s).blks:=by rw[y];rfl
       rw[Q,L]at x;rw[Q]at N M;rw[L]at H;rw[X]at E;refine⟨J,s',PK _ _ _ _ _ _ same x,fun t=>(PI J _ _ same t).symm.trans (p t),N,H,V,fun m=>VT _ _ _ _ _ _ _ same (M m),E,fun t q1 q2=>(W t q1 q2).trans ?_⟩;rw[B]
       grind [bM]
      cases q with
      | true=>
       obtain⟨z,Y⟩:=f.br h;cases O:b with
       | true=>grind [yV]
       | false=>grind
      | false=>
       obtain⟨z,Y⟩:=f.br h;cases O:b with
       | true=>grind
       | false=>grind [yV]
     ·rename_i b D;have wt:Wanted ops (R.st s).slot o (b==q):=by
       simp only[Wanted,w];exact⟨d,P, .inl ⟨b,by rw[D];rfl,rfl⟩⟩
      grind [yV]
     ·rename_i v _ hv;split at h
      ·rename_i hn;exact skip g (by simp only[Wanted,w];grind) m h
      ·exact(f.stuck h).elim
     ·exact(f.stuck h).elim
theorem arU:∀(l:List Oper) (c:List (Wr D)) (g:Acc) (b:Nat) (a:Nat->Sl D) (d:Nat->Option (Bk D)),ait ops g b a d l c->
  ∀j e f,l[j]? =some e->c[j]? =some f->(∀p∈g,ae3 p.2 (dS (oI (fun k=>decide (k < b+j)) b a c) (pq (fun k=>decide (k < b+j)) b d c) e.op) f.keys->xW ops 3 e p.1=true)/\
   ∀i n s,i < j->l[i]? =some n->c[i]? =some s->ae3 (dS (oI (fun k=>decide (k < b+i)) b a c) (pq (fun k=>decide (k < b+i)) b d c) n.op,s.keys) (dS (oI (fun k=>decide (k < b+j)) b a c) (pq (fun k=>decide (k < b+j)) b d c) e.op) f.keys->xW ops 3 e (b+i)=true
 | [],_,_,_,_,_,_,j,e,f,hj,_=>by simp at hj
 | _::_,[],_,_,_,_,_,j,e,f,_,m=>by simp at m
 | o::r,W::c,g,b,a,d,h,j,e,f,hj,m=>by
  have x:oI (fun k=>decide (k < b+0)) b a (W::c)=a:=by
   grind [Gn]
  have f0:pq (fun k=>decide (k < b+0)) b d (W::c)=d:=by
   grind [E8]
  have t:∀j,oI (fun k=>decide (k < b+(j+1))) b a (W::c)=oI (fun k=>decide (k < b+1+j)) (b+1) (Dq a W) c:=by
   intro j;have q:decide (b < b+(j+1))=true:=by simp
   simp only[oI,q,if_true]
   grind
  have u:∀j,pq (fun k=>decide (k < b+(j+1))) b d (W::c)=pq (fun k=>decide (k < b+1+j)) (b+1) (Af d W) c:=by
   intro j;have q:decide (b < b+(j+1))=true:=by simp
   simp only[pq,q,if_true]
   grind
  cases j with
  | zero=>
   simp only[Qcf,XM]at hj m;subst hj m;rw[x,f0];exact⟨h.1,fun i _ _ y=>by omega⟩
  | succ j=>
   obtain⟨v,C⟩:=arU r c _ (b+1) _ _ h.2 j e f qbb (by simpa using m);rw[t j,u j];refine⟨fun p w=>v p (by simp[w]),fun i n s A y B z=> ?_⟩;cases i with
   | zero=>
    simp_all
   | succ i=>
    rw[t i,u i]at z
    grind
theorem ail {a:Nat->Sl D}{b:Nat->Option (Bk D)}{d:List (Wr D)}(h:ait ops [] 0 a b ops.toList d):atV a b d ops:=by
 intro i j p q n l k c g e o;obtain⟨_,r⟩:=arU ops.toList d [] 0 a b h j p n (by simpa using c) e;by_cases f:i < ops.size
 ·have m:ops[i]? =some ops[i]:=by simp[f]
  have:=r i ops[i] q k (by simp[f]) g;simp only[Bc]at this;refine this ⟨l,?_⟩;simpa[Lm,m,c]using o
 grind
end
end Go.Vc
