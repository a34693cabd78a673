/- Own engine: Vd8, Vd9, Vda, Vdb. -/
import Derived.Test.YtjojefbphdmnjaaGreatDoorEng5
set_option linter.unusedVariables false
set_option linter.unusedSimpArgs false
namespace Go.Vc
open Go.RowKit
def Ny:Value->Bool
 | .bool _=>false
 | _=>true
structure Wr (D:Type) where
 dst:Option Nat
 val:Sl D
 blks:List (Nat×Option (Bk D))
def Af {D:Type}(a:Nat->Sl D)(W:Wr D):Nat->Sl D:=
 match W.dst with
 | some d=>upd a d W.val
 | none=>a
def yj {D:Type}(a:Nat->Option (Bk D))(W:Wr D):Nat->Option (Bk D):=iU a W.blks
def Wanted {D:Type}(e:Array Oper)(a:Nat->Sl D)(o:Oper)(r:Bool):Prop:=
 match o.guard with
 | none=>r=true
 | some (j,c)=>∃d,(e[j]?).bind (·.dst)=some d/\((∃b,bOf (a d)=some b/\r=(b==c))\/(∃v,a d= .one (.lf (.val v))/\Ny v=true/\r=false))
def JE {D:Type}(T:TypeId->Option Ty)(S:Sh D)(g:FuncId->Option (Ct D))(c:Array Oper)(n f:Nat)(a:Nat->Sl D)(e:Nat->Option (Bk D))(o:Oper)(W:Wr D):Prop:=
 W.dst=o.dst/\(∀d,o.dst=some d->d < n)/\
 (
   (Wanted c a o true/\∃b,Does T S g a e f o.op b/\kF b.pre/\W.val=b.val/\W.blks=b.blks)\/
   (Wanted c a o false/\W.val= .one (.lf (.val undef))/\W.blks=[]))
def Holds {D:Type}(S:Sh D)(d:Bs)(f:Nat->Option Value)(N:Nat->Prop)(n:Nat)(c:Nat->Sl D)(b:Nat->Option (Bk D))(e:Nat->Prop)(a:Act)(w:World):Prop:=
 ∃g,Hp S d N b g e w/\(∀t,(c t).Rel S (aJ N b g) w g (a.tmps.getD t undef))/\a.tmps.size=n/\a.defers=[]/\More f g
section
variable {D:Type}{P:Program}{S:Sh D}{T:TypeId->Option Ty}{Γ:FuncId->Option (Ct D)}{N:Nat->Prop}{w w':World}{w0:Bs}{g0:Nat->Option Value}{blk:Nat->Option (Bk D)}{al:Nat->Prop}
 {a:Act} {o:Oper} {K:Act->World->Prop} {Q:Exit->Act->World->Prop} {slot:Nat->Sl D} {fr n:Nat} {ops:Array Oper} {W:Wr D}
theorem ap6 {d:Option Tmp}{v:Value}{t:Nat}(c:∀x,d=some x->x < a.tmps.size):(a.put d v).tmps.getD t undef=if d=some t then v else a.tmps.getD t undef:=by
 cases d with
 | none=>simp[Act.put]
 | some d=>
  have:=c d rfl;simp only[Act.put];by_cases h:d=t
  ·subst h;simp[Array.getD,this]
  ·rw[vF qbs];simp only[Array.getD];by_cases b:t < a.tmps.size
   ·simp[b,h]
   ·simp[b]
theorem K_ {g:Nat->Option Value}{M:Nat->Prop}{r:Bool}(k:∀t,(slot t).Rel S M w g (a.tmps.getD t undef))(h:Wanted ops slot o r):Region.wanted o (yielded ops a.tmps)=r:=by
 unfold Wanted at h;unfold Region.wanted;split at h
 ·grind
 ·rename_i j n m;simp only[m];obtain⟨d,f,h⟩:=h;have q:∀v,a.tmps.getD d undef=v->Ny v=true->yielded ops a.tmps j=none:=by
   intro v e i;simp only[yielded,f,Option.bind_some];by_cases c:d < a.tmps.size
   ·simp only[Array.getD,c,dif_pos]at e;simp only[Array.getElem?_eq_getElem c];have:a.tmps[d]=v:=e;rw[this];cases v<;>first | rfl | simp[Ny]at i
   ·simp[c]
  rcases h with⟨b,l,rfl⟩ | ⟨v,e,i,rfl⟩
  ·have:=k d;have this:=Dj l this;have p:yielded ops a.tmps j=some b:=by
    simp only[yielded,f,Option.bind_some];by_cases c:d < a.tmps.size
    ·simp_all
    ·simp[Array.getD,c,undef]at this
   grind
  ·have:=k d;rw[e]at this;simp only[Sl.Rel,Sv.Rel,Lf.Rel]at this
   grind
def Alike (x y:Sl D):Prop:=x=y\/∃b,bOf x=some b/\bOf y=some b
theorem Alike.refl (x:Sl D):Alike x x:= .inl rfl
theorem Alike.symm {x y:Sl D}(h:Alike x y):Alike y x:=by
 rcases h with rfl | ⟨b,c,a⟩
 ·exact .inl rfl
 ·exact .inr ⟨b,a,c⟩
theorem Alike.trans {x y z:Sl D}(h:Alike x y)(k:Alike y z):Alike x z:=by
 rcases h with rfl | ⟨b,e,d⟩
 ·exact k
 ·rcases k with rfl | ⟨c,a,f⟩
  ·exact .inr ⟨b,e,d⟩
  ·rw[d]at a;injection a with a
   subst a;exact .inr ⟨b,e,f⟩
theorem aBo {M:Nat->Prop}{g:Nat->Option Value}{x:Sl D}{b:Bool}(h:bOf x=some b):x.Rel S M w g (.bool b):=by
 unfold bOf at h;split at h
 ·injection h with h;subst h;rfl
 ·injection h with h;subst h;rfl
 ·cases h
theorem Alike.rel {M:Nat->Prop}{g:Nat->Option Value}{x y:Sl D}{v:Value}(h:Alike x y)(a:x.Rel S M w g v):y.Rel S M w g v:=by
 rcases h with rfl | ⟨b,d,c⟩
 ·exact a
 ·rw[Dj d a];exact aBo c
theorem Holds.alike {b:Nat->Sl D}(h:Holds S w0 g0 N n slot blk al a w)(d:∀t,Alike (slot t) (b t)):Holds S w0 g0 N n b blk al a w:=by
 obtain⟨g,e,c,f⟩:=h;exact⟨g,e,fun t=>(d t).rel (c t),f⟩
theorem uC {a:Nat->Sl D}(b:∀t,Alike (slot t) (a t))(t:Nat):Alike (Af slot W t) (Af a W t):=by
 unfold Af;cases W.dst with
 | none=>exact b t
 | some d=>
  grind [Alike.refl,bI,upd_same]
theorem PW {i:Nat}(O:∀t C,T t=some C->TyOk P t C)(M:∀f I,Γ f=some I->CtOk P S f I)(V:ShOk S)(Y:ops[i]? =some o)(h:Holds S w0 g0 N n slot blk al a w)(G:∀n,fr<=n->n < fr+64->¬al n)
  (k:JE T S Γ ops n fr slot blk o W) (U:∀D b,Holds S w0 g0 N n (Af slot W) (yj blk W) (fun l=>al l\/(fr<=l/\l < fr+64)) D b->K D b):wpOp P ops Q i K a w:=by
 obtain⟨g,F,s,X,J,E⟩:=h;obtain⟨q,ab,k⟩:=k;have y:∀v b g',More g g'->Keeps (aJ N blk g) w (aJ N (yj blk W) g') b->Hp S w0 N (yj blk W) g' (fun l=>al l\/(fr<=l/\l < fr+64)) b->W.val.Rel S (aJ N (yj blk W) g') b g' v->K (a.put o.dst v) b:=by
  intro v b g' r B p m;have H:∀x,o.dst=some x->x < a.tmps.size:=fun x L=>by grind
  refine U _ _ ⟨g',p,fun t=> ?_,?_,?_,fun l v h=>r l v (E l v h)⟩
  ·rw[ap6 H];by_cases c:o.dst=some t
   ·rw[Ai c];simp only[Af,q,c,upd_same];exact m
   ·rw[vF c];have:Af slot W t=slot t:=by
     unfold Af;rw[q];cases R:o.dst with
     | none=>rfl
     | some d=>exact bI _ _ _ _ (fun e=>c (by rw[R,e]))
    rw[this];exact(s t).keep B r
  ·cases c:o.dst<;>simp[Act.put,X]
  ·cases c:o.dst<;>simp[Act.put,J]
 unfold wpOp;simp only[Y];rcases k with⟨z,aa,L,A,m,j⟩ | ⟨z,m,j⟩
 ·rw[K_ s z,Ai rfl];refine .inl (agF O M V F G s L A ?_);intro v b g' r B p Z;refine y v b g' r ?_ ?_ ?_
  ·simpa[yj,j]using B
  ·simpa[yj,j]using p
  ·simpa[yj,j,m]using Z
 ·rw[K_ s z];have u:yj blk W=blk:=by simp[yj,j,iU]
  refine y undef w g (More.refl _) (by rw[u];exact Keeps.refl _ _) (by rw[u];exact F.weaken fun _ h=> .inl h) (by rw[m];rfl)
def Trace (T:TypeId->Option Ty)(S:Sh D)(c:FuncId->Option (Ct D))(a:Array Oper)(n:Nat):Nat->(Nat->Sl D)->(Nat->Option (Bk D))->List Oper->List (Wr D)->Prop
 | _,_,_,[],[]=>True
 | b,slot,blk,o::r,W::e=>(∃d,(∀t,Alike (slot t) (d t))/\JE T S c a n b d blk o W)/\Trace T S c a n (b+64) (Af slot W) (yj blk W) r e
 | _,_,_,_,_=>False
def zS:(Nat->Sl D)->List (Wr D)->(Nat->Sl D)
 | slot,[]=>slot
 | slot,W::a=>zS (Af slot W) a
def DF:(Nat->Option (Bk D))->List (Wr D)->(Nat->Option (Bk D))
 | blk,[]=>blk
 | blk,W::a=>DF (yj blk W) a
theorem abP (u:∀t A,T t=some A->TyOk P t A)(s:∀f H,Γ f=some H->CtOk P S f H)(G:ShOk S):
  ∀(l:List Oper) (m:List (Wr D)) (i d:Nat) (b:Nat->Sl D) (c:Nat->Option (Bk D)) (a:Act) (w:World),(∀j,l[j]? =ops[i+j]?)->Trace T S Γ ops n d b c l m->Holds S w0 g0 N n b c (· < d) a w->
   (∀p r,Holds S w0 g0 N n (zS b m) (DF c m) (· < d+64*l.length) p r->Q .normal p r)->wpOps P ops Q (List.range' i l.length) a w
 | [],[],i,d,b,c,a,w,_,_,h,v=>by simpa[wpOps]using v a w (by simpa[zS,DF]using h)
 | [],_::_,_,_,_,_,_,_,_,k,_,_=>by simp[Trace]at k
 | _::_,[],_,_,_,_,_,_,_,k,_,_=>by simp[Trace]at k
 | o::l,W::m,i,d,b,c,a,w,x,k,h,v=>by
  rw[uU,List.range'_succ,wpOps_cons];have K:ops[i]? =some o:=by simpa using(x 0).symm
  obtain⟨⟨L,B,C⟩,F⟩:=k;refine PW u s G K (h.alike B) ah C fun p r J=> ?_;obtain⟨g,I,q⟩:=J.alike (uC fun t=>(B t).symm);refine abP u s G l m (i+1) (d+64) _ _ p r (fun j=>by have:=x (j+1);grind) F ⟨g,I.weaken fun l x=>by omega,q⟩ fun E y z=>v E y ?_;have e:d+64*(l.length+1)=d+64+64*l.length:=by omega
  rw[uU,e];simpa only[zS,DF]using z
end
end Go.Vc
namespace Go.Vc
open Go.RowKit
def Wr.keys {D:Type}(W:Wr D):List Nat:=W.blks.map (·.1)
def Ed (o:Oper)(i:Nat):Bool:=o.after.toList.any fun e=>Region.binds .any e && Nat.beq e.on i
def uw (a:Array Oper):Nat->Oper->Nat->Bool
 | 0,o,i=>Ed o i
 | k+1,o,i=>Ed o i || o.after.toList.any fun e=>Region.binds .any e && (match a[e.on]? with
  | some o'=>uw a k o' i
  | none=>false)
theorem afh {a:Array Oper}{o:Oper}{i:Nat}(h:Ed o i=true):∀k,uw a k o i=true
 | 0=>h
 | k+1=>by simp[uw,h]
section
variable {D:Type}{P:Program}{S:Sh D}{T:TypeId->Option Ty}{Γ:FuncId->Option (Ct D)}{N:Nat->Prop}{w w':World}{w0:Bs}{blk blk':Nat->Option (Bk D)}{al:Nat->Prop}
 {a:Act} {o:Oper} {K:Act->World->Prop} {Q:Exit->Act->World->Prop} {slot gu:Nat->Sl D} {fr n:Nat} {ops:Array Oper} {W:Wr D}
theorem aeM {x y:Sl D}(h:Alike x y):x.refs=y.refs:=by
 rcases h with rfl | ⟨b,e,d⟩
 ·rfl
 ·have c:∀z:Sl D,bOf z=some b->z.refs=[]:=by
   intro z a;unfold bOf at a;split at a<;>first | rfl | cases a
  grind
theorem BF {op:Op}(h:∀t,Alike (slot t) (gu t)):dR slot blk op=dR gu blk op:=by
 have:(fun x=>(aI slot x).refs)=fun x=>(aI gu x).refs:=by
  funext x;cases x with
  | tmp t=>exact aeM (h t)
  | _=>rfl
 unfold dR;rw[this]
theorem Vm:∀(n:Nat) (ids:List Nat) (l:Nat),l∈ids->l∈reach blk n ids
 | 0,_,_,h=>h
 | n+1,ids,l,h=>Vm n _ l ((lg _ _ _).2 (.inl h))
theorem AP {b c:Type}{l:List b}{f a:b->List c}(h:∀x∈l,f x=a x):l.flatMap f=l.flatMap a:=by
 induction l with
 | nil=>rfl
 | cons x r d=>grind
theorem KE:∀(n:Nat) (ids:List Nat),(∀l∈reach blk n ids,blk l=blk' l)->reach blk n ids=reach blk' n ids
 | 0,_,_=>rfl
 | n+1,ids,h=>by
  have e:(ids.flatMap fun l=>match blk l with
    | some a=>a.refs
    | none=>[])=(ids.flatMap fun l=>match blk' l with
    | some a=>a.refs
    | none=>[]):=AP fun l c=>by rw[h l (Vm (n+1) ids l c)]
  have b:∀l∈reach blk n (mi ids (ids.flatMap fun l=>match blk l with
    | some a=>a.refs
    | none=>[])),blk l=blk' l:=h
  have r:=KE n _ b;refine Eq.trans (show reach blk (n+1) ids=_ from r) ?_;rw[e];rfl
theorem QV:∀{l:List Operand} {t:Nat},t∈uP l ↔ Operand.tmp t∈l
 | [],_=>by simp[uP]
 | x::r,t=>by cases x<;>simp[uP,QV]
theorem afZ {a:Op}{b:Out D}(c:∀x∈a.operands.toList,aI slot x=aI gu x)(f:∀l∈dR slot blk a,blk l=blk' l)(h:Does T S Γ slot blk fr a b):Does T S Γ gu blk' fr a b:=by
 have g:aeQ a slot=aeQ a gu:=by
  funext t;unfold aeQ;cases d:ql t (uP a.operands.toList)with
  | true=>exact c (.tmp t) (QV.1 (fB.1 d))
  | false=>rfl
 have i:dR slot blk a=dR gu blk' a:=by
  have j:(a.operands.toList.flatMap fun x=>(aI slot x).refs)=a.operands.toList.flatMap fun x=>(aI gu x).refs:=AP fun x e=>by rw[c x e]
  unfold dR at f⊢
  grind [KE]
 have k:mJ (dR slot blk a) blk=mJ (dR slot blk a) blk':=by
  funext l;unfold mJ
  grind [fB]
 unfold Does ayX agY at h⊢
 grind
theorem ad_ (b:∀t∈o.looksAt ops,slot t=gu t)(s:∀l∈dR slot blk o.op,blk l=blk' l)(h:JE T S Γ ops n fr slot blk o W):JE T S Γ ops n fr gu blk' o W:=by
 have m:∀x∈o.op.operands.toList,aI slot x=aI gu x:=by
  intro x v;cases x with
  | tmp t=>
   refine b t ?_;simp only[Oper.looksAt,xN,Qc9]
   grind
  | _=>rfl
 have p:∀r,Wanted ops slot o r->Wanted ops gu o r:=by
  intro r a;unfold Wanted at a⊢;cases c:o.guard with
  | none=>grind
  | some e=>
   obtain⟨j,g⟩:=e;rw[c]at a;obtain⟨d,q,a⟩:=a;have k:slot d=gu d:=by
    refine b d ?_;simp only[Oper.looksAt,xN,c]
    grind
   grind
 obtain⟨i,f,u⟩:=h;refine⟨i,f,?_⟩
 grind [afZ]
def nR (L:Nat->Bool):Nat->(Nat->Sl D)->List (Wr D)->(Nat->Sl D)
 | _,slot,[]=>slot
 | i,slot,W::a=>nR L (i+1) (if L i then Af slot W else slot) a
def nZ (L:Nat->Bool):Nat->(Nat->Option (Bk D))->List (Wr D)->(Nat->Option (Bk D))
 | _,blk,[]=>blk
 | i,blk,W::a=>nZ L (i+1) (if L i then yj blk W else blk) a
theorem Eu {t:Nat}(h:W.dst≠some t):Af slot W t=slot t:=by
 unfold Af;cases a:W.dst with
 | some d=>exact bI _ _ _ _ (fun e=>h (by rw[a,e]))
 | none=>rfl
theorem Jg {t:Nat}(h:W.dst=some t):Af slot W t=W.val:=by simp[Af,h,upd_same]
theorem EG {L e:Nat->Bool}{t:Nat}:∀(b:List (Wr D)) (i:Nat) (a c:Nat->Sl D),(∀j W,b[j]? =some W->W.dst=some t->L (i+j)=e (i+j))->a t=c t->nR L i a b t=nR e i c b t
 | [],i,a,c,_,h=>h
 | W::b,i,a,c,f,h=>by
  simp only[nR];refine EG b (i+1) _ _ (fun j W' hj d=>by have:=f (j+1) W' qb2 d;grind) ?_;by_cases d:W.dst=some t
  ·have:=f 0 W rfl d
   grind [Jg]
  grind [Eu]
theorem EZ {L e:Nat->Bool}{t:Nat}:∀(d:List (Wr D)) (i:Nat) (b a:Nat->Option (Bk D)),(∀j W,d[j]? =some W->t∈W.keys->L (i+j)=e (i+j))->b t=a t->nZ L i b d t=nZ e i a d t
 | [],i,b,a,_,h=>h
 | W::d,i,b,a,f,h=>by
  simp only[nZ];refine EZ d (i+1) _ _ (fun j W' hj c=>by have:=f (j+1) W' qb2 c;grind) ?_;by_cases c:t∈W.keys
  ·have:=f 0 W rfl c;simp only[Qba]at this;rw[this];split
   ·exact NJ c
   ·exact h
  ·have g:(if L i then yj b W else b) t=b t:=by split<;>first | exact nI c | rfl
   have k:(if e i then yj a W else a) t=a t:=by split<;>first | exact nI c | rfl
   grind
theorem Ce {L:Nat->Bool}{t:Nat}(c:List (Wr D))(i:Nat)(a:Nat->Sl D)(h:∀j W,c[j]? =some W->W.dst=some t->L (i+j)=false):nR L i a c t=a t:=by
 induction c generalizing i a with
 | nil=>rfl
 | cons W c d=>
  simp only[nR];rw[d (i+1) _ fun j W' hj b=>by have:=h (j+1) W' qb2 b;grind];by_cases b:W.dst=some t
  ·have:=h 0 W rfl b
   grind
  ·split<;>first | exact Eu b | rfl
theorem Dn {L:Nat->Bool}{t:Nat}(c:List (Wr D))(i:Nat)(a:Nat->Option (Bk D))(h:∀j W,c[j]? =some W->t∈W.keys->L (i+j)=false):nZ L i a c t=a t:=by
 induction c generalizing i a with
 | nil=>rfl
 | cons W c d=>
  simp only[nZ];rw[d (i+1) _ fun j W' hj b=>by have:=h (j+1) W' qb2 b;grind];by_cases b:t∈W.keys
  ·have:=h 0 W rfl b
   grind
  ·split<;>first | exact nI b | rfl
theorem VJ {L:Nat->Bool}{t:Nat}:∀(c:List (Wr D)) (b i:Nat) (a:Nat->Sl D) (W:Wr D),c[i]? =some W->L (b+i)=true->W.dst=some t->(∀j d,i < j->c[j]? =some d->d.dst=some t->L (b+j)=false)->nR L b a c t=W.val
 | [],b,i,a,W,h,_,_,_=>by simp at h
 | V::c,b,0,a,W,h,l,g,f=>by
  simp only[Qb4,Og]at h;subst h;simp only[nR];rw[Ce c (b+1) _ fun j d hj e=>by have:=f (j+1) d ah qb2 e;grind]
  grind [Jg]
 | V::c,b,i+1,a,W,h,l,g,f=>by
  simp only[nR];exact VJ c (b+1) i _ W qbs qP g fun j d hj k e=>by have:=f (j+1) d ah (by simpa using k) e;grind
theorem V5 {L:Nat->Bool}{t:Nat}:∀(c:List (Wr D)) (b i:Nat) (d a:Nat->Option (Bk D)) (W:Wr D),c[i]? =some W->L (b+i)=true->t∈W.keys->(∀j e,i < j->c[j]? =some e->t∈e.keys->L (b+j)=false)->nZ L b d c t=yj a W t
 | [],b,i,d,a,W,h,_,_,_=>by simp at h
 | V::c,b,0,d,a,W,h,l,g,k=>by
  simp only[Qb4,Og]at h;subst h;simp only[nZ];rw[Dn c (b+1) _ fun j e hj f=>by have:=k (j+1) e ah qb2 f;grind];simp only[Qba]at l;rw[l];exact NJ g
 | V::c,b,i+1,d,a,W,h,l,g,k=>by
  simp only[nZ];exact V5 c (b+1) i _ a W qbs qP g fun j e hj m f=>by have:=k (j+1) e ah (by simpa using m) f;grind
theorem aaQ {L:Nat->Bool}:∀(c:List (Wr D)) (b:Nat) (a:Nat->Sl D),(∀j,j < c.length->L (b+j)=true)->nR L b a c=zS a c
 | [],_,_,_=>rfl
 | W::c,b,a,h=>by
  have d:=h 0 oG;simp only[Qba]at d;simp only[nR,d,if_true,zS];exact aaQ c (b+1) _ fun j hj=>by have:=h (j+1) qb2;grind
theorem ac2 {L:Nat->Bool}:∀(a:List (Wr D)) (b:Nat) (c:Nat->Option (Bk D)),(∀j,j < a.length->L (b+j)=true)->nZ L b c a=DF c a
 | [],_,_,_=>rfl
 | W::a,b,c,h=>by
  have d:=h 0 oG;simp only[Qba]at d;simp only[nZ,d,if_true,DF];exact ac2 a (b+1) _ fun j hj=>by have:=h (j+1) qb2;grind
theorem O6:∀(l:List Oper) (d:List (Wr D)) (b i e:Nat) (a:Nat->Sl D) (c:Nat->Option (Bk D)) (o:Oper),Trace T S Γ ops n e a c l d->l[i]? =some o->
  ∃W,d[i]? =some W/\∃k,(∀t,Alike (nR (fun j=>decide (j < b+i)) b a d t) (k t))/\JE T S Γ ops n (e+64*i) k (nZ (fun j=>decide (j < b+i)) b c d) o W
 | [],_,_,i,_,_,_,_,_,h=>by simp at h
 | _::_,[],_,_,_,_,_,_,f,_=>by simp[Trace]at f
 | o'::l,W::d,b,0,e,a,c,o,f,h=>by
  simp only[Qb4,Og]at h;subst h;refine⟨W,rfl,?_⟩;have p:nR (fun j=>decide (j < b+0)) b a (W::d)=a:=by
   grind [Ce]
  have q:nZ (fun j=>decide (j < b+0)) b c (W::d)=c:=by
   grind [Dn]
  rw[p,q];exact f.1
 | o'::l,W::d,b,i+1,e,a,c,o,f,h=>by
  obtain⟨W',g,r⟩:=O6 l d (b+1) i (e+64) _ _ o f.2 qbs;refine⟨W',by simpa using g,?_⟩;have m:decide (b < b+(i+1))=true:=by simp
  simp only[nR,nZ,m,if_true]
  grind
theorem Hl:∀(l:List Oper) (a:List (Wr D)) (c:Nat) (b:Nat->Sl D) (d:Nat->Option (Bk D)),Trace T S Γ ops n c b d l a->a.length=l.length
 | [],[],_,_,_,_=>rfl
 | [],_::_,_,_,_,h=>by simp[Trace]at h
 | _::_,[],_,_,_,h=>by simp[Trace]at h
 | _::l,_::a,c,_,_,h=>by simp[Hl l a _ _ _ h.2]
end
end Go.Vc
namespace Go.Vc
open Go.RowKit
def wo (a:Array Oper):Bool:=
 (List.range a.size).all fun j=>
  match a[j]? with
  | none=>true
  | some b=>(b.after.toList.all fun e=> !Region.binds .any e || Nat.blt e.on j) && (List.range j).all fun i=>
   match a[i]? with
   | none=>true
   | some c=>Oper.apart a c b || Ed b i
section
variable {D:Type}{P:Program}{S:Sh D}{T:TypeId->Option Ty}{Γ:FuncId->Option (Ct D)}{N:Nat->Prop}{w w':World}{w0:Bs}{g0:Nat->Option Value}{blk blk':Nat->Option (Bk D)}{al:Nat->Prop}
 {a:Act} {o:Oper} {K:Act->World->Prop} {Q:Exit->Act->World->Prop} {slot gu:Nat->Sl D} {fr n:Nat} {ops:Array Oper} {W:Wr D} {Ws:List (Wr D)}
theorem Zj (h:wo ops=true){j:Nat}{b:Oper}(a:ops[j]? =some b):∀e∈b.after.toList,Region.binds .any e=true->e.on < j:=by
 intro e d f;have c:j < ops.size:=(Array.getElem?_eq_some_iff.1 a).1;have:=Qa3.1 h j (Qcg.2 c);simp only[a,iW]at this;have:=Qa3.1 this.1 e d;simp_all
theorem AB (h:wo ops=true){i j:Nat}{b a:Oper}(e:i < j)(f:ops[i]? =some b)(d:ops[j]? =some a):Oper.apart ops b a=true\/Ed a i=true:=by
 have c:j < ops.size:=(Array.getElem?_eq_some_iff.1 d).1;have:=Qa3.1 h j (Qcg.2 c)
 grind
def Gu (a:Nat->Sl D)(d:Nat->Option (Bk D))(c:List (Wr D))(b:Array Oper)(i:Nat):List Nat:=
 match b[i]? with
 | some o=>dR (nR (fun j=>decide (j < i)) 0 a c) (nZ (fun j=>decide (j < i)) 0 d c) o.op
 | none=>[]
def auL (b:Nat->Sl D)(d:Nat->Option (Bk D))(c:List (Wr D))(a:Array Oper):Prop:=
 ∀i j f e g l,i < j->a[j]? =some f->c[i]? =some e->c[j]? =some g->((l∈g.keys/\(l∈Gu b d c a i\/l∈e.keys))\/(l∈Gu b d c a j/\l∈e.keys))->uw a 3 f i=true
theorem WL {o:Oper}{i:Nat}(h:Ed o i=true):∃e∈o.after.toList,Region.binds .any e=true/\e.on=i:=by
 simp only[Ed,Qcf,iW]at h;simp_all
theorem D9 {a:Array Bool}(b:∀i o,ops[i]? =some o->a.getD i false=true->∀e∈o.after.toList,Region.binds .any e=true->a.getD e.on false=true):
  ∀(k:Nat) (o:Oper) (i:Nat),(∀e∈o.after.toList,Region.binds .any e=true->a.getD e.on false=true)->uw ops k o i=true->a.getD i false=true
 | 0,o,i,c,h=>by
  obtain⟨e,g,f,rfl⟩:=WL h
  grind
 | k+1,o,i,c,h=>by
  simp only[uw,Qbg,Qcf,iW]at h;rcases h with h | ⟨e,g,f,d⟩
  ·grind [WL]
  ·split at d
   ·rename_i o' j;exact D9 b k o' i (b e.on o' j (c e g f)) d
   ·cases d
theorem Rh {a:Array Bool}(f:a.size=ops.size){i:Nat}(h:i∈Region.ready .any ops a):
  ∃o,ops[i]? =some o/\a.getD i false=false/\i < ops.size/\∀e∈o.after.toList,Region.binds .any e=true->a.getD e.on false=true:=by
 simp only[Region.ready,Qby,Qcg,iW]at h;obtain⟨c,j,b⟩:=h;cases d:ops[i]? with
 | none=>grind
 | some o=>
  rw[d]at b;simp only[Qbh,Qde]at b;refine⟨o,rfl,?_,c,fun e k g=> ?_⟩
  ·grind
  ·rw[Array.all_eq_true_iff_forall_mem]at b
   grind
theorem ready_nil {a:Array Bool}(c:a.size=ops.size)(g:wo ops=true)(h:Region.ready .any ops a=[]):∀j,j < ops.size->a.getD j false=true:=by
 intro j;induction j using Nat.strongRecOn with
 | _ j e=>
  intro b;cases f:a.getD j false with
  | true=>rfl
  | false=>
   exfalso;have i:ops[j]? =some ops[j]:=by simp[b]
   have d:j∈Region.ready .any ops a:=by
    simp only[Region.ready,Qby,Qcg,iW]
    grind [Zj]
   grind
theorem ayp (hTy:∀t ty,T t=some ty->TyOk P t ty)(hΓ:∀f ct,Γ f=some ct->CtOk P S f ct)(hS:ShOk S)(hd:wo ops=true)(aa:Trace T S Γ ops n fr slot blk ops.toList Ws)(L:auL slot blk Ws ops)
  (hQ:∀a w,Holds S w0 g0 N n (zS slot Ws) (DF blk Ws) (· < fr+64*ops.size) a w->Q .normal a w):
  ∀(A:Nat) (b:Array Bool) (a:Act) (w:World),b.size=ops.size->(∀i o,ops[i]? =some o->b.getD i false=true->∀e∈o.after.toList,Region.binds .any e=true->b.getD e.on false=true)->
   b.toList.count false<=A->Holds S w0 g0 N n (nR (fun j=>b.getD j false) 0 slot Ws) (nZ (fun j=>b.getD j false) 0 blk Ws) (fun l=>l < fr\/∃j,b.getD j false=true/\fr+64*j<=l/\l < fr+64*j+64) a w->
   wpAny P .any ops Q A b a w:=by
 have hlen:Ws.length=ops.size:=by simpa using Hl _ _ _ _ _ aa
 have hWs:∀(j:Nat) (c:Wr D),Ws[j]? =some c->∃p:Oper,ops[j]? =some p/\c.dst=p.dst:=by
  intro j c d;have M:j < ops.size:=by grind
  obtain⟨W',O,_,_,R⟩:=O6 ops.toList Ws 0 j fr slot blk ops[j] aa (by simp[M]);rw[d]at O;injection O with O
  subst O;exact⟨ops[j],by simp[M],R.1⟩
 have fin:∀(b:Array Bool) (a:Act) (w:World),b.size=ops.size->Region.ready .any ops b=[]->Holds S w0 g0 N n (nR (fun j=>b.getD j false) 0 slot Ws) (nZ (fun j=>b.getD j false) 0 blk Ws) (fun l=>l < fr\/∃j,b.getD j false=true/\fr+64*j<=l/\l < fr+64*j+64) a w->Q .normal a w:=by
  intro b a w x C h;have hall:=ready_nil x hd C;rw[aaQ Ws 0 slot fun j d=>by grind,ac2 Ws 0 blk fun j d=>by grind]at h;obtain⟨g,hp,G⟩:=h;refine hQ a w ⟨g,hp.weaken ?_,G⟩
  grind
 intro A;induction A with
 | zero=>
  intro b a w x K hcnt h;have C:Region.ready .any ops b=[]:=by
   cases hx:Region.ready .any ops b with
   | nil=>rfl
   | cons i rs=>
    exfalso;obtain⟨o,V,hf,M,_⟩:=Rh x (show i∈Region.ready .any ops b by rw[hx];simp);have X:i < b.size:=by omega
    have aJM:false∈b.toList:=by
     have:b[i]=false:=by simp_all
     grind
    grind
  exact⟨C,fin b a w x C h⟩
 | succ A ih=>
  intro b a w x K hcnt h;refine⟨fun C=>fin b a w x C h,fun i hi=> ?_⟩;obtain⟨B,s,hli,hilt,hed⟩:=Rh x hi;obtain⟨y,E,aBa,heI,R⟩:=O6 ops.toList Ws 0 i fr slot blk B aa (by simpa using s);simp only[JH]at R heI;have Y:i < b.size:=by omega
  have z:∀j c p,Ws[j]? =some c->ops[j]? =some p->(j < i->uw ops 3 B j=true)->(i < j->uw ops 3 p i=true)->b.getD j false=decide (j < i):=by
   intro j c p d q h1 h2;rcases Nat.lt_trichotomy j i with k | rfl | k
   ·rw[D9 K 3 B j hed (h1 k)];simp[k]
   ·rw[hli];simp
   ·have hn:¬j < i:=by omega
    simp only[hn,decide_false];cases hb:b.getD j false with
    | false=>rfl
    | true=>
     have:=D9 K 3 p i (K j p q hb) (h2 k)
     grind
  have Z:∀(j:Nat) (c:Wr D) (p:Oper) (t:Nat),Ws[j]? =some c->ops[j]? =some p->c.dst=some t->p.dst=some t:=by
   grind
  have H:∀j c,Ws[j]? =some c->∃p,ops[j]? =some p:=fun j c d=>by obtain⟨o',ho',_⟩:=hWs j c d;exact⟨o',ho'⟩
  have aJO:∀t∈B.looksAt ops,nR (fun j=>decide (j < i)) 0 slot Ws t=nR (fun j=>b.getD j false) 0 slot Ws t:=by
   intro t ht;refine EG Ws 0 slot slot (fun j c d v=> ?_) rfl;obtain⟨p,q⟩:=H j c d;have J:=Z j c p t d q v;simp only[JH];refine(z j c p d q (fun k=> ?_) (fun u=> ?_)).symm
   ·rcases AB hd k q s with I | F
    ·exact absurd ht ((Oper.apart_spec I).1 t J)
    ·exact afh F 3
   ·rcases AB hd u s q with I | F
    ·exact absurd ht ((Oper.apart_spec I).2.2 t J)
    ·exact afh F 3
  have hrd:Gu slot blk Ws ops i=dR (nR (fun j=>decide (j < i)) 0 slot Ws) (nZ (fun j=>decide (j < i)) 0 blk Ws) B.op:=by simp[Gu,s]
  have hblk:∀l∈dR (nR (fun j=>decide (j < i)) 0 slot Ws) (nZ (fun j=>decide (j < i)) 0 blk Ws) B.op,nZ (fun j=>decide (j < i)) 0 blk Ws l=nZ (fun j=>b.getD j false) 0 blk Ws l:=by
   intro l X;refine EZ Ws 0 blk blk (fun j c d U=> ?_) rfl;obtain⟨p,q⟩:=H j c d;simp only[JH];exact(z j c p d q (fun k=>L j i B c y l k s d E (.inr ⟨by grind,U⟩)) (fun u=>L i j p y c l u q E d (.inl ⟨U, .inl qP⟩))).symm
  have hst':=ad_ (gu:=fun t=>if t∈B.looksAt ops then aBa t else nR (fun j=>b.getD j false) 0 slot Ws t) (fun t ht=>by grind) (fun l X=>hblk l (by rw[BF heI];exact X)) R;have heL:∀t,Alike (nR (fun j=>b.getD j false) 0 slot Ws t) (if t∈B.looksAt ops then aBa t else nR (fun j=>b.getD j false) 0 slot Ws t):=by
   grind [Alike.refl]
  refine PW hTy hΓ hS s (h.alike heL) ?_ hst' fun a' w' h'=> ?_
  ·rintro m hm1 hm2 (M | ⟨j,d,F⟩)
   ·omega
   grind
  ·
   have h':=h'.alike (uC (W:=y) fun t=>(heL t).symm);have r:∀j,(b.setIfInBounds i true).getD j false=(if j=i then true else b.getD j false):=by
    intro j;by_cases k:j=i
    ·subst k;simp[Array.getD,Y]
    ·simp only[k,if_false,Array.getD];by_cases hjl:j < b.size
     ·have u:¬i=j:=fun e=>k e.symm
      simp[hjl,u]
     ·simp[hjl]
   have e1:Af (nR (fun j=>b.getD j false) 0 slot Ws) y=nR (fun j=>(b.setIfInBounds i true).getD j false) 0 slot Ws:=by
    funext t;by_cases v:y.dst=some t
    ·rw[Jg v];refine(VJ Ws 0 i slot y E (by simp[r]) v fun j c u d J=> ?_).symm;obtain⟨p,q⟩:=H j c d;simp only[JH,r,show j≠i by omega,if_false];have:=z j c p d q (fun h=>by omega) (fun _=>by
      rcases AB hd u s q with I | F
      ·exact absurd (Z j c p t d q J) ((Oper.apart_spec I).2.1 t (Z i y B t E s v))
      ·exact afh F 3)
     grind
    ·rw[Eu v];refine EG Ws 0 slot slot (fun j c d J=> ?_) rfl;have k:j≠i:=by
      grind
     grind
   have e2:yj (nZ (fun j=>b.getD j false) 0 blk Ws) y=nZ (fun j=>(b.setIfInBounds i true).getD j false) 0 blk Ws:=by
    funext t;by_cases U:t∈y.keys
    ·refine(V5 Ws 0 i blk _ y E (by simp[r]) U fun j c u d hkj=> ?_).symm;obtain⟨p,q⟩:=H j c d;simp only[JH,r,show j≠i by omega,if_false];have:=z j c p d q (fun h=>by omega) (fun _=>L i j p y c t u q E d (.inl ⟨hkj, .inr U⟩))
     grind
    ·rw[show yj (nZ (fun j=>b.getD j false) 0 blk Ws) y t=nZ (fun j=>b.getD j false) 0 blk Ws t from nI U];refine EZ Ws 0 blk blk (fun j c d hkj=> ?_) rfl;have k:j≠i:=by
      grind
     grind
   rw[e1,e2]at h';refine ih _ a' w' (by simp[x]) ?_ ?_ ?_
   ·intro j o V d e F hb;rw[r]at d⊢;by_cases k:j=i
    ·subst k;rw[s]at V;injection V with V
     subst V;have:=hed e F hb;split<;>simp_all
    ·rw[vF k]at d;have:=K j o V d e F hb;split<;>simp_all
   ·have hx:b.toList[i]'(by simpa using Y)=false:=by simpa[Array.getD,Y]using hli
    grind
   ·obtain⟨g,hp,G⟩:=h';refine⟨g,hp.weaken ?_,G⟩;rintro l ((X | ⟨j,d,C⟩) | C)
    ·exact .inl X
    ·exact .inr ⟨j,by rw[r];split<;>simp_all,C⟩
    ·exact .inr ⟨i,by simp[r],C⟩
theorem aa3 {id:Nat}(A:P.follows .mixedOrders=true)(u:∀t e,T t=some e->TyOk P t e)(s:∀f q,Γ f=some q->CtOk P S f q)(E:ShOk S)(y:wo ops=true)(d:Trace T S Γ ops n fr slot blk ops.toList Ws)(c:auL slot blk Ws ops)
  (h:Holds S w0 g0 N n slot blk (· < fr) a w) (x:∀a w,Holds S w0 g0 N n (zS slot Ws) (DF blk Ws) (· < fr+64*ops.size) a w->Q .normal a w):(Code.region id ops true).wp P Q a w:=by
 refine wp_region_any A (ayp u s E y d c x ops.size _ a _ oG ?_ oG ?_)
 ·intro i o _ k;exfalso;by_cases b:i < ops.size
  ·simp[Array.getD,b]at k
  ·simp[Array.getD,b]at k
 ·have v:∀j,(Array.replicate ops.size false).getD j false=false:=by
   intro j;by_cases b:j < ops.size<;>simp[Array.getD,b]
  have B:nR (fun j=>(Array.replicate ops.size false).getD j false) 0 slot Ws=slot:=by
   funext t;exact Ce _ _ _ fun j W _ _=>v _
  have H:nZ (fun j=>(Array.replicate ops.size false).getD j false) 0 blk Ws=blk:=by
   funext t;exact Dn _ _ _ fun j W _ _=>v _
  rw[B,H];obtain⟨g,D,C,F,r,m⟩:=h;have G:Below w.heap.size w {w with drawn:=w.drawn+1}:=⟨rfl,rfl,rfl,lH _,fun _ _=>rfl⟩;obtain⟨p,I⟩:=D.grow G;exact⟨g,p.weaken fun l z=> .inl z,fun t=>(C t).keep I (More.refl _),F,r,m⟩
end
end Go.Vc
namespace Go.Vc
open Go.RowKit
structure Alg (τ:Type 1) where
 stuck:τ
 ob:DP->τ->τ
 br:Bool->τ->τ->τ
structure IA {τ:Type 1}(A:Alg τ)(den:τ->Prop):Prop where
 stuck:¬den A.stuck
 ob:∀{p k},den (A.ob p k)->p.p/\den k
 br:∀{b t e},den (A.br b t e)->(b=true->den t)/\(b=false->den e)
def Alg.opt {a:Type 1}(A:Alg a)(p:Option DP)(k:a):a:=
 match p with
 | none=>k
 | some p=>A.ob p k
theorem IA.opt {b:Type 1}{A:Alg b}{a:b->Prop}(c:IA A a){p:Option DP}{k:b}(h:a (A.opt p k)):kF p/\a k:=by
 cases p with
 | none=>exact⟨trivial,h⟩
 | some p=>exact c.ob h
def look {a:Type}(d:a):List (Nat×a)->Nat->a
 | [],_=>d
 | (k,v)::r,n=>if Nat.beq n k then v else look d r n
theorem J4 {a:Type}(d:a)(k:Nat)(v:a)(r:List (Nat×a)):look d ((k,v)::r)=upd (look d r) k v:=by
 funext n;simp only[look,upd];simp_all
theorem aaI {b:Type}(d:b):∀(a l:List (Nat×b)),look d (a.reverse++l)=iU (look d l) a
 | [],l=>rfl
 | (k,v)::a,l=>by
  rw[List.reverse_cons,UA,List.singleton_append,aaI d a,J4];rfl
structure St (D:Type) where
 tmps:List (Nat×Sl D)
 blks:List (Nat×Option (Bk D))
 next:Nat
def St.slot {D:Type}(s:St D):Nat->Sl D:=look (.one (.lf .any)) s.tmps
def St.blk {D:Type}(s:St D):Nat->Option (Bk D):=look none s.blks
def St.put {D:Type}(s:St D)(a:Option Nat)(v:Sl D)(b:List (Nat×Option (Bk D))):St D:=
 match a with
 | some d=>⟨(d,v)::s.tmps,b.reverse++s.blks,s.next⟩
 | none=>⟨s.tmps,b.reverse++s.blks,s.next⟩
theorem GU {D:Type}(s:St D)(a:Option Nat)(v:Sl D)(b:List (Nat×Option (Bk D))):(s.put a v b).slot=Af s.slot ⟨a,v,b⟩:=by
 cases a with
 | none=>rfl
 | some d=>exact J4 _ _ _ _
theorem NU {D:Type}(s:St D)(a:Option Nat)(v:Sl D)(b:List (Nat×Option (Bk D))):(s.put a v b).blk=yj s.blk ⟨a,v,b⟩:=by
 cases a<;>exact aaI _ _ _
theorem rY {D:Type}(s:St D)(a:Option Nat)(v:Sl D)(b:List (Nat×Option (Bk D))):(s.put a v b).next=s.next:=by
 cases a<;>rfl
theorem awv {D:Type}{s:St D}{b:Option Nat}{v:Sl D}{d a x:List (Nat×Option (Bk D))}(h:x=a++(s.put b v d).blks):∃c,x=c++s.blks:=by
 cases b<;>exact⟨a++d.reverse,by rw[h];simp[St.put]⟩
theorem al7 {D:Type}{s:St D}{a:Option Nat}{v:Sl D}{b:List (Nat×Option (Bk D))}{t:Nat}(h:a≠some t):(s.put a v b).slot t=s.slot t:=by
 cases a with
 | none=>rfl
 | some d=>
  show look _ _ t=look _ _ t
  rw[show(s.put (some d) v b).tmps=(d,v)::s.tmps from rfl,J4];exact bI _ _ _ _ fun e=>h (by rw[e])
structure Rep (D σ:Type) where
 st:σ->St D
 slot:σ->Nat->Sl D
 blk:σ->Nat->Option (Bk D)
 put:σ->Option Nat->Sl D->List (Nat×Option (Bk D))->Option σ
 skip:σ->Nat->σ
 ok:σ->Prop
structure adD {D σ:Type}(R:Rep D σ):Prop where
 slot:∀{s},R.ok s->R.slot s=(R.st s).slot
 blk:∀{s},R.ok s->R.blk s=(R.st s).blk
 put:∀{s s' d v bs},R.ok s->R.put s d v bs=some s'->R.ok s'/\R.st s'=(R.st s).put d v bs
 skip:∀{s n},R.ok s->R.ok (R.skip s n)/\R.st (R.skip s n)=⟨(R.st s).tmps,(R.st s).blks,(R.st s).next+n⟩
def aAO {D:Type}:Rep D (St D):=⟨fun s=>s,St.slot,St.blk,fun s d v a=>some (s.put d v a),fun s n=>⟨s.tmps,s.blks,s.next+n⟩,fun _=>True⟩
theorem as4 {D:Type}:adD (aAO (D:=D)):=⟨fun _=>rfl,fun _=>rfl,fun _ h=>by injection h with h;exact⟨trivial,h.symm⟩,fun _=>⟨trivial,rfl⟩⟩
def meets (a b:List Nat):Bool:=a.any fun x=>b.any fun y=>Nat.beq x y
def aBb (a:Array Oper)(b:List (Nat×List Nat×List Nat))(o:Oper)(d c:List Nat):Bool:=
 b.any fun p=>(meets c p.2.1 || meets c p.2.2 || meets d p.2.2) && !uw a 3 o p.1
def Ve (n:Nat):Option Nat->Bool
 | none=>true
 | some d=>Nat.blt d n
section
variable {D σ:Type}{τ:Type 1}
abbrev Acc:=List (Nat×List Nat×List Nat)
def akZ (R:Rep D σ)(A:Alg τ)(s:σ)(d:Option Nat)(v:Sl D)(a:List (Nat×Option (Bk D)))(k:σ->τ):τ:=
 match R.put s d v a with
 | none=>A.stuck
 | some s=>k s
def stepW (R:Rep D σ)(A:Alg τ)(d:Array Oper)(c:Bool)(o:Oper)(i:Nat)(b:Acc)(s:σ)(a:Out D)(k:Acc->σ->τ):τ:=
 match c with
 | false=>A.opt a.pre (akZ R A s o.dst a.val a.blks (k b))
 | true=>
  match aBb d b o (dR (R.slot s) (R.blk s) o.op) (a.blks.map (·.1))with
  | true=>A.stuck
  | false=>A.opt a.pre (akZ R A s o.dst a.val a.blks (k ((i,dR (R.slot s) (R.blk s) o.op,a.blks.map (·.1))::b)))
def VR (R:Rep D σ)(A:Alg τ)(T:TypeId->Option Ty)(S:Sh D)(h:FuncId->Option (Ct D))(c:Array Oper)(a:Bool)(o:Oper)(i:Nat)(d:Acc)(s:σ)(k:Acc->σ->τ):τ:=
 match agY (R.slot s) (R.blk s) o.op with
 | some (b,f,g)=>A.br b (stepW R A c a o i d s f k) (stepW R A c a o i d s g k)
 | none=>
  match ayX T S h (R.slot s) (R.blk s) ((R.st s).next+64*i) o.op with
  | none=>A.stuck
  | some e=>stepW R A c a o i d s e k
def abo (R:Rep D σ)(A:Alg τ)(b:Array Oper)(a:Bool)(o:Oper)(i:Nat)(c:Acc)(s:σ)(k:Acc->σ->τ):τ:=stepW R A b a o i c s ⟨none, .one (.lf (.val undef)),[]⟩ k
def ada (R:Rep D σ)(A:Alg τ)(s:σ)(d:Nat)(b:Bool)(k:σ->τ):τ:=akZ R A s (some d) (.one (.lf (.val (.bool b)))) [] k
def mg (R:Rep D σ)(A:Alg τ)(T:TypeId->Option Ty)(S:Sh D)(f:FuncId->Option (Ct D))(e:Array Oper)(n:Nat)(c:Bool):List Oper->Nat->Acc->σ->(σ->τ)->τ
 | [],i,_,s,K=>K (R.skip s (64*i))
 | o::r,i,a,s,K=>
  match Ve n o.dst with
  | false=>A.stuck
  | true=>
   match o.guard with
   | none=>VR R A T S f e c o i a s fun a s=>mg R A T S f e n c r (i+1) a s K
   | some (j,g)=>
    match(e[j]?).bind (·.dst)with
    | none=>A.stuck
    | some d=>
     match R.slot s d with
     | .one (.lf (.bool b))=>
      match g with
      | true=>A.br b (ada R A s d true fun s=>VR R A T S f e c o i a s fun a s=>mg R A T S f e n c r (i+1) a s K) (ada R A s d false fun s=>abo R A e c o i a s fun a s=>mg R A T S f e n c r (i+1) a s K)
      | false=>A.br b (ada R A s d true fun s=>abo R A e c o i a s fun a s=>mg R A T S f e n c r (i+1) a s K) (ada R A s d false fun s=>VR R A T S f e c o i a s fun a s=>mg R A T S f e n c r (i+1) a s K)
     | .one (.lf (.val (.bool b)))=>
      match b==g with
      | true=>VR R A T S f e c o i a s fun a s=>mg R A T S f e n c r (i+1) a s K
      | false=>abo R A e c o i a s fun a s=>mg R A T S f e n c r (i+1) a s K
     | .one (.lf (.val v))=>
      match Ny v with
      | true=>abo R A e c o i a s fun a s=>mg R A T S f e n c r (i+1) a s K
      | false=>A.stuck
     | _=>A.stuck
end
section
variable {D:Type}{P:Program}{S:Sh D}{T:TypeId->Option Ty}{Γ:FuncId->Option (Ct D)}{N:Nat->Prop}{w w':World}{w0:Bs}{n:Nat}{ops:Array Oper}{τ:Type 1}{A:Alg τ}{den:τ->Prop}{σ:Type}{R:Rep D σ}
def abr (p:List Nat×List Nat)(a b:List Nat):Prop:=∃l,(l∈b/\(l∈p.1\/l∈p.2))\/(l∈a/\l∈p.2)
theorem ar4 {a b:List Nat}{l:Nat}(d:l∈a)(c:l∈b):meets a b=true:=by
 simp only[meets,Qcf];exact⟨l,d,l,c,by simp⟩
theorem awn {a:Acc}{o:Oper}{c b:List Nat}(h:¬aBb ops a o c b=true):∀p∈a,abr p.2 c b->uw ops 3 o p.1=true:=by
 intro p f ⟨l,d⟩;cases e:uw ops 3 o p.1 with
 | true=>rfl
 | false=>
  exfalso;apply h;simp only[aBb,Qcf,iW,Qbg]
  grind [ar4]
def agh (a:Array Oper):Acc->Nat->(Nat->Sl D)->(Nat->Option (Bk D))->List Oper->List (Wr D)->Prop
 | _,_,_,_,[],_=>True
 | _,_,_,_,_::_,[]=>True
 | b,i,slot,blk,o::r,W::c=>(∀p∈b,abr p.2 (dR slot blk o.op) W.keys->uw a 3 o p.1=true)/\agh a ((i,dR slot blk o.op,W.keys)::b) (i+1) (Af slot W) (yj blk W) r c
def DU (R:Rep D σ)(e:τ->Prop)(T:TypeId->Option Ty)(S:Sh D)(h:FuncId->Option (Ct D))(b:Array Oper)(n:Nat)(d:Bool)(l:List Oper)(i:Nat)(g:Acc)(s:St D)(K:σ->τ):Prop:=
 ∃c a,Trace T S h b n (s.next+64*i) s.slot s.blk l c/\(∀t,Alike (zS s.slot c t) ((R.st a).slot t))/\(R.st a).blk=DF s.blk c/\(R.st a).next=s.next+64*(i+l.length)/\(R.ok a/\e (K a))/\(d=true->agh b g i s.slot s.blk l c)/\
  (∃f,(R.st a).blks=f++s.blks)/\∀t,(∀o∈b.toList,o.dst≠some t)->(∀o∈l,o.dst≠some t)->(R.st a).slot t=s.slot t
theorem KY:∀(l:List Oper) (d:List (Wr D)) (c:Nat) (a e:Nat->Sl D) (b:Nat->Option (Bk D)),(∀t,Alike (a t) (e t))->Trace T S Γ ops n c a b l d->Trace T S Γ ops n c e b l d
 | [],[],_,_,_,_,_,_=>trivial
 | [],_::_,_,_,_,_,_,h=>by simp[Trace]at h
 | _::_,[],_,_,_,_,_,h=>by simp[Trace]at h
 | o::l,W::d,c,a,e,b,f,⟨⟨i,j,g⟩,k⟩=>⟨⟨i,fun t=>(f t).symm.trans (j t),g⟩,KY l d (c+64) _ _ _ (uC f) k⟩
theorem LD:∀(b:List (Wr D)) (a c:Nat->Sl D),(∀t,Alike (a t) (c t))->∀t,Alike (zS a b t) (zS c b t)
 | [],_,_,h,t=>h t
 | W::b,_,_,h,t=>LD b _ _ (uC h) t
theorem QZ:∀(l:List Oper) (c:List (Wr D)) (b:Acc) (i:Nat) (a d:Nat->Sl D) (blk:Nat->Option (Bk D)),(∀t,Alike (a t) (d t))->agh ops b i a blk l c->agh ops b i d blk l c
 | [],_,_,_,_,_,_,_,_=>trivial
 | _::_,[],_,_,_,_,_,_,_=>trivial
 | o::l,W::c,b,i,a,d,blk,f,h=>by
  have e:=BF (op:=o.op) (blk:=blk) f;simp only[agh]at h⊢;rw[e]at h;exact⟨h.1,QZ l c _ _ _ _ _ (uC f) h.2⟩
theorem WW (c:IA A den){s:σ}{d:Option Nat}{v:Sl D}{a:List (Nat×Option (Bk D))}{k:σ->τ}(h:den (akZ R A s d v a k)):∃b,R.put s d v a=some b/\den (k b):=by
 unfold akZ at h
 grind [IA.stuck]
theorem Kt {b:Bool}{o:Oper}{r:List Oper}{i:Nat}{c:Acc}{s:σ}{K:σ->τ}{a:Out D}(j:IA A den)(x:adD R)(q:R.ok s)(U:Ve n o.dst=true)
  (z:kF a.pre->JE T S Γ ops n ((R.st s).next+64*i) (R.st s).slot (R.st s).blk o ⟨o.dst,a.val,a.blks⟩)
  (N:∀c s,R.ok s->den (mg R A T S Γ ops n b r (i+1) c s K)->DU R den T S Γ ops n b r (i+1) c (R.st s) K)
  (h:den (stepW R A ops b o i c s a fun c s=>mg R A T S Γ ops n b r (i+1) c s K)):DU R den T S Γ ops n b (o::r) i c (R.st s) K:=by
 have F:∀d,kF a.pre->den (akZ R A s o.dst a.val a.blks fun s=>mg R A T S Γ ops n b r (i+1) d s K)->(b=true->d=(i,dR (R.st s).slot (R.st s).blk o.op,a.blks.map (·.1))::c/\∀p∈c,abr p.2 (dR (R.st s).slot (R.st s).blk o.op) (a.blks.map (·.1))->uw ops 3 o p.1=true)->
   DU R den T S Γ ops n b (o::r) i c (R.st s) K:=by
  intro d g f m;obtain⟨O,y,f⟩:=WW j f;obtain⟨E,I⟩:=x.put q y;obtain⟨L,M,k,w,u,C,G,v,⟨Q,B⟩,P⟩:=N d O E f;rw[I]at k w u C v B P;rw[GU,NU,rY]at k;rw[GU]at w;rw[NU]at u;rw[rY]at C;rw[GU,NU]at v;refine⟨⟨o.dst,a.val,a.blks⟩::L,M,⟨⟨(R.st s).slot,fun _=>Alike.refl _,z g⟩,?_⟩,w,u,by grind,G,fun l=> ?_,awv B,fun t V W=> ?_⟩
  ·omega
  ·obtain⟨e,J⟩:=m l;subst e;exact⟨J,v l⟩
  grind [al7]
 unfold stepW at h;rw[x.slot q,x.blk q]at h;split at h
 ·obtain⟨g,f⟩:=j.opt h;exact F c g f (fun e=>by cases e)
 ·split at h
  ·exact(j.stuck h).elim
  ·rename_i H;obtain⟨g,f⟩:=j.opt h;exact F _ g f (fun _=>⟨rfl,awn (by rw[H];simp)⟩)
theorem apZ {o:Oper}(a:Ve n o.dst=true):∀d,o.dst=some d->d < n:=fun d e=>by rw[e]at a;simpa[Ve,Qce]using a
theorem wG {a:Bool}{o:Oper}{r:List Oper}{i:Nat}{c:Acc}{s:σ}{K:σ->τ}(l:IA A den)(p:adD R)(k:R.ok s)(q:Ve n o.dst=true)(u:Wanted ops (R.st s).slot o true)
  (w:∀c s,R.ok s->den (mg R A T S Γ ops n a r (i+1) c s K)->DU R den T S Γ ops n a r (i+1) c (R.st s) K)
  (h:den (VR R A T S Γ ops a o i c s fun c s=>mg R A T S Γ ops n a r (i+1) c s K)):DU R den T S Γ ops n a (o::r) i c (R.st s) K:=by
 have e:∀d,Does T S Γ (R.st s).slot (R.st s).blk ((R.st s).next+64*i) o.op d->den (stepW R A ops a o i c s d fun c s=>mg R A T S Γ ops n a r (i+1) c s K)->DU R den T S Γ ops n a (o::r) i c (R.st s) K:=
  fun d m h=>Kt l p k q (fun v=>⟨rfl,apZ q, .inl ⟨u,d,m,v,rfl,rfl⟩⟩) w h
 unfold VR at h;rw[p.slot k,p.blk k]at h;split at h
 ·rename_i b g j t;obtain⟨y,x⟩:=l.br h;cases f:b with
  | true=>exact e g (.inr ⟨b,g,j,t,by rw[f];rfl⟩) (y f)
  | false=>exact e j (.inr ⟨b,g,j,t,by rw[f];rfl⟩) (x f)
 ·split at h
  ·exact(l.stuck h).elim
  ·rename_i d m;exact e d (.inl m) h
theorem WG (g:IA A den)(u:adD R){draw:Bool}{K:σ->τ}:∀(l:List Oper) (i:Nat) (a:Acc) (s:σ),R.ok s->den (mg R A T S Γ ops n draw l i a s K)->DU R den T S Γ ops n draw l i a (R.st s) K
 | [],i,a,s,f,h=>by
  obtain⟨z,p⟩:=u.skip (n:=64*i) f;exact⟨[],_,trivial,fun _=>by rw[p];exact Alike.refl _,by rw[p];rfl,by rw[p];rfl,⟨z,h⟩,fun _=>trivial,⟨[],by rw[p];rfl⟩,fun _ _ _=>by rw[p];rfl⟩
 | o::r,i,a,s,f,h=>by
  have I:=fun a s f=>WG g u (draw:=draw) (K:=K) r (i+1) a s f
  have skip:∀{s},R.ok s->Wanted ops (R.st s).slot o false->Ve n o.dst=true->den (abo R A ops draw o i a s fun a s=>mg R A T S Γ ops n draw r (i+1) a s K)->DU R den T S Γ ops n draw (o::r) i a (R.st s) K:=
   fun f U m h=>Kt g u f m (fun _=>⟨rfl,apZ m, .inr ⟨U,rfl,rfl⟩⟩) I h
  unfold mg at h;split at h
  ·exact(g.stuck h).elim
  ·rename_i m;split at h
   ·rename_i w;exact wG g u f m (by simp[Wanted,w]) I h
   ·rename_i j q w;split at h
    ·exact(g.stuck h).elim
    ·rename_i d L;rw[u.slot f]at h;split at h
     ·rename_i b C;have aa:∀(c:Bool) (k:σ->τ),b=c->den (ada R A s d c k)->(∀e,R.ok e->Wanted ops (R.st e).slot o (c==q)->den (k e)->DU R den T S Γ ops n draw (o::r) i a (R.st e) K)->DU R den T S Γ ops n draw (o::r) i a (R.st s) K:=by
       rintro c k rfl D W;obtain⟨e,G,D⟩:=WW g D;obtain⟨O,y⟩:=u.put f G;have B:(R.st e).slot=upd (R.st s).slot d (.one (.lf (.val (.bool b)))):=by rw[y,GU];rfl
       have same:∀t,Alike ((R.st e).slot t) ((R.st s).slot t):=fun t=>by
        rw[B];by_cases x:t=d
        ·subst x;rw[upd_same,C];exact .inr ⟨b,rfl,rfl⟩
        ·rw[bI _ _ _ _ x];exact Alike.refl _
       obtain⟨H,Z,z,p,M,F,h5,J,N,Y⟩:=W e O (by
        simp only[Wanted,w];exact⟨d,L, .inl ⟨b,by rw[B,upd_same];rfl,rfl⟩⟩) D
       have P:(R.st e).blk=(R.st s).blk:=by rw[y,NU];rfl
       have Q:(R.st e).next=(R.st s).next:=by rw[y,rY]
       have el:(R.st e).blks=(R.st s).blks:=by rw[y];rfl
       rw[P,Q]at z;rw[P]at M J;rw[Q]at F;rw[el]at N;refine⟨H,Z,KY _ _ _ _ _ _ same z,fun t=>(LD H _ _ same t).symm.trans (p t),M,F,h5,fun m=>QZ _ _ _ _ _ _ _ same (J m),N,fun t V q2=>(Y t V q2).trans ?_⟩;rw[B]
       grind [bI]
      cases q with
      | true=>
       obtain⟨x,X⟩:=g.br h;cases E:b with
       | true=>grind [wG]
       | false=>grind
      | false=>
       obtain⟨x,X⟩:=g.br h;cases E:b with
       | true=>grind
       | false=>grind [wG]
     ·rename_i b C;have wt:Wanted ops (R.st s).slot o (b==q):=by
       simp only[Wanted,w];exact⟨d,L, .inl ⟨b,by rw[C];rfl,rfl⟩⟩
      grind [wG]
     ·rename_i v _ hv;split at h
      ·rename_i hn;exact skip f (by simp only[Wanted,w];grind) m h
      ·exact(g.stuck h).elim
     ·exact(g.stuck h).elim
theorem aqx:∀(l:List Oper) (c:List (Wr D)) (m:Acc) (b:Nat) (a:Nat->Sl D) (d:Nat->Option (Bk D)),agh ops m b a d l c->
  ∀j e f,l[j]? =some e->c[j]? =some f->(∀p∈m,abr p.2 (dR (nR (fun k=>decide (k < b+j)) b a c) (nZ (fun k=>decide (k < b+j)) b d c) e.op) f.keys->uw ops 3 e p.1=true)/\
   ∀i s n,i < j->l[i]? =some s->c[i]? =some n->abr (dR (nR (fun k=>decide (k < b+i)) b a c) (nZ (fun k=>decide (k < b+i)) b d c) s.op,n.keys) (dR (nR (fun k=>decide (k < b+j)) b a c) (nZ (fun k=>decide (k < b+j)) b d c) e.op) f.keys->uw ops 3 e (b+i)=true
 | [],_,_,_,_,_,_,j,e,f,hj,_=>by simp at hj
 | _::_,[],_,_,_,_,_,j,e,f,_,g=>by simp at g
 | o::r,W::c,m,b,a,d,h,j,e,f,hj,g=>by
  have v:nR (fun k=>decide (k < b+0)) b a (W::c)=a:=by
   grind [Ce]
  have f0:nZ (fun k=>decide (k < b+0)) b d (W::c)=d:=by
   grind [Dn]
  have t:∀j,nR (fun k=>decide (k < b+(j+1))) b a (W::c)=nR (fun k=>decide (k < b+1+j)) (b+1) (Af a W) c:=by
   intro j;have q:decide (b < b+(j+1))=true:=by simp
   simp only[nR,q,if_true]
   grind
  have u:∀j,nZ (fun k=>decide (k < b+(j+1))) b d (W::c)=nZ (fun k=>decide (k < b+1+j)) (b+1) (yj d W) c:=by
   intro j;have q:decide (b < b+(j+1))=true:=by simp
   simp only[nZ,q,if_true]
   grind
  cases j with
  | zero=>
   simp only[Qb4,Og]at hj g;subst hj g;rw[v,f0];exact⟨h.1,fun i _ _ w=>by omega⟩
  | succ j=>
   obtain⟨z,C⟩:=aqx r c _ (b+1) _ _ h.2 j e f qb2 (by simpa using g);rw[t j,u j];refine⟨fun p y=>z p (by simp[y]),fun i s n B w A x=> ?_⟩;cases i with
   | zero=>
    simp_all
   | succ i=>
    rw[t i,u i]at x
    grind
theorem afK {a:Nat->Sl D}{b:Nat->Option (Bk D)}{d:List (Wr D)}(h:agh ops [] 0 a b ops.toList d):auL a b d ops:=by
 intro i j q r p l g c f m o;obtain⟨_,n⟩:=aqx ops.toList d [] 0 a b h j q p (by simpa using c) m;by_cases k:i < ops.size
 ·have e:ops[i]? =some ops[i]:=by simp[k]
  have:=n i ops[i] r g (by simp[k]) f;simp only[JH]at this;refine this ⟨l,?_⟩;simpa[Gu,e,c]using o
 grind
end
end Go.Vc
