/- Own engine: Vd8, Vd9, Vda, Vdb. -/
import Derived.Test.YtgdmjfkdbfafjaaGreatDoorEng5
set_option linter.unusedVariables false
set_option linter.unusedSimpArgs false
namespace Go.Vc
open Go.RowKit
def UY:Value->Bool
 | .bool _=>false
 | _=>true
structure Wr (D:Type) where
 dst:Option Nat
 val:Sl D
 blks:List (Nat×Option (Bk D))
def Bl {D:Type}(a:Nat->Sl D)(W:Wr D):Nat->Sl D:=
 match W.dst with
 | some d=>upd a d W.val
 | none=>a
def BH {D:Type}(a:Nat->Option (Bk D))(W:Wr D):Nat->Option (Bk D):=mM a W.blks
def Wanted {D:Type}(e:Array Oper)(a:Nat->Sl D)(o:Oper)(r:Bool):Prop:=
 match o.guard with
 | none=>r=true
 | some (j,c)=>∃d,(e[j]?).bind (·.dst)=some d/\((∃b,bOf (a d)=some b/\r=(b==c))\/(∃v,a d= .one (.lf (.val v))/\UY v=true/\r=false))
def YM {D:Type}(T:TypeId->Option Ty)(S:Sh D)(g:FuncId->Option (Ct D))(c:Array Oper)(n f:Nat)(a:Nat->Sl D)(e:Nat->Option (Bk D))(o:Oper)(W:Wr D):Prop:=
 W.dst=o.dst/\(∀d,o.dst=some d->d < n)/\
 (
   (Wanted c a o true/\∃b,Does T S g a e f o.op b/\nJ b.pre/\W.val=b.val/\W.blks=b.blks)\/
   (Wanted c a o false/\W.val= .one (.lf (.val undef))/\W.blks=[]))
def Holds {D:Type}(S:Sh D)(d:Bs)(e:Nat->Option Value)(N:Nat->Prop)(n:Nat)(c:Nat->Sl D)(b:Nat->Option (Bk D))(f:Nat->Prop)(a:Act)(w:World):Prop:=
 ∃g,Hp S d N b g f w/\(∀t,(c t).Rel S (bi N b g) w g (a.tmps.getD t undef))/\a.tmps.size=n/\a.defers=[]/\More e g
section
variable {D:Type}{P:Program}{S:Sh D}{T:TypeId->Option Ty}{Γ:FuncId->Option (Ct D)}{N:Nat->Prop}{w w':World}{w0:Bs}{g0:Nat->Option Value}{blk:Nat->Option (Bk D)}{al:Nat->Prop}
 {a:Act} {o:Oper} {K:Act->World->Prop} {Q:Exit->Act->World->Prop} {slot:Nat->Sl D} {fr n:Nat} {ops:Array Oper} {W:Wr D}
theorem atE {d:Option Tmp}{v:Value}{t:Nat}(c:∀x,d=some x->x < a.tmps.size):(a.put d v).tmps.getD t undef=if d=some t then v else a.tmps.getD t undef:=by
 cases d with
 | none=>simp[Act.put]
 | some d=>
  have:=c d rfl;simp only[Act.put];by_cases h:d=t
  ·subst h;simp[Array.getD,this]
  ·rw[yc qbt];simp only[Array.getD];by_cases b:t < a.tmps.size
   ·simp[b,h]
   ·simp[b]
theorem RD {g:Nat->Option Value}{M:Nat->Prop}{r:Bool}(k:∀t,(slot t).Rel S M w g (a.tmps.getD t undef))(h:Wanted ops slot o r):Region.wanted o (yielded ops a.tmps)=r:=by
 unfold Wanted at h;unfold Region.wanted;split at h
 ·grind
 ·rename_i j l n;simp only[n];obtain⟨d,i,h⟩:=h;have q:∀v,a.tmps.getD d undef=v->UY v=true->yielded ops a.tmps j=none:=by
   intro v e f;simp only[yielded,i,Option.bind_some];by_cases c:d < a.tmps.size
   ·simp only[Array.getD,c,dif_pos]at e;simp only[Array.getElem?_eq_getElem c];have:a.tmps[d]=v:=e;rw[this];cases v<;>first | rfl | simp[UY]at f
   ·simp[c]
  rcases h with⟨b,m,rfl⟩ | ⟨v,e,f,rfl⟩
  ·have:=k d;have this:=Hg m this;have p:yielded ops a.tmps j=some b:=by
    simp only[yielded,i,Option.bind_some];by_cases c:d < a.tmps.size
    ·simp_all
    ·simp[Array.getD,c,undef]at this
   grind
  ·have:=k d;rw[e]at this;simp only[Sl.Rel,Sv.Rel,Lf.Rel]at this
   grind
def Alike (x y:Sl D):Prop:=x=y\/∃b,bOf x=some b/\bOf y=some b
theorem Alike.refl (x:Sl D):Alike x x:= .inl rfl
theorem Alike.symm {x y:Sl D}(h:Alike x y):Alike y x:=by
 rcases h with rfl | ⟨b,a,c⟩
 ·exact .inl rfl
 ·exact .inr ⟨b,c,a⟩
theorem Alike.trans {x y z:Sl D}(h:Alike x y)(k:Alike y z):Alike x z:=by
 rcases h with rfl | ⟨b,d,e⟩
 ·exact k
 ·rcases k with rfl | ⟨c,a,f⟩
  ·exact .inr ⟨b,d,e⟩
  ·rw[e]at a;injection a with a
   subst a;exact .inr ⟨b,d,f⟩
theorem aHk {M:Nat->Prop}{g:Nat->Option Value}{x:Sl D}{b:Bool}(h:bOf x=some b):x.Rel S M w g (.bool b):=by
 unfold bOf at h;split at h
 ·injection h with h;subst h;rfl
 ·injection h with h;subst h;rfl
 ·cases h
theorem Alike.rel {M:Nat->Prop}{g:Nat->Option Value}{x y:Sl D}{v:Value}(h:Alike x y)(a:x.Rel S M w g v):y.Rel S M w g v:=by
 rcases h with rfl | ⟨b,c,d⟩
 ·exact a
 ·rw[Hg c a];exact aHk d
theorem Holds.alike {b:Nat->Sl D}(h:Holds S w0 g0 N n slot blk al a w)(c:∀t,Alike (slot t) (b t)):Holds S w0 g0 N n b blk al a w:=by
 obtain⟨g,d,f,e⟩:=h;exact⟨g,d,fun t=>(c t).rel (f t),e⟩
theorem yO {a:Nat->Sl D}(c:∀t,Alike (slot t) (a t))(t:Nat):Alike (Bl slot W t) (Bl a W t):=by
 unfold Bl;cases W.dst with
 | none=>exact c t
 | some d=>
  by_cases b:t=d
  ·subst b;show Alike (upd slot t W.val t) (upd a t W.val t)
   rw[upd_same,upd_same];exact Alike.refl _
  ·show Alike (upd slot d W.val t) (upd a d W.val t)
   rw[df _ _ _ _ b,df _ _ _ _ b];exact c t
theorem WH {i:Nat}(D:∀t J,T t=some J->gW P t J)(E:∀f C,Γ f=some C->gZ P S f C)(V:jE S)(Y:ops[i]? =some o)(h:Holds S w0 g0 N n slot blk al a w)(H:∀n,fr<=n->n < fr+64->¬al n)
  (k:YM T S Γ ops n fr slot blk o W) (X:∀G b,Holds S w0 g0 N n (Bl slot W) (BH blk W) (fun l=>al l\/(fr<=l/\l < fr+64)) G b->K G b):wpOp P ops Q i K a w:=by
 obtain⟨g,F,s,U,O,I⟩:=h;obtain⟨j,aa,k⟩:=k;have u:∀v b g',More g g'->Keeps (bi N blk g) w (bi N (BH blk W) g') b->Hp S w0 N (BH blk W) g' (fun l=>al l\/(fr<=l/\l < fr+64)) b->W.val.Rel S (bi N (BH blk W) g') b g' v->K (a.put o.dst v) b:=by
  intro v b g' r z q p;have L:∀x,o.dst=some x->x < a.tmps.size:=fun x M=>by grind
  refine X _ _ ⟨g',q,fun t=> ?_,?_,?_,fun l v h=>r l v (I l v h)⟩
  ·rw[atE L];by_cases c:o.dst=some t
   ·rw[yY c];simp only[Bl,j,c,upd_same];exact p
   ·rw[yc c];have:Bl slot W t=slot t:=by
     unfold Bl;rw[j];cases R:o.dst with
     | none=>rfl
     | some d=>exact df _ _ _ _ (fun e=>c (by rw[R,e]))
    rw[this];exact(s t).keep z r
  ·cases c:o.dst<;>simp[Act.put,U]
  ·cases c:o.dst<;>simp[Act.put,O]
 unfold wpOp;simp only[Y];rcases k with⟨A,ab,M,B,p,m⟩ | ⟨A,p,m⟩
 ·rw[RD s A,yY rfl];refine .inl (ali D E V F H s M B ?_);intro v b g' r z q Z;refine u v b g' r ?_ ?_ ?_
  ·simpa[BH,m]using z
  ·simpa[BH,m]using q
  ·simpa[BH,m,p]using Z
 ·rw[RD s A];have y:BH blk W=blk:=by simp[BH,m,mM]
  refine u undef w g (More.refl _) (by rw[y];exact Keeps.refl _ _) (by rw[y];exact F.weaken fun _ h=> .inl h) (by rw[p];rfl)
def Trace (T:TypeId->Option Ty)(S:Sh D)(c:FuncId->Option (Ct D))(a:Array Oper)(n:Nat):Nat->(Nat->Sl D)->(Nat->Option (Bk D))->List Oper->List (Wr D)->Prop
 | _,_,_,[],[]=>True
 | b,slot,blk,o::r,W::e=>(∃d,(∀t,Alike (slot t) (d t))/\YM T S c a n b d blk o W)/\Trace T S c a n (b+64) (Bl slot W) (BH blk W) r e
 | _,_,_,_,_=>False
def En:(Nat->Sl D)->List (Wr D)->(Nat->Sl D)
 | slot,[]=>slot
 | slot,W::a=>En (Bl slot W) a
def IV:(Nat->Option (Bk D))->List (Wr D)->(Nat->Option (Bk D))
 | blk,[]=>blk
 | blk,W::a=>IV (BH blk W) a
theorem ahO (s:∀t G,T t=some G->gW P t G)(u:∀f E,Γ f=some E->gZ P S f E)(F:jE S):
  ∀(l:List Oper) (m:List (Wr D)) (i d:Nat) (b:Nat->Sl D) (c:Nat->Option (Bk D)) (a:Act) (w:World),(∀j,l[j]? =ops[i+j]?)->Trace T S Γ ops n d b c l m->Holds S w0 g0 N n b c (· < d) a w->
   (∀p q,Holds S w0 g0 N n (En b m) (IV c m) (· < d+64*l.length) p q->Q .normal p q)->wpOps P ops Q (List.range' i l.length) a w
 | [],[],i,d,b,c,a,w,_,_,h,v=>by simpa[wpOps]using v a w (by simpa[En,IV]using h)
 | [],_::_,_,_,_,_,_,_,_,k,_,_=>by simp[Trace]at k
 | _::_,[],_,_,_,_,_,_,_,k,_,_=>by simp[Trace]at k
 | o::l,W::m,i,d,b,c,a,w,x,k,h,v=>by
  rw[yG,List.range'_succ,wpOps_cons];have I:ops[i]? =some o:=by simpa using(x 0).symm
  obtain⟨⟨L,y,C⟩,B⟩:=k;refine WH s u F I (h.alike y) au C fun p q K=> ?_;obtain⟨g,J,r⟩:=K.alike (yO fun t=>(y t).symm);refine ahO s u F l m (i+1) (d+64) _ _ p q (fun j=>by have:=x (j+1);grind) B ⟨g,J.weaken fun l x=>by omega,r⟩ fun A z H=>v A z ?_;have e:d+64*(l.length+1)=d+64+64*l.length:=by omega
  rw[yG,e];simpa only[En,IV]using H
end
end Go.Vc
namespace Go.Vc
open Go.RowKit
def aaq:Op->Bool
 | .load _ _ | .store _ _ _ | .indexAddr _ _ _ | .call _ | .slice _ _ _ _ _ | .buildSlice _ _ _ | .next _ _ | .lookup _ _ _ _ | .mapUpdate _ _ _ _ | .insert _ _ _ _ | .convert _ _ _ | .makeInterface _ _ | .makeFunc _ _ _=>true
 | _=>false
def isFn:Op->Bool
 | .call c=>(match c.callee with
  | .value _=>true
  | _=>false)
 | _=>false
def d_ {D:Type}(a:Nat->Sl D)(b:Nat->Option (Bk D))(o:Op):List Nat:=
 if isFn o then reach b 3 (nM [] (o.operands.toList.flatMap fun x=>(aN a x).refs))else if aaq o then o.operands.toList.flatMap fun x=>(aN a x).refs else[]
def Wr.keys {D:Type}(W:Wr D):List Nat:=W.blks.map (·.1)
def JL (o:Oper)(i:Nat):Bool:=o.after.toList.any fun e=>Region.binds .any e && Nat.beq e.on i
def xq (a:Array Oper):Nat->Oper->Nat->Bool
 | 0,o,i=>JL o i
 | k+1,o,i=>JL o i || o.after.toList.any fun e=>Region.binds .any e && (match a[e.on]? with
  | some o'=>xq a k o' i
  | none=>false)
theorem akH {a:Array Oper}{o:Oper}{i:Nat}(h:JL o i=true):∀k,xq a k o i=true
 | 0=>h
 | k+1=>by simp[xq,h]
section
variable {D:Type}{P:Program}{S:Sh D}{T:TypeId->Option Ty}{Γ:FuncId->Option (Ct D)}{N:Nat->Prop}{w w':World}{w0:Bs}{blk blk':Nat->Option (Bk D)}{al:Nat->Prop}
 {a:Act} {o:Oper} {K:Act->World->Prop} {Q:Exit->Act->World->Prop} {slot dE:Nat->Sl D} {fr n:Nat} {ops:Array Oper} {W:Wr D}
theorem aku {x y:Sl D}(h:Alike x y):x.refs=y.refs:=by
 rcases h with rfl | ⟨b,d,e⟩
 ·rfl
 ·have c:∀z:Sl D,bOf z=some b->z.refs=[]:=by
   intro z a;unfold bOf at a;split at a<;>first | rfl | cases a
  grind
theorem Fj {op:Op}(h:∀t,Alike (slot t) (dE t)):d_ slot blk op=d_ dE blk op:=by
 have:(fun x=>(aN slot x).refs)=fun x=>(aN dE x).refs:=by
  funext x;cases x with
  | tmp t=>exact aku (h t)
  | _=>rfl
 unfold d_;rw[this]
theorem Bv:∀(n:Nat) (ids:List Nat) (l:Nat),l∈ids->l∈reach blk n ids
 | 0,_,_,h=>h
 | n+1,ids,l,h=>Bv n _ l ((fU _ _ _).2 (.inl h))
theorem D9:∀(n:Nat) (ids a:List Nat),(∀l∈ids,l∈a)->∀l∈reach blk n ids,l∈reach blk n a
 | 0,_,_,h=>h
 | n+1,ids,a,h=>by
  refine D9 n _ _ fun l c=> ?_;rcases(fU _ _ _).1 c with q | q
  ·exact(fU _ _ _).2 (.inl (h l q))
  ·obtain⟨x,d,b⟩:=zA.1 q;exact(fU _ _ _).2 (.inr (zA.2 ⟨x,h x d,b⟩))
theorem oO {b c:Type}{l:List b}{f a:b->List c}(h:∀x∈l,f x=a x):l.flatMap f=l.flatMap a:=by
 induction l with
 | nil=>rfl
 | cons x r d=>grind
theorem RX:∀(n:Nat) (ids:List Nat),(∀l∈reach blk n ids,blk l=blk' l)->reach blk n ids=reach blk' n ids
 | 0,_,_=>rfl
 | n+1,ids,h=>by
  have e:(ids.flatMap fun l=>match blk l with
    | some a=>a.refs
    | none=>[])=(ids.flatMap fun l=>match blk' l with
    | some a=>a.refs
    | none=>[]):=oO fun l b=>by rw[h l (Bv (n+1) ids l b)]
  have c:∀l∈reach blk n (nM ids (ids.flatMap fun l=>match blk l with
    | some a=>a.refs
    | none=>[])),blk l=blk' l:=h
  have r:=RX n _ c;refine Qcn (show reach blk (n+1) ids=_ from r) ?_;rw[e];rfl
theorem LP:∀(ids:List Nat),(∀l∈ids,blk l=blk' l)->vJ blk ids=vJ blk' ids
 | [],_=>rfl
 | x::r,h=>by
  unfold vJ;rw[h x qb,LP r fun l hl=>h l qcp]
theorem Oi {a:Ct D}{args:List (Sl D)}{jU:List Nat}(h:∀l∈reach blk 3 (nM [] (args.flatMap Sl.refs)),blk l=blk' l)(g:∀l∈jU,blk l=blk' l):DY a blk fr args jU=DY a blk' fr args jU:=by
 have b:=RX _ _ h;have c:=LP _ h;have d:jU.filterMap (jM blk)=jU.filterMap (jM blk'):=by
  clear h b c;induction jU with
  | nil=>rfl
  | cons x r f=>
   have e:jM blk x=jM blk' x:=by unfold jM;grind
   grind
 unfold DY;dsimp only;rw[<-b,c,d]
theorem KY {ty:Ty}:∀(a:List (Nat×Operand)) (cs:List (Lf D)),(∀p∈a,aN slot p.2=aN dE p.2)->JH ty slot a cs=JH ty dE a cs
 | [],_,_=>rfl
 | (f,x)::r,cs,h=>by
  have b:aN slot x=aN dE x:=h (f,x) qb;have c:=fun cs=>KY (ty:=ty) r cs fun p d=>h p (by simp[d])
  simp only[JH,b,c]
theorem AA {sz:Nat}:∀(a:List (Nat×Operand)) (cs:List (Lf D)),(∀p∈a,aN slot p.2=aN dE p.2)->zC sz slot a cs=zC sz dE a cs
 | [],_,_=>rfl
 | (f,x)::r,cs,h=>by
  have b:aN slot x=aN dE x:=h (f,x) qb;have c:=fun cs=>AA (sz:=sz) r cs fun p d=>h p (by simp[d])
  simp only[zC,b,c]
theorem ahu {t:TypeId}{x:Sl D}(h:∀l∈x.refs,blk l=blk' l):F9 T S blk t x=F9 T S blk' t x:=by
 unfold F9;cases T t with
 | none=>rfl
 | some c=>
  cases x with
  | x8 b=>rfl
  | one x=>
   cases x with
   | agg b=>rfl
   | lf x=>cases x<;>first | rfl | (have a:=h _ (Ko.2 rfl);simp only[a])
theorem adp {t:TypeId}{x y:Sl D}(h:∀l∈x.refs,blk l=blk' l):J3 T S blk t x y=J3 T S blk' t x y:=by
 unfold J3;cases T t with
 | none=>rfl
 | some c=>
  cases x with
  | x8 b=>rfl
  | one x=>
   cases x with
   | agg b=>rfl
   | lf x=>
    cases y with
    | x8 d=>cases x<;>rfl
    | one y=>cases x<;>first | rfl | (have a:=h _ (Ko.2 rfl);simp only[a])
theorem ab_ {t:TypeId}{x y:Sl D}(h:∀l∈x.refs,blk l=blk' l):Pn T S blk t x y=Pn T S blk' t x y:=by
 unfold Pn;cases T t with
 | none=>rfl
 | some a=>
  simp only;cases a.elem with
  | none=>rfl
  | some e=>
   simp only;cases T e with
   | none=>rfl
   | some f=>
    cases x with
    | x8 d=>rfl
    | one x=>
     cases x with
     | agg d=>rfl
     | lf x=>
      cases y with
      | x8 c=>cases x<;>rfl
      | one y=>
       cases y with
       | agg c=>cases x<;>rfl
       | lf y=>cases x<;>cases y<;>first | rfl | (have b:=h _ (Ko.2 rfl);simp only[b])
theorem ajX {a:Array TypeId}{x:Sl D}(h:∀l∈x.refs,blk l=blk' l):aq_ S T blk a x=aq_ S T blk' a x:=by
 unfold aq_;split
 ·rfl
 ·split
  ·rfl
  ·cases x with
   | x8 c=>rfl
   | one x=>
    cases x with
    | agg c=>rfl
    | lf x=>
     cases x with
     | own l=>have b:=h l qbq;simp only[b]
     | val v=>grind
     | _=>rfl
theorem EY {x:Sl D}(h:∀l∈x.refs,blk l=blk' l):Nr blk x=Nr blk' x:=by
 cases x with
 | x8 a=>rfl
 | one x=>
  cases x with
  | agg a=>rfl
  | lf x=>
   cases x with
   | own l=>have b:=h l qbq;simp only[Nr,b]
   | _=>rfl
theorem ZL {b:Array TypeId}{x y:Sl D}(h:∀l∈x.refs,blk l=blk' l)(d:∀l∈y.refs,blk l=blk' l):GX T S blk fr b x y=GX T S blk' fr b x y:=by
 unfold GX;rw[EY d];cases x with
 | x8 f=>rfl
 | one x=>
  cases x with
  | agg f=>rfl
  | lf x=>
   cases x with
   | own l=>have e:=h l qbq;simp only[e]
   | val v=>cases v<;>first | rfl | (rename_i a n c;cases a<;>first | rfl | (cases n<;>first | rfl | (cases c<;>rfl)))
   | _=>rfl
theorem acZ {t:TypeId}{x:Sl D}{a b:Option (Sl D)}(h:∀l∈x.refs,blk l=blk' l):P5 T S blk t x a b=P5 T S blk' t x a b:=by
 unfold P5;split
 ·rfl
 ·split
  ·rfl
  ·split
   ·rfl
   ·rfl
   ·rename_i q;rw[h q qbq]
   ·rfl
theorem aid {a:Array TypeId}{x y:Sl D}(h:∀l∈x.refs,blk l=blk' l):aaI T S blk a x y=aaI T S blk' a x y:=by
 unfold aaI;split
 ·split
  ·split
   ·rfl
   ·split
    ·rfl
    ·split
     ·rfl
     ·split
      ·rename_i l d2;rw[h l qbq]
      ·rfl
  ·rfl
 ·rfl
theorem NQ (x:Lf D):x.norm.refs=x.refs:=by
 unfold Lf.norm;split<;>rfl
theorem L8 (x:Sv D):x.norm.refs=x.refs:=by
 cases x with
 | lf x=>exact NQ x
 | agg a=>simp only[Sv.norm,Sv.refs,Qde];exact oO fun x _=>NQ x
theorem ael (x:Sl D):x.norm.refs=x.refs:=by
 cases x with
 | one x=>exact L8 x
 | x8 a=>simp only[Sl.norm,Sl.refs,Qde];exact oO fun x _=>L8 x
theorem MJ (x:Lf D):∀l∈(x.view blk).refs,l∈x.refs:=by
 cases x with
 | own l=>
  simp only[Lf.view];split
  ·intro a h;simp[Lf.refs]at h
  ·intro a h;simp[Lf.refs]at h
  ·intro a h;simp[Lf.refs]at h
  grind
 | part l i j b f=>
  simp only[Lf.view];split
  ·split<;>(intro a h;simp[Lf.refs]at h)
  ·split<;>(intro a h;simp[Lf.refs]at h)
  grind
 | _=>exact fun l h=>h
theorem L_ (x:Sv D):∀l∈(x.view blk).refs,l∈x.refs:=by
 cases x with
 | lf x=>exact MJ x
 | agg c=>
  intro l a;simp only[Sv.view,Sv.refs,Qde]at a⊢;obtain⟨y,b,a⟩:=zA.1 a;exact zA.2 ⟨y,b,MJ y l a⟩
theorem DV (x:Sl D):∀l∈(x.view blk).refs,l∈x.refs:=by
 cases x with
 | one x=>exact L_ x
 | x8 c=>
  intro l a;simp only[Sl.view,Sl.refs,Qde]at a⊢;obtain⟨y,b,a⟩:=zA.1 a;exact zA.2 ⟨y,b,L_ y l a⟩
theorem IJ {x:Lf D}(h:∀l∈x.refs,blk l=blk' l):x.view blk=x.view blk':=by
 cases x with
 | own l=>simp only[Lf.view];rw[h l qb7]
 | part l i j a f=>simp only[Lf.view];rw[h l qb7]
 | _=>rfl
theorem II {x:Sv D}(h:∀l∈x.refs,blk l=blk' l):x.view blk=x.view blk':=by
 cases x with
 | lf x=>simp only[Sv.view];rw[IJ h]
 | agg c=>simp only[Sv.view];congr 1;exact Qbb fun y b=>IJ fun l a=>h l (zA.2 ⟨y,b,a⟩)
theorem AL {x:Sl D}(h:∀l∈x.refs,blk l=blk' l):x.view blk=x.view blk':=by
 cases x with
 | one x=>simp only[Sl.view];rw[II h]
 | x8 c=>simp only[Sl.view];congr 1;exact Qbb fun y b=>II fun l a=>h l (zA.2 ⟨y,b,a⟩)
theorem L9 (x:Lf D):∀l∈x.owns,l∈x.refs:=by cases x<;>simp[Lf.owns,Lf.refs]
theorem NC (x:Sv D):∀l∈x.owns,l∈x.refs:=by
 cases x with
 | lf x=>exact L9 x
 | agg c=>
  intro l a;obtain⟨y,b,a⟩:=zA.1 a;exact zA.2 ⟨y,b,L9 y l a⟩
theorem DN (x:Sl D):∀l∈x.owns,l∈x.refs:=by
 cases x with
 | one x=>exact NC x
 | x8 c=>
  intro l a;obtain⟨y,b,a⟩:=zA.1 a;exact zA.2 ⟨y,b,NC y l a⟩
theorem Rj {f:FuncId}{args:List (Sl D)}(h:∀l∈reach blk 3 (nM [] (args.flatMap Sl.refs)),blk l=blk' l):Lr Γ f blk args fr=Lr Γ f blk' args fr:=by
 unfold Lr;cases Γ f with
 | none=>rfl
 | some k=>
  dsimp only;have e:(args.map Sl.norm).flatMap Sl.refs=args.flatMap Sl.refs:=by rw[Qde];exact oO fun x _=>ael x
  generalize args.map Sl.norm=b at e;rw[<-e]at h;have g:∀l∈b.flatMap Sl.refs,blk l=blk' l:=fun l a=>h l (Bv _ _ _ ((fU _ _ _).2 (.inr a)))
  have j:b.map (Sl.view blk)=b.map (Sl.view blk'):=Qbb fun x d=>AL fun l a=>g l (zA.2 ⟨x,d,a⟩)
  rw[Oi (blk:=blk) (blk':=blk') (args:=b) (jU:=[]) h (fun l a=>by simp at a)];rw[Oi (blk:=blk) (blk':=blk') (args:=b.map (Sl.view blk)) (jU:=nM [] (b.flatMap Sl.owns)) (fun l a=>h l (D9 3 _ _ (fun l a=> ?_) l a)) (fun l a=>g l ?_),j]
  ·rcases(fU _ _ _).1 a with q | q
   ·simp at q
   ·obtain⟨x,d,c⟩:=zA.1 q;obtain⟨y,i,rfl⟩:=MN.1 d;exact(fU _ _ _).2 (.inr (zA.2 ⟨y,i,DV y l c⟩))
  ·rcases(fU _ _ _).1 a with q | q
   ·simp at q
   ·obtain⟨x,d,c⟩:=zA.1 q;exact zA.2 ⟨x,d,DN x l c⟩
theorem abO {g:Op}(a:∀x∈g.operands.toList,aN slot x=aN dE x)(G:∀l∈d_ slot blk g,blk l=blk' l):DL T S Γ slot blk fr g=DL T S Γ dE blk' fr g:=by
 have d:aaq g=true->∀x∈g.operands.toList,∀l∈(aN dE x).refs,blk l=blk' l:=by
  intro z x hx l s;refine G l ?_;have E:l∈g.operands.toList.flatMap fun x=>(aN slot x).refs:=zA.2 ⟨x,hx,by grind⟩
  unfold d_;split
  ·exact Bv _ _ _ ((fU _ _ _).2 (.inr E))
  omega
 cases g with
 | move x=>simp only[DL];rw[a x pY]
 | assign x=>simp only[DL];rw[a x pY]
 | pick c x y=>simp only[DL,aoA];rw[a c pY,a x pY,a y pY]
 | alloc t=>rfl
 | box t x=>simp only[DL];rw[a x pY]
 | build t w=>
  simp only[DL,acL];split
  ·rw[KY w.toList _ fun p O=>a p.2 qch]
  ·rfl
 | buildSlice t n w=>
  have:∀p∈w.toList,aN slot p.2=aN dE p.2:=fun p O=>a p.2 qch
  simp only[DL,aDm];split
  ·rfl
  ·split
   ·rfl
   ·split
    ·rfl
    ·rw[AA w.toList _ this]
 | load t x=>
  simp only[DL];rw[a x pY,ahu (d rfl x pY)]
 | store t x y=>
  simp only[DL];rw[a x pY,a y pY,adp (d rfl x pY)]
 | nilCheck x=>simp only[DL];rw[a x pY]
 | binOp g t x y V=>simp only[DL];rw[a x pY,a y pY]
 | unOp g t x=>simp only[DL];rw[a x pY]
 | fieldAddr t x f=>simp only[DL];rw[a x pY]
 | field t x f=>simp only[DL];rw[a x pY]
 | indexAddr t x i=>
  simp only[DL];rw[a x pY,a i pY,ab_ (d rfl x pY)]
 | extract x i=>simp only[DL];rw[a x pY]
 | call c=>
  simp only[DL];have b:∀x∈c.args.toList,x∈(Op.call c).operands.toList:=fun x hx=>by
   simp only[Op.operands,Call.operands,Qci,yH];exact .inr hx
  split
  ·split
   ·rename_i x hx;have hx:x∈(Op.call c).operands.toList:=b x qcg;rw[a x hx,ajX (d rfl x hx)]
   ·rfl
  ·grind
  ·grind
  ·split
   ·rename_i x y hx;have j:x∈(Op.call c).operands.toList:=b x qcg;have o:y∈(Op.call c).operands.toList:=b y qcg;rw[a x j,a y o,ZL (d rfl x j) (d rfl y o)]
   ·rfl
  ·split
   ·rename_i x y hx;have j:x∈(Op.call c).operands.toList:=b x qcg;have o:y∈(Op.call c).operands.toList:=b y qcg;rw[a x j,a y o,aid (d rfl x j)]
   ·rfl
  ·rename_i f I;have v:f∈(Op.call c).operands.toList:=by simp[Op.operands,Call.operands,I]
   have A:=a f v;have:c.args.toList.map (aN slot)=c.args.toList.map (aN dE):=Qbb fun x hx=>a x (b x hx)
   rw[A,this];split
   ·rename_i U e B;have R:∀l∈e,blk l=blk' l:=fun l s=>d rfl f v l (by rw[B];exact s)
    have F:e.all (fun l=>isCells (blk l))=e.all (fun l=>isCells (blk' l)):=by
     grind
    rw[F];rw[Rj (blk:=blk) (blk':=blk') fun l s=>G l ?_];have L:isFn (Op.call c)=true:=by simp[isFn,I]
    unfold d_;rw[yY L];refine D9 3 _ _ (fun l s=> ?_) l s;rcases(fU _ _ _).1 s with q | q
    ·simp at q
    ·refine(fU _ _ _).2 (.inr ?_);rw[List.flatMap_append,yH]at q;rcases q with q | q
     ·grind
     ·obtain⟨y,Q,C⟩:=zA.1 q;obtain⟨k,M,rfl⟩:=MN.1 Q;simp[Sl.refs,Sv.refs,Lf.refs]at C;subst C;exact zA.2 ⟨f,v,by rw[A,B];exact M⟩
   ·rfl
  ·rfl
 | makeFunc P first e=>
  have K:∀(l:List Operand),(∀x∈l,aN slot x=aN dE x)->Fb slot l=Fb dE l:=by
   intro l;induction l with
   | nil=>intro _;rfl
   | cons x r W=>intro h;unfold Fb;grind
  cases P with
  | func f=>simp only[DL];rw[K e.toList fun x hx=>a x (by simp only[Op.operands,Qci,yH];exact .inr hx)]
  | _=>rfl
 | makeSlice t x y=>simp only[DL];rw[a x pY,a y pY]
 | index t x y=>simp only[DL];rw[a x pY,a y pY]
 | convert t u x=>simp only[DL];rw[a x pY]
 | slice t x D z N=>
  cases N with
  | some m=>rfl
  | none=>
   have J:D.map (aN slot)=D.map (aN dE):=by
    cases D with
    | none=>rfl
    | some l=>simp only[YJ];rw[a l pY]
   have H:z.map (aN slot)=z.map (aN dE):=by
    cases z with
    | none=>rfl
    | some l=>simp only[YJ];rw[a l pY]
   simp only[DL];rw[a x pY,J,H,acZ (d rfl x pY)]
 | _=>rfl
theorem qP:∀{l:List Operand} {t:Nat},t∈rM l ↔ Operand.tmp t∈l
 | [],t=>by simp[rM]
 | x::r,t=>by
  cases x<;>simp[rM,qP (l:=r)]
theorem acm {c:Type}{k:Nat}:∀(cs:List (Nat×c)) (f a:Nat->c),f k=a k->mM f cs k=mM a cs k
 | [],_,_,h=>h
 | (b,v)::cs,f,a,h=>by
  refine acm cs (upd f b v) (upd a b v) ?_;by_cases e:k=b
  ·subst e;rw[upd_same,upd_same]
  ·rw[df _ _ _ _ e,df _ _ _ _ e,h]
theorem ai2 {a:Op}(m:∀x∈a.operands.toList,aN slot x=aN dE x)(d:∀l∈d_ slot blk a,blk l=blk' l):apu T S Γ slot blk fr a=apu T S Γ dE blk' fr a:=by
 unfold apu;rw[abO m d];split
 ·rfl
 unfold ayJ;cases o:N9 a with
 | false=>simp
 | true=>
  have u:isFn a=false:=by cases a<;>first | rfl | simp[N9]at o
  have w:aaq a=true:=by cases a<;>first | rfl | simp[N9]at o
  have hmr:∀(s:Nat->Sl D) (b:Nat->Option (Bk D)),d_ s b a=a.operands.toList.flatMap fun x=>(aN s x).refs:=fun s b=>by unfold d_;grind
  have ht:∀t∈rM a.operands.toList,slot t=dE t:=fun t ht=>m (.tmp t) (qP.1 ht)
  have g:∀t∈rM a.operands.toList,∀l∈(slot t).refs,blk l=blk' l:=fun t ht l hl=>d l qci
  have p:jl slot a=jl dE a:=by
   unfold jl;congr 1;exact oO fun t h=>by rw[ht t h]
  have n:∀l∈jl slot a,blk l=blk' l:=fun l hl=>by
   rcases(fU _ _ _).1 hl with h | h
   ·simp at h
   ·obtain⟨t,q,r⟩:=zA.1 h;exact g t q l (DN _ l r)
  have k:(jl slot a).filterMap (jM blk)=(jl slot a).filterMap (jM blk'):=uC fun l hl=>by unfold jM;rw[n l hl]
  have e:((jl slot a).all fun l=>isRow (blk l))=((jl slot a).all fun l=>isRow (blk' l)):=by
   grind
  have j:∀x∈a.operands.toList,aN (Ei (rM a.operands.toList) slot blk) x=aN (Ei (rM a.operands.toList) dE blk') x:=by
   intro x hx;cases x with
   | tmp t=>
    have c:=qP.2 hx;simp only[aN,Ei];rw[yY (iL.2 c),yY (iL.2 c),<-ht t c];exact AL fun l hl=>g t c l hl
   | _=>rfl
  simp only[Qcu];rw[<-p,<-k,<-e];rw[abO (blk':=mM blk' ((jl slot a).filterMap (jM blk))) j];intro l hl;rw[hmr]at hl;refine acm _ _ _ ?_;obtain⟨x,hx,hlx⟩:=zA.1 hl;cases x with
  | tmp t=>
   have c:=qP.2 hx;simp only[aN,Ei]at hlx;rw[yY (iL.2 c)]at hlx;exact g t c l (DV _ l hlx)
  | const v=>exact d l qbr
  | func f=>exact d l qbr
  | global i=>exact d l qbr
theorem acu {t:TypeId}{x:Sl D}(h:∀l∈x.refs,blk l=blk' l):OQ T S blk t x=OQ T S blk' t x:=by
 unfold OQ;split
 ·rfl
 ·split
  ·rw[h _ qbq]
  ·rfl
  ·rfl
theorem Zg {t:TypeId}{x y:Sl D}(h:∀l∈x.refs,blk l=blk' l):GK T S blk t x y=GK T S blk' t x y:=by
 unfold GK;split
 ·rfl
 ·split
  ·rw[h _ qbq]
  ·rfl
theorem adV {a:Array TypeId}{x:Sl D}(h:∀l∈x.refs,blk l=blk' l):OB T S blk a x=OB T S blk' a x:=by
 unfold OB;split
 ·split
  ·rfl
  ·split
   ·rfl
   ·split
    ·rfl
    ·split
     ·rw[h _ qbq]
     ·rfl
 ·rfl
theorem ahJ {b:Op}(a:∀x∈b.operands.toList,aN slot x=aN dE x)(h:∀l∈d_ slot blk b,blk l=blk' l):Eo T S slot blk fr b=Eo T S dE blk' fr b:=by
 have d:aaq b=true->isFn b=false->∀x∈b.operands.toList,∀l∈(aN dE x).refs,blk l=blk' l:=by
  intro s n x m l r;refine h l ?_;unfold d_
  grind
 cases b with
 | load t x=>
  simp only[Eo];rw[a x pY,acu (d rfl rfl x pY)]
 | store t x y=>
  simp only[Eo];rw[a x pY,a y pY,Zg (d rfl rfl x pY)]
 | indexAddr t x i=>simp only[Eo];rw[a x pY,a i pY]
 | index t x i=>simp only[Eo];rw[a x pY,a i pY]
 | build t j=>
  simp only[Eo,UK];split
  ·rfl
  ·split
   ·rfl
   ·rw[AA j.toList _ fun p o=>a p.2 qch]
 | call c=>
  simp only[Eo];split
  ·rename_i g;have f:isFn (.call c)=false:=by simp[isFn,g]
   split
   ·rename_i x m;have e:x∈(Op.call c).operands.toList:=by
     simp only[Op.operands,Call.operands,Qci,yH]
     grind
    rw[a x e,adV (d rfl f x e)]
   ·rfl
  ·rfl
 | makeInterface t x=>simp only[Eo];rw[a x pY]
 | typeAssert x q t k=>
  cases k with
  | true=>simp only[Eo];rw[a x pY]
  | false=>rfl
 | _=>rfl
theorem ai_ {a:Op}(c:∀x∈a.operands.toList,aN slot x=aN dE x)(b:∀l∈d_ slot blk a,blk l=blk' l):apB T S Γ slot blk fr a=apB T S Γ dE blk' fr a:=by
 unfold apB;rw[ahJ c b,ai2 c b]
theorem alh {a:Op}(b:∀x∈a.operands.toList,aN slot x=aN dE x)(c:∀l∈d_ slot blk a,blk l=blk' l):asF T S Γ slot blk fr a=asF T S Γ dE blk' fr a:=by
 unfold asF;split
 ·rw[b _ pY]
 ·exact ai_ b c
theorem afV {t:TypeId}{x:Sl D}(h:∀l∈x.refs,blk l=blk' l):mapOf S blk t x=mapOf S blk' t x:=by
 unfold mapOf;split
 ·rw[h _ qbq]
 all_goals rfl
theorem at1 {a:List (Dl D)}:(a.map Dl.lf).flatMap Lf.refs=[]:=by
 induction a with
 | nil=>rfl
 | cons p r b=>rw[Kq,Qcf,b];cases p<;>rfl
theorem aqD {b:Bool}{a:List (Dl D)}{x:Sl D}(h:apR b a=some x):x.refs=[]:=by
 unfold apR at h;split at h
 ·rename_i p;injection h with h
  subst h;cases p<;>rfl
 ·injection h with h
  subst h;exact at1
 ·cases h
theorem XY {p:Op}(a:∀x∈p.operands.toList,aN slot x=aN dE x)(G:∀l∈d_ slot blk p,blk l=blk' l):y_ T S Γ slot blk fr p=y_ T S Γ dE blk' fr p:=by
 have b:aaq p=true->∀x∈p.operands.toList,∀l∈(aN dE x).refs,blk l=blk' l:=by
  intro s x hx l C;refine G l ?_;have F:l∈p.operands.toList.flatMap fun x=>(aN slot x).refs:=zA.2 ⟨x,hx,by grind⟩
  unfold d_;split
  ·exact Bv _ _ _ ((fU _ _ _).2 (.inr F))
  omega
 cases p with
 | alloc t=>rfl
 | load t x=>
  have hx:=a x pY;have g:=b rfl x pY;simp only[y_,aem];rw[hx];split
  ·rfl
  ·split
   ·rename_i l o he;rw[g l qbi]
   ·rfl
 | store t x y=>
  have hx:=a x pY;have g:=b rfl x pY;simp only[y_,TW];rw[hx,a y pY];split
  ·rename_i W l o u _ he _;rw[g l qbi]
  ·rfl
 | indexAddr t x i=>simp only[y_];rw[a x pY,a i pY]
 | index t x i=>simp only[y_];rw[a x pY,a i pY]
 | makeMap t r=>cases r<;>rfl
 | slice t x z s N=>
  cases N with
  | some m=>
   have B:z.map (aN slot)=z.map (aN dE):=by
    cases z with
    | none=>rfl
    | some l=>simp only[YJ];rw[a l pY]
   have A:s.map (aN slot)=s.map (aN dE):=by
    cases s with
    | none=>rfl
    | some l=>simp only[YJ];rw[a l pY]
   have hx:=a x pY;have J:=a m pY;have g:=b rfl x pY;simp only[y_,S9];rw[hx,B,A,J];split
   ·split
    ·rfl
    ·split
     ·rfl
     ·split
      ·rfl
      ·split
       ·rfl
       ·rename_i q he;rw[g q qbi]
       ·rfl
   ·rfl
  | none=>
   have B:z.map (aN slot)=z.map (aN dE):=by
    cases z with
    | none=>rfl
    | some l=>simp only[YJ];rw[a l pY]
   have A:s.map (aN slot)=s.map (aN dE):=by
    cases s with
    | none=>rfl
    | some l=>simp only[YJ];rw[a l pY]
   have hx:=a x pY;have g:=b rfl x pY;simp only[y_,U0];rw[hx,B,A];split
   ·rfl
   ·split
    ·split
     ·split
      ·rfl
      ·split
       ·rename_i q he;rw[g q qbi]
       ·rfl
     ·rfl
    ·rfl
 | lookup t x i P=>
  simp only[y_,UN];rw[a x pY,a i pY,afV (b rfl x pY)]
 | mapUpdate t x i v=>
  have hx:=a x pY;have g:=b rfl x pY;simp only[y_,H5];rw[hx,a i pY,a v pY];split
  ·rfl
  ·split
   ·rfl
   ·split
    ·split
     ·rename_i l k he _;rw[g l qbi]
     ·rfl
    ·rfl
 | insert t x i v=>
  have hx:=a x pY;have g:=b rfl x pY;simp only[y_,H5];rw[hx,a i pY,a v pY];split
  ·rfl
  ·split
   ·rfl
   ·split
    ·split
     ·rename_i l k he _;rw[g l qbi]
     ·rfl
    ·rfl
 | convert t d x=>
  have D:=EY (blk:=blk) (blk':=blk') (b rfl x pY);have e:aaf T S blk t d (aN dE x)=aaf T S blk' t d (aN dE x):=by
   unfold aaf;split
   ·split
    ·rfl
    ·split
     ·rfl
     ·split
      ·split
       ·rfl
       ·rw[D]
      ·rfl
   ·rfl
  simp only[y_];rw[a x pY,e]
 | makeInterface t x=>simp only[y_];rw[a x pY]
 | typeAssert x U t P=>simp only[y_];rw[a x pY]
 | binOp p t x y V=>simp only[y_];rw[a x pY,a y pY]
 | makeFunc Q first L=>
  cases Q with
  | func f=>
   simp only[y_];split
   ·rename_i x X Y;rw[a x (by simp only[Op.operands,Qci,yH];grind)]
   ·rfl
  | _=>rfl
 | nilCheck x=>simp only[y_];rw[a x pY]
 | call c=>
  have h:∀x∈c.args.toList,x∈(Op.call c).operands.toList:=fun x hx=>by
   simp only[Op.operands,Call.operands,Qci,yH];exact .inr hx
  simp only[y_];split
  ·rename_i f H;have K:f∈(Op.call c).operands.toList:=by simp[Op.operands,Call.operands,H]
   have E:=a f K;have this:c.args.toList.map (aN slot)=c.args.toList.map (aN dE):=Qbb fun x hx=>a x (h x hx)
   unfold acQ;rw[E,this];split
   ·split
    ·rename_i x hx;refine Rj fun l C=>G l ?_;have I:isFn (Op.call c)=true:=by simp[isFn,H]
     unfold d_;rw[yY I];refine D9 3 _ _ (fun l C=> ?_) l C;rcases(fU _ _ _).1 C with q | q
     ·simp at q
     ·refine(fU _ _ _).2 (.inr ?_);rw[Qcf,aqD hx,Qch,<-this]at q
      grind
    ·rfl
   ·rfl
  ·split
   ·rename_i x y hx;have j:x∈(Op.call c).operands.toList:=h x qcg;have w:y∈(Op.call c).operands.toList:=h y qcg;have g:=b rfl x j;rw[a x j,a y w];have O:Bz T S blk c.argTypes (aN dE x) (aN dE y)=Bz T S blk' c.argTypes (aN dE x) (aN dE y):=by
     unfold Bz;split
     ·split
      ·split
       ·rfl
       ·split
        ·rfl
        ·split
         ·rfl
         ·split
          ·rfl
          ·rfl
          ·rename_i l he;rw[g l qbi]
          ·rfl
      ·rfl
     ·rfl
    have R:Ce T S blk fr c.argTypes (aN dE x) (aN dE y)=Ce T S blk' fr c.argTypes (aN dE x) (aN dE y):=by
     unfold Ce;split
     ·split
      ·split
       ·rfl
       ·split
        ·rfl
        ·split
         ·split
          ·rfl
          ·split
           ·split
            ·rfl
            ·rename_i l he;rw[g l qbi]
            ·rfl
           ·rfl
         ·rfl
      ·rfl
     ·rfl
    have D:=EY (blk:=blk) (blk':=blk') (b rfl y w);have M:BV T S blk fr c.argTypes (aN dE x) (aN dE y)=BV T S blk' fr c.argTypes (aN dE x) (aN dE y):=by
     unfold BV;rw[D]
    rw[O,R,M]
   ·rfl
  ·grind
  ·split
   ·rename_i x hx;have j:x∈(Op.call c).operands.toList:=h x qcg;have g:=b rfl x j;rw[a x j];unfold DI;split
    ·rename_i l he;rw[g l qbi]
    ·rfl
    ·rfl
   ·rfl
  ·split
   ·rename_i x y hx;have j:x∈(Op.call c).operands.toList:=h x qcg;have w:y∈(Op.call c).operands.toList:=h y qcg;have g:=b rfl x j;rw[a x j,a y w];unfold D7;split
    ·rename_i l n he _;rw[g l qbi]
    ·rfl
    ·rfl
   ·rfl
  ·rfl
 | _=>rfl
theorem aej {a:Op}(p:∀x∈a.operands.toList,aN slot x=aN dE x)(d:∀l∈d_ slot blk a,blk l=blk' l):PS T S Γ slot blk fr a=PS T S Γ dE blk' fr a:=by
 unfold PS;cases n:Gq a with
 | false=>simp
 | true=>
  have u:isFn a=false:=by cases a<;>first | rfl | simp[Gq]at n
  have w:aaq a=true:=by cases a<;>first | rfl | simp[Gq]at n
  have hmr:∀(s:Nat->Sl D) (b:Nat->Option (Bk D)),d_ s b a=a.operands.toList.flatMap fun x=>(aN s x).refs:=fun s b=>by unfold d_;grind
  have ht:∀t∈rM a.operands.toList,slot t=dE t:=fun t ht=>p (.tmp t) (qP.1 ht)
  have g:∀t∈rM a.operands.toList,∀l∈(slot t).refs,blk l=blk' l:=fun t ht l hl=>d l qci
  have o:jl slot a=jl dE a:=by
   unfold jl;congr 1;exact oO fun t h=>by rw[ht t h]
  have m:∀l∈jl slot a,blk l=blk' l:=fun l hl=>by
   rcases(fU _ _ _).1 hl with h | h
   ·simp at h
   ·obtain⟨t,q,r⟩:=zA.1 h;exact g t q l (DN _ l r)
  have k:(jl slot a).filterMap (jM blk)=(jl slot a).filterMap (jM blk'):=uC fun l hl=>by unfold jM;rw[m l hl]
  have e:((jl slot a).all fun l=>isRow (blk l))=((jl slot a).all fun l=>isRow (blk' l)):=by
   grind
  have j:∀x∈a.operands.toList,aN (Ei (rM a.operands.toList) slot blk) x=aN (Ei (rM a.operands.toList) dE blk') x:=by
   intro x hx;cases x with
   | tmp t=>
    have c:=qP.2 hx;simp only[aN,Ei];rw[yY (iL.2 c),yY (iL.2 c),<-ht t c];exact AL fun l hl=>g t c l hl
   | _=>rfl
  simp only[Qcu];rw[<-o,<-k,<-e];rw[XY (blk':=mM blk' ((jl slot a).filterMap (jM blk))) j];intro l hl;rw[hmr]at hl;refine acm _ _ _ ?_;obtain⟨x,hx,hlx⟩:=zA.1 hl;cases x with
  | tmp t=>
   have c:=qP.2 hx;simp only[aN,Ei]at hlx;rw[yY (iL.2 c)]at hlx;exact g t c l (DV _ l hlx)
  | const v=>exact d l qbr
  | func f=>exact d l qbr
  | global i=>exact d l qbr
theorem ak4 {a:Op}(c:∀x∈a.operands.toList,aN slot x=aN dE x)(b:∀l∈d_ slot blk a,blk l=blk' l):arD T S Γ slot blk fr a=arD T S Γ dE blk' fr a:=by
 unfold arD;rw[XY c b,aej c b,alh c b]
theorem agh {b:Op}(g:∀x∈b.operands.toList,aN slot x=aN dE x)(f:∀l∈d_ slot blk b,blk l=blk' l):Yh slot blk b=Yh dE blk' b:=by
 unfold Yh;split
 ·rename_i a;have c:a∈(Op.next a true).operands.toList:=by simp[Op.operands]
  have e:∀l∈(aN slot a).refs,blk l=blk' l:=fun l d=>f l (by
   unfold d_;exact zA.2 ⟨a,c,d⟩)
  rw[<-g a c];split
  ·rename_i l o he;rw[e l qbi]
  ·rfl
 ·rfl
theorem ajx {a:Op}{b:Out D}(d:∀x∈a.operands.toList,aN slot x=aN dE x)(c:∀l∈d_ slot blk a,blk l=blk' l)(h:Does T S Γ slot blk fr a b):Does T S Γ dE blk' fr a b:=by
 unfold Does at h⊢;rw[<-ak4 d c,<-agh d c];exact h
theorem ake (c:∀t∈o.looksAt ops,slot t=dE t)(p:∀l∈d_ slot blk o.op,blk l=blk' l)(h:YM T S Γ ops n fr slot blk o W):YM T S Γ ops n fr dE blk' o W:=by
 have i:∀x∈o.op.operands.toList,aN slot x=aN dE x:=by
  intro x f;cases x with
  | tmp t=>
   refine c t ?_;simp only[Oper.looksAt,yH,Qdp]
   grind
  | _=>rfl
 have q:∀r,Wanted ops slot o r->Wanted ops dE o r:=by
  intro r b;unfold Wanted at b⊢;cases k:o.guard with
  | none=>grind
  | some s=>
   obtain⟨j,m⟩:=s;rw[k]at b;obtain⟨d,A,b⟩:=b;have y:slot d=dE d:=by
    refine c d ?_;simp only[Oper.looksAt,yH,k]
    grind
   grind
 obtain⟨v,w,u⟩:=h;refine⟨v,w,?_⟩;rcases u with⟨g,e,f,a⟩ | ⟨z,a⟩
 ·exact .inl ⟨q _ g,e,ajx i p f,a⟩
 grind
def rD (L:Nat->Bool):Nat->(Nat->Sl D)->List (Wr D)->(Nat->Sl D)
 | _,slot,[]=>slot
 | i,slot,W::a=>rD L (i+1) (if L i then Bl slot W else slot) a
def rJ (L:Nat->Bool):Nat->(Nat->Option (Bk D))->List (Wr D)->(Nat->Option (Bk D))
 | _,blk,[]=>blk
 | i,blk,W::a=>rJ L (i+1) (if L i then BH blk W else blk) a
theorem CY {t:Nat}(h:W.dst≠some t):Bl slot W t=slot t:=by
 unfold Bl;cases a:W.dst with
 | some d=>exact df _ _ _ _ (fun e=>h (by rw[a,e]))
 | none=>rfl
theorem GH {t:Nat}(h:W.dst=some t):Bl slot W t=W.val:=by simp[Bl,h,upd_same]
theorem tH {b:Type}{l:Nat}:∀{a:List (Nat×b)} {f:Nat->b},l∉a.map (·.1)->mM f a l=f l
 | [],f,_=>rfl
 | (k,v)::r,f,h=>by
  simp only[Kq,EC,not_or]at h;simp only[mM];rw[tH h.2,df _ _ _ _ h.1]
theorem aeS {d:Type}{l:Nat}:∀{b:List (Nat×d)} {f a:Nat->d},l∈b.map (·.1)->mM f b l=mM a b l
 | [],f,a,h=>by simp at h
 | (k,v)::r,f,a,h=>by
  simp only[mM];by_cases c:l∈r.map (·.1)
  ·exact aeS c
  ·simp only[Kq,EC]at h;rcases h with rfl | h
   ·rw[tH c,tH c,upd_same,upd_same]
   grind
theorem JI {L e:Nat->Bool}{t:Nat}:∀(d:List (Wr D)) (i:Nat) (a b:Nat->Sl D),(∀j W,d[j]? =some W->W.dst=some t->L (i+j)=e (i+j))->a t=b t->rD L i a d t=rD e i b d t
 | [],i,a,b,_,h=>h
 | W::d,i,a,b,f,h=>by
  simp only[rD];refine JI d (i+1) _ _ (fun j W' hj c=>by have:=f (j+1) W' qb9 c;grind) ?_;by_cases c:W.dst=some t
  ·have:=f 0 W rfl c;simp only[UX]at this;rw[this];split
   ·rw[GH c,GH c]
   ·exact h
  ·have g:(if L i then Bl a W else a) t=a t:=by split<;>first | exact CY c | rfl
   have k:(if e i then Bl b W else b) t=b t:=by split<;>first | exact CY c | rfl
   grind
theorem Jt {L e:Nat->Bool}{t:Nat}:∀(d:List (Wr D)) (i:Nat) (b a:Nat->Option (Bk D)),(∀j W,d[j]? =some W->t∈W.keys->L (i+j)=e (i+j))->b t=a t->rJ L i b d t=rJ e i a d t
 | [],i,b,a,_,h=>h
 | W::d,i,b,a,f,h=>by
  simp only[rJ];refine Jt d (i+1) _ _ (fun j W' hj c=>by have:=f (j+1) W' qb9 c;grind) ?_;by_cases c:t∈W.keys
  ·have:=f 0 W rfl c;simp only[UX]at this;rw[this];split
   ·exact aeS c
   ·exact h
  ·have g:(if L i then BH b W else b) t=b t:=by split<;>first | exact tH c | rfl
   have k:(if e i then BH a W else a) t=a t:=by split<;>first | exact tH c | rfl
   grind
theorem Ih {L:Nat->Bool}{t:Nat}(b:List (Wr D))(i:Nat)(a:Nat->Sl D)(h:∀j W,b[j]? =some W->W.dst=some t->L (i+j)=false):rD L i a b t=a t:=by
 induction b generalizing i a with
 | nil=>rfl
 | cons W b d=>
  simp only[rD];rw[d (i+1) _ fun j W' hj c=>by have:=h (j+1) W' qb9 c;grind];by_cases c:W.dst=some t
  ·have:=h 0 W rfl c
   grind
  ·split<;>first | exact CY c | rfl
theorem H9 {L:Nat->Bool}{t:Nat}(b:List (Wr D))(i:Nat)(a:Nat->Option (Bk D))(h:∀j W,b[j]? =some W->t∈W.keys->L (i+j)=false):rJ L i a b t=a t:=by
 induction b generalizing i a with
 | nil=>rfl
 | cons W b d=>
  simp only[rJ];rw[d (i+1) _ fun j W' hj c=>by have:=h (j+1) W' qb9 c;grind];by_cases c:t∈W.keys
  ·have:=h 0 W rfl c
   grind
  ·split<;>first | exact tH c | rfl
theorem abC {L:Nat->Bool}{t:Nat}:∀(c:List (Wr D)) (b i:Nat) (a:Nat->Sl D) (W:Wr D),c[i]? =some W->L (b+i)=true->W.dst=some t->(∀j d,i < j->c[j]? =some d->d.dst=some t->L (b+j)=false)->rD L b a c t=W.val
 | [],b,i,a,W,h,_,_,_=>by simp at h
 | V::c,b,0,a,W,h,k,g,f=>by
  simp only[Qcg,P7]at h;subst h;simp only[rD];rw[Ih c (b+1) _ fun j d hj e=>by have:=f (j+1) d au qb9 e;grind];simp only[UX]at k;rw[k];exact GH g
 | V::c,b,i+1,a,W,h,k,g,f=>by
  simp only[rD];exact abC c (b+1) i _ W qbt rf g fun j d hj l e=>by have:=f (j+1) d au (by simpa using l) e;grind
theorem aa8 {L:Nat->Bool}{t:Nat}:∀(c:List (Wr D)) (b i:Nat) (d a:Nat->Option (Bk D)) (W:Wr D),c[i]? =some W->L (b+i)=true->t∈W.keys->(∀j e,i < j->c[j]? =some e->t∈e.keys->L (b+j)=false)->rJ L b d c t=BH a W t
 | [],b,i,d,a,W,h,_,_,_=>by simp at h
 | V::c,b,0,d,a,W,h,l,k,g=>by
  simp only[Qcg,P7]at h;subst h;simp only[rJ];rw[H9 c (b+1) _ fun j e hj f=>by have:=g (j+1) e au qb9 f;grind];simp only[UX]at l;rw[l];exact aeS k
 | V::c,b,i+1,d,a,W,h,l,k,g=>by
  simp only[rJ];exact aa8 c (b+1) i _ a W qbt rf k fun j e hj m f=>by have:=g (j+1) e au (by simpa using m) f;grind
theorem ahy {L:Nat->Bool}:∀(c:List (Wr D)) (b:Nat) (a:Nat->Sl D),(∀j,j < c.length->L (b+j)=true)->rD L b a c=En a c
 | [],_,_,_=>rfl
 | W::c,b,a,h=>by
  have d:=h 0 qb;simp only[UX]at d;simp only[rD,d,if_true,En];exact ahy c (b+1) _ fun j hj=>by have:=h (j+1) qb9;grind
theorem ahb {L:Nat->Bool}:∀(c:List (Wr D)) (b:Nat) (a:Nat->Option (Bk D)),(∀j,j < c.length->L (b+j)=true)->rJ L b a c=IV a c
 | [],_,_,_=>rfl
 | W::c,b,a,h=>by
  have d:=h 0 qb;simp only[UX]at d;simp only[rJ,d,if_true,IV];exact ahb c (b+1) _ fun j hj=>by have:=h (j+1) qb9;grind
theorem X8:∀(l:List Oper) (d:List (Wr D)) (b i e:Nat) (a:Nat->Sl D) (c:Nat->Option (Bk D)) (o:Oper),Trace T S Γ ops n e a c l d->l[i]? =some o->
  ∃W,d[i]? =some W/\∃k,(∀t,Alike (rD (fun j=>decide (j < b+i)) b a d t) (k t))/\YM T S Γ ops n (e+64*i) k (rJ (fun j=>decide (j < b+i)) b c d) o W
 | [],_,_,i,_,_,_,_,_,h=>by simp at h
 | _::_,[],_,_,_,_,_,_,f,_=>by simp[Trace]at f
 | o'::l,W::d,b,0,e,a,c,o,f,h=>by
  simp only[Qcg,P7]at h;subst h;refine⟨W,rfl,?_⟩;have m:rD (fun j=>decide (j < b+0)) b a (W::d)=a:=by
   funext t;exact Ih _ _ _ fun j W' _ _=>by simp
  have q:rJ (fun j=>decide (j < b+0)) b c (W::d)=c:=by
   funext t;exact H9 _ _ _ fun j W' _ _=>by simp
  rw[m,q];exact f.1
 | o'::l,W::d,b,i+1,e,a,c,o,f,h=>by
  obtain⟨W',g,r⟩:=X8 l d (b+1) i (e+64) _ _ o f.2 qbt;refine⟨W',by simpa using g,?_⟩;have p:decide (b < b+(i+1))=true:=by simp
  simp only[rD,rJ,p,if_true]
  grind
theorem LD:∀(l:List Oper) (a:List (Wr D)) (c:Nat) (b:Nat->Sl D) (d:Nat->Option (Bk D)),Trace T S Γ ops n c b d l a->a.length=l.length
 | [],[],_,_,_,_=>rfl
 | [],_::_,_,_,_,h=>by simp[Trace]at h
 | _::_,[],_,_,_,h=>by simp[Trace]at h
 | _::l,_::a,c,_,_,h=>by simp[LD l a _ _ _ h.2]
end
end Go.Vc
namespace Go.Vc
open Go.RowKit
def zV (a:Array Oper):Bool:=
 (List.range a.size).all fun j=>
  match a[j]? with
  | none=>true
  | some b=>(b.after.toList.all fun e=> !Region.binds .any e || Nat.blt e.on j) && (List.range j).all fun i=>
   match a[i]? with
   | none=>true
   | some c=>Oper.apart a c b || JL b i
section
variable {D:Type}{P:Program}{S:Sh D}{T:TypeId->Option Ty}{Γ:FuncId->Option (Ct D)}{N:Nat->Prop}{w w':World}{w0:Bs}{g0:Nat->Option Value}{blk blk':Nat->Option (Bk D)}{al:Nat->Prop}
 {a:Act} {o:Oper} {K:Act->World->Prop} {Q:Exit->Act->World->Prop} {slot dE:Nat->Sl D} {fr n:Nat} {ops:Array Oper} {W:Wr D} {Ws:List (Wr D)}
theorem acR (h:zV ops=true){j:Nat}{c:Oper}(a:ops[j]? =some c):∀e∈c.after.toList,Region.binds .any e=true->e.on < j:=by
 intro e d f;have b:j < ops.size:=(Qdb.1 a).1;have:=Qa2.1 h j (Qca.2 b);simp only[a,kW]at this;have:=Qa2.1 this.1 e d;simp_all
theorem FN (h:zV ops=true){i j:Nat}{c a:Oper}(e:i < j)(f:ops[i]? =some c)(d:ops[j]? =some a):Oper.apart ops c a=true\/JL a i=true:=by
 have b:j < ops.size:=(Qdb.1 d).1;have:=Qa2.1 h j (Qca.2 b)
 grind
def NI (a:Nat->Sl D)(b:Nat->Option (Bk D))(d:List (Wr D))(c:Array Oper)(i:Nat):List Nat:=
 match c[i]? with
 | some o=>d_ (rD (fun j=>decide (j < i)) 0 a d) (rJ (fun j=>decide (j < i)) 0 b d) o.op
 | none=>[]
def au9 (b:Nat->Sl D)(d:Nat->Option (Bk D))(c:List (Wr D))(a:Array Oper):Prop:=
 ∀i j g e f l,i < j->a[j]? =some g->c[i]? =some e->c[j]? =some f->((l∈f.keys/\(l∈NI b d c a i\/l∈e.keys))\/(l∈NI b d c a j/\l∈e.keys))->xq a 3 g i=true
theorem abY {o:Oper}{i:Nat}(h:JL o i=true):∃e∈o.after.toList,Region.binds .any e=true/\e.on=i:=by
 simp only[JL,Qbi,kW]at h;simp_all
theorem JY {a:Array Bool}(b:∀i o,ops[i]? =some o->a.getD i false=true->∀e∈o.after.toList,Region.binds .any e=true->a.getD e.on false=true):
  ∀(k:Nat) (o:Oper) (i:Nat),(∀e∈o.after.toList,Region.binds .any e=true->a.getD e.on false=true)->xq ops k o i=true->a.getD i false=true
 | 0,o,i,c,h=>by
  obtain⟨e,f,d,rfl⟩:=abY h
  grind
 | k+1,o,i,c,h=>by
  simp only[xq,Qa9,Qbi,kW]at h;rcases h with h | ⟨e,f,d,g⟩
  ·obtain⟨e,f,d,rfl⟩:=abY h
   grind
  ·split at g
   ·rename_i o' j;exact JY b k o' i (b e.on o' j (c e f d)) g
   ·cases g
theorem Vo {a:Array Bool}(f:a.size=ops.size){i:Nat}(h:i∈Region.ready .any ops a):
  ∃o,ops[i]? =some o/\a.getD i false=false/\i < ops.size/\∀e∈o.after.toList,Region.binds .any e=true->a.getD e.on false=true:=by
 simp only[Region.ready,Qbj,Qca,kW]at h;obtain⟨c,g,b⟩:=h;cases d:ops[i]? with
 | none=>grind
 | some o=>
  rw[d]at b;simp only[YJ,Qdg]at b;refine⟨o,rfl,?_,c,fun e k j=> ?_⟩
  ·grind
  ·rw[Array.all_eq_true_iff_forall_mem]at b
   grind
theorem ready_nil {a:Array Bool}(k:a.size=ops.size)(g:zV ops=true)(h:Region.ready .any ops a=[]):∀j,j < ops.size->a.getD j false=true:=by
 intro j;induction j using Nat.strongRecOn with
 | _ j m=>
  intro c;cases l:a.getD j false with
  | true=>rfl
  | false=>
   exfalso;have d:ops[j]? =some ops[j]:=by simp[c]
   have i:j∈Region.ready .any ops a:=by
    simp only[Region.ready,Qbj,Qca,kW];refine⟨c,?_,?_⟩
    ·grind
    ·rw[d];simp only[YJ,Qdg];rw[Array.all_eq_true_iff_forall_mem];intro e f;cases b:Region.binds .any e with
     | false=>rfl
     | true=>
      have:=acR g d e (by simpa using f) b
      grind
   grind
theorem aCI (hTy:∀t ty,T t=some ty->gW P t ty)(hΓ:∀f ct,Γ f=some ct->gZ P S f ct)(hS:jE S)(hd:zV ops=true)(R:Trace T S Γ ops n fr slot blk ops.toList Ws)(I:au9 slot blk Ws ops)
  (hQ:∀a w,Holds S w0 g0 N n (En slot Ws) (IV blk Ws) (· < fr+64*ops.size) a w->Q .normal a w):
  ∀(z:Nat) (b:Array Bool) (a:Act) (w:World),b.size=ops.size->(∀i o,ops[i]? =some o->b.getD i false=true->∀e∈o.after.toList,Region.binds .any e=true->b.getD e.on false=true)->
   b.toList.count false<=z->Holds S w0 g0 N n (rD (fun j=>b.getD j false) 0 slot Ws) (rJ (fun j=>b.getD j false) 0 blk Ws) (fun l=>l < fr\/∃j,b.getD j false=true/\fr+64*j<=l/\l < fr+64*j+64) a w->
   wpAny P .any ops Q z b a w:=by
 have hlen:Ws.length=ops.size:=by simpa using LD _ _ _ _ _ R
 have hWs:∀(j:Nat) (c:Wr D),Ws[j]? =some c->∃k:Oper,ops[j]? =some k/\c.dst=k.dst:=by
  intro j c d;have Z:j < ops.size:=by grind
  obtain⟨W',L,_,_,K⟩:=X8 ops.toList Ws 0 j fr slot blk ops[j] R (by simp[Z]);rw[d]at L;injection L with L
  subst L;exact⟨ops[j],by simp[Z],K.1⟩
 have fin:∀(b:Array Bool) (a:Act) (w:World),b.size=ops.size->Region.ready .any ops b=[]->Holds S w0 g0 N n (rD (fun j=>b.getD j false) 0 slot Ws) (rJ (fun j=>b.getD j false) 0 blk Ws) (fun l=>l < fr\/∃j,b.getD j false=true/\fr+64*j<=l/\l < fr+64*j+64) a w->Q .normal a w:=by
  intro b a w s F h;have hall:=ready_nil s hd F;rw[ahy Ws 0 slot fun j d=>by grind,ahb Ws 0 blk fun j d=>by grind]at h;obtain⟨g,hp,C⟩:=h;refine hQ a w ⟨g,hp.weaken ?_,C⟩
  grind
 intro z;induction z with
 | zero=>
  intro b a w s J hcnt h;have F:Region.ready .any ops b=[]:=by
   cases hx:Region.ready .any ops b with
   | nil=>rfl
   | cons i rs=>
    exfalso;obtain⟨o,ho,hf,Z,_⟩:=Vo s (show i∈Region.ready .any ops b by rw[hx];simp);have U:i < b.size:=by omega
    have aN4:false∈b.toList:=by
     have:b[i]=false:=by simp_all
     grind
    grind
  exact⟨F,fin b a w s F h⟩
 | succ z ih=>
  intro b a w s J hcnt h;refine⟨fun F=>fin b a w s F h,fun i hi=> ?_⟩;obtain⟨y,u,hli,hilt,hed⟩:=Vo s hi;obtain⟨v,A,aFu,heI,K⟩:=X8 ops.toList Ws 0 i fr slot blk y R (by simpa using u);simp only[Dw]at K heI;have V:i < b.size:=by omega
  have x:∀j c k,Ws[j]? =some c->ops[j]? =some k->(j < i->xq ops 3 y j=true)->(i < j->xq ops 3 k i=true)->b.getD j false=decide (j < i):=by
   intro j c k d m h1 h2;rcases Nat.lt_trichotomy j i with p | rfl | p
   ·rw[JY J 3 y j hed (h1 p)];simp[p]
   ·rw[hli];simp
   ·have hn:¬j < i:=by omega
    simp only[hn,decide_false];cases hb:b.getD j false with
    | false=>rfl
    | true=>
     have:=JY J 3 k i (J j k m hb) (h2 p)
     grind
  have Y:∀(j:Nat) (c:Wr D) (k:Oper) (t:Nat),Ws[j]? =some c->ops[j]? =some k->c.dst=some t->k.dst=some t:=by
   grind
  have B:∀j c,Ws[j]? =some c->∃k,ops[j]? =some k:=fun j c d=>by obtain⟨o',ho',_⟩:=hWs j c d;exact⟨o',ho'⟩
  have ao1:∀t∈y.looksAt ops,rD (fun j=>decide (j < i)) 0 slot Ws t=rD (fun j=>b.getD j false) 0 slot Ws t:=by
   intro t O;refine JI Ws 0 slot slot (fun j c d r=> ?_) rfl;obtain⟨k,m⟩:=B j c d;have G:=Y j c k t d m r;simp only[Dw];refine(x j c k d m (fun p=> ?_) (fun q=> ?_)).symm
   ·rcases FN hd p m u with H | X
    ·exact absurd O ((Oper.apart_spec H).1 t G)
    ·exact akH X 3
   ·rcases FN hd q u m with H | X
    ·exact absurd O ((Oper.apart_spec H).2.2 t G)
    ·exact akH X 3
  have hrd:NI slot blk Ws ops i=d_ (rD (fun j=>decide (j < i)) 0 slot Ws) (rJ (fun j=>decide (j < i)) 0 blk Ws) y.op:=by simp[NI,u]
  have hblk:∀l∈d_ (rD (fun j=>decide (j < i)) 0 slot Ws) (rJ (fun j=>decide (j < i)) 0 blk Ws) y.op,rJ (fun j=>decide (j < i)) 0 blk Ws l=rJ (fun j=>b.getD j false) 0 blk Ws l:=by
   intro l U;refine Jt Ws 0 blk blk (fun j c d M=> ?_) rfl;obtain⟨k,m⟩:=B j c d;simp only[Dw];exact(x j c k d m (fun p=>I j i y c v l p u d A (.inr ⟨by grind,M⟩)) (fun q=>I i j k v c l q m A d (.inl ⟨M, .inl rf⟩))).symm
  have hst':=ake (dE:=fun t=>if t∈y.looksAt ops then aFu t else rD (fun j=>b.getD j false) 0 slot Ws t) (fun t O=>by grind) (fun l U=>hblk l (by rw[Fj heI];exact U)) K;have heL:∀t,Alike (rD (fun j=>b.getD j false) 0 slot Ws t) (if t∈y.looksAt ops then aFu t else rD (fun j=>b.getD j false) 0 slot Ws t):=by
   intro t;by_cases O:t∈y.looksAt ops
   ·grind
   ·rw[yc O];exact Alike.refl _
  refine WH hTy hΓ hS u (h.alike heL) ?_ hst' fun a' w' h'=> ?_
  ·grind
  ·
   have h':=h'.alike (yO (W:=v) fun t=>(heL t).symm);have E:∀j,(b.setIfInBounds i true).getD j false=(if j=i then true else b.getD j false):=by
    intro j;by_cases p:j=i
    ·subst p;simp[Array.getD,V]
    ·simp only[p,if_false,Array.getD];by_cases hjl:j < b.size
     ·have q:¬i=j:=fun e=>p e.symm
      simp[hjl,q]
     ·simp[hjl]
   have e1:Bl (rD (fun j=>b.getD j false) 0 slot Ws) v=rD (fun j=>(b.setIfInBounds i true).getD j false) 0 slot Ws:=by
    funext t;by_cases r:v.dst=some t
    ·rw[GH r];refine(abC Ws 0 i slot v A (by simp[E]) r fun j c q d G=> ?_).symm;obtain⟨k,m⟩:=B j c d;simp only[Dw,E,show j≠i by omega,if_false];have:=x j c k d m (fun h=>by omega) (fun _=>by
      rcases FN hd q u m with H | X
      ·exact absurd (Y j c k t d m G) ((Oper.apart_spec H).2.1 t (Y i v y t A u r))
      ·exact akH X 3)
     grind
    ·rw[CY r];refine JI Ws 0 slot slot (fun j c d G=> ?_) rfl
     grind
   have e2:BH (rJ (fun j=>b.getD j false) 0 blk Ws) v=rJ (fun j=>(b.setIfInBounds i true).getD j false) 0 blk Ws:=by
    funext t;by_cases M:t∈v.keys
    ·refine(aa8 Ws 0 i blk _ v A (by simp[E]) M fun j c q d hkj=> ?_).symm;obtain⟨k,m⟩:=B j c d;simp only[Dw,E,show j≠i by omega,if_false];have:=x j c k d m (fun h=>by omega) (fun _=>I i j k v c t q m A d (.inl ⟨hkj, .inr M⟩))
     grind
    ·rw[show BH (rJ (fun j=>b.getD j false) 0 blk Ws) v t=rJ (fun j=>b.getD j false) 0 blk Ws t from tH M];refine Jt Ws 0 blk blk (fun j c d hkj=> ?_) rfl
     grind
   rw[e1,e2]at h';refine ih _ a' w' (by simp[s]) ?_ ?_ ?_
   ·grind
   ·have hx:b.toList[i]'(by simpa using V)=false:=by simpa[Array.getD,V]using hli
    grind
   ·obtain⟨g,hp,C⟩:=h';refine⟨g,hp.weaken ?_,C⟩;rintro l ((U | ⟨j,d,F⟩) | F)
    ·exact .inl U
    ·grind
    grind
theorem afB {id:Nat}(y:P.follows .mixedOrders=true)(k:∀t s,T t=some s->gW P t s)(m:∀f d,Γ f=some d->gZ P S f d)(C:jE S)(D:zV ops=true)(e:Trace T S Γ ops n fr slot blk ops.toList Ws)(c:au9 slot blk Ws ops)
  (h:Holds S w0 g0 N n slot blk (· < fr) a w) (E:∀a w,Holds S w0 g0 N n (En slot Ws) (IV blk Ws) (· < fr+64*ops.size) a w->Q .normal a w):(Code.region id ops true).wp P Q a w:=by
 refine wp_region_any y (aCI k m C D e c E ops.size _ a _ qb ?_ qb ?_)
 ·intro i o _ v;exfalso;by_cases b:i < ops.size
  ·simp[Array.getD,b]at v
  ·simp[Array.getD,b]at v
 ·have p:∀j,(Array.replicate ops.size false).getD j false=false:=by
   intro j;by_cases b:j < ops.size<;>simp[Array.getD,b]
  have F:rD (fun j=>(Array.replicate ops.size false).getD j false) 0 slot Ws=slot:=by
   funext t;exact Ih _ _ _ fun j W _ _=>p _
  have I:rJ (fun j=>(Array.replicate ops.size false).getD j false) 0 blk Ws=blk:=by
   funext t;exact H9 _ _ _ fun j W _ _=>p _
  rw[F,I];obtain⟨g,B,z,A,u,r⟩:=h;have H:Below w.heap.size w {w with drawn:=w.drawn+1}:=⟨rfl,rfl,rfl,nO _,fun _ _=>rfl⟩;obtain⟨q,x⟩:=B.grow H;exact⟨g,q.weaken fun l G=> .inl G,fun t=>(z t).keep x (More.refl _),A,u,r⟩
end
end Go.Vc
namespace Go.Vc
open Go.RowKit
structure Alg (τ:Type 1) where
 stuck:τ
 ob:DP->τ->τ
 br:Bool->τ->τ->τ
structure YV {τ:Type 1}(A:Alg τ)(den:τ->Prop):Prop where
 stuck:¬den A.stuck
 ob:∀{p k},den (A.ob p k)->p.p/\den k
 br:∀{b t e},den (A.br b t e)->(b=true->den t)/\(b=false->den e)
def Alg.opt {a:Type 1}(A:Alg a)(p:Option DP)(k:a):a:=
 match p with
 | none=>k
 | some p=>A.ob p k
theorem YV.opt {b:Type 1}{A:Alg b}{a:b->Prop}(c:YV A a){p:Option DP}{k:b}(h:a (A.opt p k)):nJ p/\a k:=by
 cases p with
 | none=>exact⟨trivial,h⟩
 | some p=>exact c.ob h
def look {a:Type}(d:a):List (Nat×a)->Nat->a
 | [],_=>d
 | (k,v)::r,n=>if Nat.beq n k then v else look d r n
theorem xX {a:Type}(d:a)(k:Nat)(v:a)(r:List (Nat×a)):look d ((k,v)::r)=upd (look d r) k v:=by
 funext n;simp only[look,upd];simp_all
theorem ah9 {b:Type}(d:b):∀(a l:List (Nat×b)),look d (a.reverse++l)=mM (look d l) a
 | [],l=>rfl
 | (k,v)::a,l=>by
  rw[List.reverse_cons,Qbc,List.singleton_append,ah9 d a,xX];rfl
structure St (D:Type) where
 tmps:List (Nat×Sl D)
 blks:List (Nat×Option (Bk D))
 next:Nat
def St.slot {D:Type}(s:St D):Nat->Sl D:=look (.one (.lf .any)) s.tmps
def St.blk {D:Type}(s:St D):Nat->Option (Bk D):=look none s.blks
def St.put {D:Type}(s:St D)(a:Option Nat)(v:Sl D)(b:List (Nat×Option (Bk D))):St D:=
 match a with
 | some d=>⟨(d,v)::s.tmps,b.reverse++s.blks,s.next⟩
 | none=>⟨s.tmps,b.reverse++s.blks,s.next⟩
theorem BD {D:Type}(s:St D)(a:Option Nat)(v:Sl D)(b:List (Nat×Option (Bk D))):(s.put a v b).slot=Bl s.slot ⟨a,v,b⟩:=by
 cases a with
 | none=>rfl
 | some d=>exact xX _ _ _ _
theorem Il {D:Type}(s:St D)(a:Option Nat)(v:Sl D)(b:List (Nat×Option (Bk D))):(s.put a v b).blk=BH s.blk ⟨a,v,b⟩:=by
 cases a<;>exact ah9 _ _ _
theorem yh {D:Type}(s:St D)(a:Option Nat)(v:Sl D)(b:List (Nat×Option (Bk D))):(s.put a v b).next=s.next:=by
 cases a<;>rfl
theorem ann {D:Type}{s:St D}{b:Option Nat}{v:Sl D}{d a x:List (Nat×Option (Bk D))}(h:x=a++(s.put b v d).blks):∃c,x=c++s.blks:=by
 cases b<;>exact⟨a++d.reverse,by rw[h];simp[St.put]⟩
theorem ZX {D:Type}{s:St D}{a:Option Nat}{v:Sl D}{b:List (Nat×Option (Bk D))}{t:Nat}(h:a≠some t):(s.put a v b).slot t=s.slot t:=by
 cases a with
 | none=>rfl
 | some d=>
  show look _ _ t=look _ _ t
  rw[show(s.put (some d) v b).tmps=(d,v)::s.tmps from rfl,xX];exact df _ _ _ _ fun e=>h (by rw[e])
def meets (a b:List Nat):Bool:=a.any fun x=>b.any fun y=>Nat.beq x y
def aCR (a:Array Oper)(c:List (Nat×List Nat×List Nat))(o:Oper)(d b:List Nat):Bool:=
 c.any fun p=>(meets b p.2.1 || meets b p.2.2 || meets d p.2.2) && !xq a 3 o p.1
def aga (n:Nat):Option Nat->Bool
 | none=>true
 | some d=>Nat.blt d n
section
variable {D:Type}{τ:Type 1}
def stepW (A:Alg τ)(d:Array Oper)(c:Bool)(o:Oper)(i:Nat)(b:List (Nat×List Nat×List Nat))(s:St D)(a:Out D)(k:List (Nat×List Nat×List Nat)->St D->τ):τ:=
 match c with
 | false=>A.opt a.pre (k b (s.put o.dst a.val a.blks))
 | true=>
  if aCR d b o (d_ s.slot s.blk o.op) (a.blks.map (·.1))then A.stuck
  else A.opt a.pre (k ((i,d_ s.slot s.blk o.op,a.blks.map (·.1))::b) (s.put o.dst a.val a.blks))
def abb (A:Alg τ)(T:TypeId->Option Ty)(S:Sh D)(g:FuncId->Option (Ct D))(c:Array Oper)(a:Bool)(o:Oper)(i:Nat)(d:List (Nat×List Nat×List Nat))(s:St D)(k:List (Nat×List Nat×List Nat)->St D->τ):τ:=
 match Yh s.slot s.blk o.op with
 | some (b,f,h)=>A.br b (stepW A c a o i d s f k) (stepW A c a o i d s h k)
 | none=>
  match arD T S g s.slot s.blk (s.next+64*i) o.op with
  | none=>A.stuck
  | some e=>stepW A c a o i d s e k
def aaH (A:Alg τ)(c:Array Oper)(b:Bool)(o:Oper)(i:Nat)(a:List (Nat×List Nat×List Nat))(s:St D)(k:List (Nat×List Nat×List Nat)->St D->τ):τ:=
 match b with
 | false=>k a (s.put o.dst (.one (.lf (.val undef))) [])
 | true=>
  if aCR c a o (d_ s.slot s.blk o.op) []then A.stuck
  else k ((i,d_ s.slot s.blk o.op,[])::a) (s.put o.dst (.one (.lf (.val undef))) [])
def pV (A:Alg τ)(T:TypeId->Option Ty)(S:Sh D)(f:FuncId->Option (Ct D))(e:Array Oper)(n:Nat)(c:Bool):List Oper->Nat->List (Nat×List Nat×List Nat)->St D->(St D->τ)->τ
 | [],i,_,s,K=>K ⟨s.tmps,s.blks,s.next+64*i⟩
 | o::r,i,a,s,K=>
  match aga n o.dst with
  | false=>A.stuck
  | true=>
   match o.guard with
   | none=>abb A T S f e c o i a s fun a s=>pV A T S f e n c r (i+1) a s K
   | some (j,g)=>
    match(e[j]?).bind (·.dst)with
    | none=>A.stuck
    | some d=>
     match s.slot d with
     | .one (.lf (.bool b))=>
      match g with
      | true=>A.br b (abb A T S f e c o i a ⟨(d, .one (.lf (.val (.bool true))))::s.tmps,s.blks,s.next⟩ fun a s=>pV A T S f e n c r (i+1) a s K)
        (aaH A e c o i a ⟨(d, .one (.lf (.val (.bool false))))::s.tmps,s.blks,s.next⟩ fun a s=>pV A T S f e n c r (i+1) a s K)
      | false=>A.br b (aaH A e c o i a ⟨(d, .one (.lf (.val (.bool true))))::s.tmps,s.blks,s.next⟩ fun a s=>pV A T S f e n c r (i+1) a s K)
        (abb A T S f e c o i a ⟨(d, .one (.lf (.val (.bool false))))::s.tmps,s.blks,s.next⟩ fun a s=>pV A T S f e n c r (i+1) a s K)
     | .one (.lf (.val (.bool b)))=>
      match b==g with
      | true=>abb A T S f e c o i a s fun a s=>pV A T S f e n c r (i+1) a s K
      | false=>aaH A e c o i a s fun a s=>pV A T S f e n c r (i+1) a s K
     | .one (.lf (.val v))=>
      match UY v with
      | true=>aaH A e c o i a s fun a s=>pV A T S f e n c r (i+1) a s K
      | false=>A.stuck
     | _=>A.stuck
end
section
variable {D:Type}{P:Program}{S:Sh D}{T:TypeId->Option Ty}{Γ:FuncId->Option (Ct D)}{N:Nat->Prop}{w w':World}{w0:Bs}{n:Nat}{ops:Array Oper}{τ:Type 1}{A:Alg τ}{den:τ->Prop}
def abe (p:List Nat×List Nat)(a b:List Nat):Prop:=∃l,(l∈b/\(l∈p.1\/l∈p.2))\/(l∈a/\l∈p.2)
theorem Xp {a b:List Nat}{l:Nat}(c:l∈a)(d:l∈b):meets a b=true:=by
 simp only[meets,Qbi];exact⟨l,c,l,d,by simp⟩
theorem aoC {a:List (Nat×List Nat×List Nat)}{o:Oper}{c e:List Nat}(h:¬aCR ops a o c e=true):∀p∈a,abe p.2 c e->xq ops 3 o p.1=true:=by
 intro p j ⟨l,i⟩;cases g:xq ops 3 o p.1 with
 | true=>rfl
 | false=>
  exfalso;apply h;simp only[aCR,Qbi,kW,Qa9];refine⟨p,j,?_,by simp[g]⟩;rcases i with⟨d,f | b⟩ | ⟨k,b⟩
  ·exact .inl (.inl (Xp d f))
  ·exact .inl (.inr (Xp d b))
  ·exact .inr (Xp k b)
def ak2 (a:Array Oper):List (Nat×List Nat×List Nat)->Nat->(Nat->Sl D)->(Nat->Option (Bk D))->List Oper->List (Wr D)->Prop
 | _,_,_,_,[],_=>True
 | _,_,_,_,_::_,[]=>True
 | b,i,slot,blk,o::r,W::c=>(∀p∈b,abe p.2 (d_ slot blk o.op) W.keys->xq a 3 o p.1=true)/\ak2 a ((i,d_ slot blk o.op,W.keys)::b) (i+1) (Bl slot W) (BH blk W) r c
def IG (f:τ->Prop)(T:TypeId->Option Ty)(S:Sh D)(h:FuncId->Option (Ct D))(b:Array Oper)(n:Nat)(d:Bool)(l:List Oper)(i:Nat)(g:List (Nat×List Nat×List Nat))(s:St D)(K:St D->τ):Prop:=
 ∃c a,Trace T S h b n (s.next+64*i) s.slot s.blk l c/\(∀t,Alike (En s.slot c t) (a.slot t))/\a.blk=IV s.blk c/\a.next=s.next+64*(i+l.length)/\f (K a)/\(d=true->ak2 b g i s.slot s.blk l c)/\
  (∃e,a.blks=e++s.blks)/\∀t,(∀o∈b.toList,o.dst≠some t)->(∀o∈l,o.dst≠some t)->a.slot t=s.slot t
theorem Ro:∀(l:List Oper) (d:List (Wr D)) (c:Nat) (a e:Nat->Sl D) (b:Nat->Option (Bk D)),(∀t,Alike (a t) (e t))->Trace T S Γ ops n c a b l d->Trace T S Γ ops n c e b l d
 | [],[],_,_,_,_,_,_=>trivial
 | [],_::_,_,_,_,_,_,h=>by simp[Trace]at h
 | _::_,[],_,_,_,_,_,h=>by simp[Trace]at h
 | o::l,W::d,c,a,e,b,g,⟨⟨j,i,f⟩,k⟩=>⟨⟨j,fun t=>(g t).symm.trans (i t),f⟩,Ro l d (c+64) _ _ _ (yO g) k⟩
theorem Q3:∀(b:List (Wr D)) (a c:Nat->Sl D),(∀t,Alike (a t) (c t))->∀t,Alike (En a b t) (En c b t)
 | [],_,_,h,t=>h t
 | W::b,_,_,h,t=>Q3 b _ _ (yO h) t
theorem X7:∀(l:List Oper) (c:List (Wr D)) (b:List (Nat×List Nat×List Nat)) (i:Nat) (a d:Nat->Sl D) (blk:Nat->Option (Bk D)),(∀t,Alike (a t) (d t))->ak2 ops b i a blk l c->ak2 ops b i d blk l c
 | [],_,_,_,_,_,_,_,_=>trivial
 | _::_,[],_,_,_,_,_,_,_=>trivial
 | o::l,W::c,b,i,a,d,blk,f,h=>by
  have e:=Fj (op:=o.op) (blk:=blk) f;simp only[ak2]at h⊢;rw[e]at h;exact⟨h.1,X7 l c _ _ _ _ _ (yO f) h.2⟩
theorem zn {a:Bool}{o:Oper}{r:List Oper}{i:Nat}{c:List (Nat×List Nat×List Nat)}{s:St D}{K:St D->τ}(l:YV A den)(H:aga n o.dst=true)(P:Wanted ops s.slot o true)
  (U:∀c s,den (pV A T S Γ ops n a r (i+1) c s K)->IG den T S Γ ops n a r (i+1) c s K)
  (h:den (abb A T S Γ ops a o i c s fun c s=>pV A T S Γ ops n a r (i+1) c s K)):IG den T S Γ ops n a (o::r) i c s K:=by
 have I:∀d,o.dst=some d->d < n:=fun d e=>by rw[e]at H;simpa[aga,Qcv]using H
 have j:∀f,Does T S Γ s.slot s.blk (s.next+64*i) o.op f->den (stepW A ops a o i c s f fun c s=>pV A T S Γ ops n a r (i+1) c s K)->IG den T S Γ ops n a (o::r) i c s K:=by
  intro f z h;have N:∀g,nJ f.pre->den (pV A T S Γ ops n a r (i+1) g (s.put o.dst f.val f.blks) K)->(a=true->g=(i,d_ s.slot s.blk o.op,f.blks.map (·.1))::c/\∀p∈c,abe p.2 (d_ s.slot s.blk o.op) (f.blks.map (·.1))->xq ops 3 o p.1=true)->IG den T S Γ ops n a (o::r) i c s K:=by
   intro g m v B;obtain⟨L,R,G,u,q,V,O,J,⟨Y,M⟩,X⟩:=U g _ v;rw[BD,Il,yh]at G;rw[BD]at u;rw[Il]at q;rw[yh]at V;rw[BD,Il]at J;refine⟨⟨o.dst,f.val,f.blks⟩::L,R,⟨⟨s.slot,fun _=>Alike.refl _,rfl,I, .inl ⟨P,f,z,m,rfl,rfl⟩⟩,?_⟩,u,q,by grind,O,fun w=> ?_,?_,fun t Q E=> ?_⟩
   ·omega
   ·obtain⟨e,W⟩:=B w;subst e;exact⟨W,J w⟩
   ·exact ann M
   ·rw[X t Q fun o' C=>E o' (by simp[C])];exact ZX (E o qb)
  unfold stepW at h;split at h
  ·obtain⟨m,v⟩:=l.opt h
   grind
  ·split at h
   ·exact(l.stuck h).elim
   ·rename_i k;obtain⟨m,v⟩:=l.opt h;exact N _ m v (fun _=>⟨rfl,aoC k⟩)
 unfold abb at h;split at h
 ·rename_i b x y F;obtain⟨u,q⟩:=l.br h;cases k:b with
  | true=>exact j x (.inr ⟨b,x,y,F,by rw[k];rfl⟩) (u k)
  | false=>exact j y (.inr ⟨b,x,y,F,by rw[k];rfl⟩) (q k)
 ·split at h
  ·exact(l.stuck h).elim
  ·rename_i f z;exact j f (.inl z) h
theorem zy {a:Bool}{o:Oper}{r:List Oper}{i:Nat}{b:List (Nat×List Nat×List Nat)}{s:St D}{K:St D->τ}(y:YV A den)(m:aga n o.dst=true)(F:Wanted ops s.slot o false)
  (I:∀b s,den (pV A T S Γ ops n a r (i+1) b s K)->IG den T S Γ ops n a r (i+1) b s K)
  (h:den (aaH A ops a o i b s fun b s=>pV A T S Γ ops n a r (i+1) b s K)):IG den T S Γ ops n a (o::r) i b s K:=by
 have q:∀d,o.dst=some d->d < n:=fun d e=>by rw[e]at m;simpa[aga,Qcv]using m
 have C:∀c,den (pV A T S Γ ops n a r (i+1) c (s.put o.dst (.one (.lf (.val undef))) []) K)->(a=true->c=(i,d_ s.slot s.blk o.op,[])::b/\∀p∈b,abe p.2 (d_ s.slot s.blk o.op) []->xq ops 3 o p.1=true)->IG den T S Γ ops n a (o::r) i b s K:=by
  intro c M g;obtain⟨x,H,l,v,w,J,E,u,⟨O,z⟩,N⟩:=I c _ M;rw[BD,Il,yh]at l;rw[BD]at v;rw[Il]at w;rw[yh]at J;rw[BD,Il]at u;refine⟨⟨o.dst, .one (.lf (.val undef)),[]⟩::x,H,⟨⟨s.slot,fun _=>Alike.refl _,rfl,q, .inr ⟨F,rfl,rfl⟩⟩,?_⟩,v,w,by grind,E,fun f=> ?_,?_,fun t G k=> ?_⟩
  ·omega
  ·obtain⟨e,L⟩:=g f;subst e;exact⟨L,u f⟩
  ·exact ann z
  ·rw[N t G fun o' j=>k o' (by simp[j])];exact ZX (k o qb)
 unfold aaH at h;split at h
 ·grind
 ·split at h
  ·exact(y.stuck h).elim
  ·rename_i B;exact C _ h (fun _=>⟨rfl,aoC B⟩)
theorem aaQ (f:YV A den){draw:Bool}{K:St D->τ}:∀(l:List Oper) (i:Nat) (g:List (Nat×List Nat×List Nat)) (s:St D),den (pV A T S Γ ops n draw l i g s K)->IG den T S Γ ops n draw l i g s K
 | [],i,g,s,h=>⟨[],⟨s.tmps,s.blks,s.next+64*i⟩,trivial,fun _=>Alike.refl _,rfl,rfl,h,fun _=>trivial,⟨[],rfl⟩,fun _ _ _=>rfl⟩
 | o::r,i,g,s,h=>by
  have q:=fun g s=>aaQ f (draw:=draw) (K:=K) r (i+1) g s
  unfold pV at h;split at h
  ·exact(f.stuck h).elim
  ·rename_i k;split at h
   ·rename_i z;exact zn f k (by simp[Wanted,z]) q h
   ·rename_i j u z;split at h
    ·exact(f.stuck h).elim
    ·rename_i d F;split at h
     ·rename_i b C;have x:∀c:Bool,b=c->∀t,Alike ((⟨(d, .one (.lf (.val (.bool c))))::s.tmps,s.blks,s.next⟩:St D).slot t) (s.slot t):=by
       rintro c rfl t;show Alike (look _ _ t) _
       rw[xX];by_cases y:t=d
       ·subst y;rw[upd_same,C];exact .inr ⟨b,rfl,rfl⟩
       ·rw[df _ _ _ _ y];exact Alike.refl _
      have m:∀c:Bool,b=c->IG den T S Γ ops n draw (o::r) i g (⟨(d, .one (.lf (.val (.bool c))))::s.tmps,s.blks,s.next⟩:St D) K->IG den T S Γ ops n draw (o::r) i g s K:=by
       rintro c B ⟨E,M,P,Q,O,J,N,I,R,H⟩;refine⟨E,M,Ro _ _ _ _ _ _ (x c B) P,fun t=>(Q3 E _ _ (x c B) t).symm.trans (Q t),O,J,N,fun k=>X7 _ _ _ _ _ _ _ (x c B) (I k),R,fun t L G=>(H t L G).trans ?_⟩;show look _ _ t=look _ _ t
       rw[xX];refine df _ _ _ _ fun e=> ?_
       grind
      have p:∀c:Bool,b=c->Wanted ops (⟨(d, .one (.lf (.val (.bool c))))::s.tmps,s.blks,s.next⟩:St D).slot o (c==u):=by
       intro c B;simp only[Wanted,z];refine⟨d,F, .inl ⟨c,?_,rfl⟩⟩;show bOf (look _ _ d)=_
       rw[xX,upd_same];rfl
      cases u with
      | true=>
       obtain⟨y,w⟩:=f.br h;cases a:b with
       | true=>exact m true a (zn f k (p true a) q (y a))
       | false=>exact m false a (zy f k (p false a) q (w a))
      | false=>
       obtain⟨y,w⟩:=f.br h;cases a:b with
       | true=>exact m true a (zy f k (p true a) q (y a))
       | false=>exact m false a (zn f k (p false a) q (w a))
     ·rename_i b C;have p:Wanted ops s.slot o (b==u):=by
       simp only[Wanted,z];exact⟨d,F, .inl ⟨b,by rw[C];rfl,rfl⟩⟩
      split at h
      ·rename_i w;rw[w]at p;exact zn f k p q h
      ·rename_i w;rw[w]at p;exact zy f k p q h
     ·rename_i v _ V;split at h
      ·rename_i U;exact zy f k (by simp only[Wanted,z];grind) q h
      ·exact(f.stuck h).elim
     ·exact(f.stuck h).elim
theorem avg:∀(l:List Oper) (c:List (Wr D)) (g:List (Nat×List Nat×List Nat)) (b:Nat) (a:Nat->Sl D) (d:Nat->Option (Bk D)),ak2 ops g b a d l c->
  ∀j e f,l[j]? =some e->c[j]? =some f->(∀p∈g,abe p.2 (d_ (rD (fun k=>decide (k < b+j)) b a c) (rJ (fun k=>decide (k < b+j)) b d c) e.op) f.keys->xq ops 3 e p.1=true)/\
   ∀i q s,i < j->l[i]? =some q->c[i]? =some s->abe (d_ (rD (fun k=>decide (k < b+i)) b a c) (rJ (fun k=>decide (k < b+i)) b d c) q.op,s.keys) (d_ (rD (fun k=>decide (k < b+j)) b a c) (rJ (fun k=>decide (k < b+j)) b d c) e.op) f.keys->xq ops 3 e (b+i)=true
 | [],_,_,_,_,_,_,j,e,f,hj,_=>by simp at hj
 | _::_,[],_,_,_,_,_,j,e,f,_,m=>by simp at m
 | o::r,W::c,g,b,a,d,h,j,e,f,hj,m=>by
  have w:rD (fun k=>decide (k < b+0)) b a (W::c)=a:=by
   funext t;exact Ih _ _ _ fun j W' _ _=>by simp
  have f0:rJ (fun k=>decide (k < b+0)) b d (W::c)=d:=by
   funext t;exact H9 _ _ _ fun j W' _ _=>by simp
  have u:∀j,rD (fun k=>decide (k < b+(j+1))) b a (W::c)=rD (fun k=>decide (k < b+1+j)) (b+1) (Bl a W) c:=by
   intro j;have n:decide (b < b+(j+1))=true:=by simp
   simp only[rD,n,if_true]
   grind
  have v:∀j,rJ (fun k=>decide (k < b+(j+1))) b d (W::c)=rJ (fun k=>decide (k < b+1+j)) (b+1) (BH d W) c:=by
   intro j;have n:decide (b < b+(j+1))=true:=by simp
   simp only[rJ,n,if_true]
   grind
  cases j with
  | zero=>
   simp only[Qcg,P7]at hj m;subst hj m;rw[w,f0];exact⟨h.1,fun i _ _ A=>by omega⟩
  | succ j=>
   obtain⟨y,E⟩:=avg r c _ (b+1) _ _ h.2 j e f qb9 (by simpa using m);rw[u j,v j];refine⟨fun p x=>y p (by simp[x]),fun i q s C A B z=> ?_⟩;cases i with
   | zero=>
    simp_all
   | succ i=>
    rw[u i,v i]at z
    grind
theorem alC {a:Nat->Sl D}{b:Nat->Option (Bk D)}{d:List (Wr D)}(h:ak2 ops [] 0 a b ops.toList d):au9 a b d ops:=by
 intro i j q r o l k c e g n;obtain⟨_,p⟩:=avg ops.toList d [] 0 a b h j q o (by simpa using c) g;by_cases f:i < ops.size
 ·have m:ops[i]? =some ops[i]:=by simp[f]
  have:=p i ops[i] r k (by simp[f]) e;simp only[Dw]at this;refine this ⟨l,?_⟩;simpa[NI,m,c]using n
 grind
end
end Go.Vc
