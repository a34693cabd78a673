/- Own engine: Vd8, Vd9, Vda, Vdb. -/
import Derived.Test.YtebmficbjhcohaaGreatDoorEng5
set_option linter.unusedVariables false
set_option linter.unusedSimpArgs false
namespace Go.Vc
open Go.RowKit
def FC:Value->Bool
 | .bool _=>false
 | _=>true
structure Wr (D:Type) where
 dst:Option Nat
 val:Sl D
 blks:List (Nat×Option (Bk D))
def zW {D:Type}(a:Nat->Sl D)(W:Wr D):Nat->Sl D:=
 match W.dst with
 | some d=>upd a d W.val
 | none=>a
def zI {D:Type}(a:Nat->Option (Bk D))(W:Wr D):Nat->Option (Bk D):=kw a W.blks
def Wanted {D:Type}(e:Array Oper)(a:Nat->Sl D)(o:Oper)(r:Bool):Prop:=
 match o.guard with
 | none=>r=true
 | some (j,c)=>∃d,(e[j]?).bind (·.dst)=some d/\((∃b,bOf (a d)=some b/\r=(b==c))\/(∃v,a d= .one (.lf (.val v))/\FC v=true/\r=false))
def Td {D:Type}(T:TypeId->Option Ty)(S:Sh D)(g:FuncId->Option (Ct D))(c:Array Oper)(n f:Nat)(a:Nat->Sl D)(e:Nat->Option (Bk D))(o:Oper)(W:Wr D):Prop:=
 W.dst=o.dst/\(∀d,o.dst=some d->d < n)/\
 (
   (Wanted c a o true/\∃b,Does T S g a e f o.op b/\lY b.pre/\W.val=b.val/\W.blks=b.blks)\/
   (Wanted c a o false/\W.val= .one (.lf (.val undef))/\W.blks=[]))
def Holds {D:Type}(S:Sh D)(e:Bs)(d:Nat->Option Value)(N:Nat->Prop)(n:Nat)(c:Nat->Sl D)(b:Nat->Option (Bk D))(f:Nat->Prop)(a:Act)(w:World):Prop:=
 ∃g,Hp S e N b g f w/\(∀t,(c t).Rel S (aV N b g) w g (a.tmps.getD t undef))/\a.tmps.size=n/\a.defers=[]/\More d g
section
variable {D:Type}{P:Program}{S:Sh D}{T:TypeId->Option Ty}{Γ:FuncId->Option (Ct D)}{N:Nat->Prop}{w w':World}{w0:Bs}{g0:Nat->Option Value}{blk:Nat->Option (Bk D)}{al:Nat->Prop}
 {a:Act} {o:Oper} {K:Act->World->Prop} {Q:Exit->Act->World->Prop} {slot:Nat->Sl D} {fr n:Nat} {ops:Array Oper} {W:Wr D}
theorem aq4 {d:Option Tmp}{v:Value}{t:Nat}(c:∀x,d=some x->x < a.tmps.size):(a.put d v).tmps.getD t undef=if d=some t then v else a.tmps.getD t undef:=by
 cases d with
 | none=>simp[Act.put]
 | some d=>
  have:=c d rfl;simp only[Act.put];by_cases h:d=t
  ·subst h;simp[Array.getD,this]
  ·rw[lW qbv];simp only[Array.getD];by_cases b:t < a.tmps.size
   ·simp[b,h]
   ·simp[b]
theorem NS {g:Nat->Option Value}{M:Nat->Prop}{r:Bool}(m:∀t,(slot t).Rel S M w g (a.tmps.getD t undef))(h:Wanted ops slot o r):Region.wanted o (yielded ops a.tmps)=r:=by
 unfold Wanted at h;unfold Region.wanted;split at h
 ·rename_i k;simp only[k];exact h.symm
 ·rename_i j i k;simp only[k];obtain⟨d,n,h⟩:=h;have p:∀v,a.tmps.getD d undef=v->FC v=true->yielded ops a.tmps j=none:=by
   intro v e f;simp only[yielded,n,Option.bind_some];by_cases c:d < a.tmps.size
   ·simp only[Array.getD,c,dif_pos]at e;simp only[Qd c];have:a.tmps[d]=v:=e;rw[this];cases v<;>first | rfl | simp[FC]at f
   ·simp[c]
  rcases h with⟨b,q,rfl⟩ | ⟨v,e,f,rfl⟩
  ·have:=m d;have this:=EP q this;have l:yielded ops a.tmps j=some b:=by
    simp only[yielded,n,Option.bind_some];by_cases c:d < a.tmps.size
    ·simp only[Array.getD,c,dif_pos]at this;simp only[Qd c];have s:a.tmps[d]= .bool b:=this;rw[s]
    ·simp[Array.getD,c,undef]at this
   rw[l];cases b<;>cases i<;>rfl
  ·have:=m d;rw[e]at this;simp only[Sl.Rel,Sv.Rel,Lf.Rel]at this;rw[p v this f];rfl
def Alike (x y:Sl D):Prop:=x=y\/∃b,bOf x=some b/\bOf y=some b
theorem Alike.refl (x:Sl D):Alike x x:= .inl rfl
theorem Alike.symm {x y:Sl D}(h:Alike x y):Alike y x:=by
 rcases h with rfl | ⟨b,c,a⟩
 ·exact .inl rfl
 ·exact .inr ⟨b,a,c⟩
theorem Alike.trans {x y z:Sl D}(h:Alike x y)(k:Alike y z):Alike x z:=by
 rcases h with rfl | ⟨b,e,d⟩
 ·exact k
 ·rcases k with rfl | ⟨c,a,f⟩
  ·exact .inr ⟨b,e,d⟩
  ·rw[d]at a;injection a with a
   subst a;exact .inr ⟨b,e,f⟩
theorem aCU {M:Nat->Prop}{g:Nat->Option Value}{x:Sl D}{b:Bool}(h:bOf x=some b):x.Rel S M w g (.bool b):=by
 unfold bOf at h;split at h
 ·injection h with h;subst h;rfl
 ·injection h with h;subst h;rfl
 ·cases h
theorem Alike.rel {M:Nat->Prop}{g:Nat->Option Value}{x y:Sl D}{v:Value}(h:Alike x y)(a:x.Rel S M w g v):y.Rel S M w g v:=by
 rcases h with rfl | ⟨b,d,c⟩
 ·exact a
 ·rw[EP d a];exact aCU c
theorem Holds.alike {b:Nat->Sl D}(h:Holds S w0 g0 N n slot blk al a w)(c:∀t,Alike (slot t) (b t)):Holds S w0 g0 N n b blk al a w:=by
 obtain⟨g,e,d,f⟩:=h;exact⟨g,e,fun t=>(c t).rel (d t),f⟩
theorem wP {a:Nat->Sl D}(c:∀t,Alike (slot t) (a t))(t:Nat):Alike (zW slot W t) (zW a W t):=by
 unfold zW;cases W.dst with
 | none=>exact c t
 | some d=>
  by_cases b:t=d
  ·subst b;show Alike (upd slot t W.val t) (upd a t W.val t)
   rw[upd_same,upd_same];exact Alike.refl _
  ·show Alike (upd slot d W.val t) (upd a d W.val t)
   rw[bM _ _ _ _ b,bM _ _ _ _ b];exact c t
theorem Vx {i:Nat}(R:∀t M,T t=some M->fB P t M)(D:∀f L,Γ f=some L->dJ P S f L)(X:iL S)(Y:ops[i]? =some o)(h:Holds S w0 g0 N n slot blk al a w)(I:∀n,fr<=n->n < fr+64->¬al n)
  (p:Td T S Γ ops n fr slot blk o W) (hK:∀J b,Holds S w0 g0 N n (zW slot W) (zI blk W) (fun l=>al l\/(fr<=l/\l < fr+64)) J b->K J b):wpOp P ops Q i K a w:=by
 obtain⟨g,U,r,G,H,F⟩:=h;obtain⟨j,E,p⟩:=p;have u:∀v b g',More g g'->Keeps (aV N blk g) w (aV N (zI blk W) g') b->Hp S w0 N (zI blk W) g' (fun l=>al l\/(fr<=l/\l < fr+64)) b->W.val.Rel S (aV N (zI blk W) g') b g' v->K (a.put o.dst v) b:=by
  intro v b g' s A q k;have O:∀x,o.dst=some x->x < a.tmps.size:=fun x B=>by rw[G];exact E x B
  refine hK _ _ ⟨g',q,fun t=> ?_,?_,?_,fun l v h=>s l v (F l v h)⟩
  ·rw[aq4 O];by_cases c:o.dst=some t
   ·rw[mV c];simp only[zW,j,c,upd_same];exact k
   ·rw[lW c];have:zW slot W t=slot t:=by
     unfold zW;rw[j];cases V:o.dst with
     | none=>rfl
     | some d=>exact bM _ _ _ _ (fun e=>c (by rw[V,e]))
    rw[this];exact(r t).keep A s
  ·cases c:o.dst<;>simp[Act.put,G]
  ·cases c:o.dst<;>simp[Act.put,H]
 unfold wpOp;simp only[Y];rcases p with⟨z,out,B,C,k,m⟩ | ⟨z,k,m⟩
 ·rw[NS r z,mV rfl];refine .inl (afL R D X U I r B C ?_);intro v b g' s A q Z;refine u v b g' s ?_ ?_ ?_
  ·simpa[zI,m]using A
  ·simpa[zI,m]using q
  ·simpa[zI,m,k]using Z
 ·rw[NS r z];have y:zI blk W=blk:=by simp[zI,m,kw]
  refine u undef w g (More.refl _) (by rw[y];exact Keeps.refl _ _) (by rw[y];exact U.weaken fun _ h=> .inl h) (by rw[k];rfl)
def Trace (T:TypeId->Option Ty)(S:Sh D)(c:FuncId->Option (Ct D))(a:Array Oper)(n:Nat):Nat->(Nat->Sl D)->(Nat->Option (Bk D))->List Oper->List (Wr D)->Prop
 | _,_,_,[],[]=>True
 | b,slot,blk,o::r,W::e=>(∃d,(∀t,Alike (slot t) (d t))/\Td T S c a n b d blk o W)/\Trace T S c a n (b+64) (zW slot W) (zI blk W) r e
 | _,_,_,_,_=>False
def CJ:(Nat->Sl D)->List (Wr D)->(Nat->Sl D)
 | slot,[]=>slot
 | slot,W::a=>CJ (zW slot W) a
def FX:(Nat->Option (Bk D))->List (Wr D)->(Nat->Option (Bk D))
 | blk,[]=>blk
 | blk,W::a=>FX (zI blk W) a
theorem adE (u:∀t A,T t=some A->fB P t A)(s:∀f B,Γ f=some B->dJ P S f B)(z:iL S):
  ∀(l:List Oper) (m:List (Wr D)) (i d:Nat) (b:Nat->Sl D) (c:Nat->Option (Bk D)) (a:Act) (w:World),(∀j,l[j]? =ops[i+j]?)->Trace T S Γ ops n d b c l m->Holds S w0 g0 N n b c (· < d) a w->
   (∀r p,Holds S w0 g0 N n (CJ b m) (FX c m) (· < d+64*l.length) r p->Q .normal r p)->wpOps P ops Q (List.range' i l.length) a w
 | [],[],i,d,b,c,a,w,_,_,h,x=>by simpa[wpOps]using x a w (by simpa[CJ,FX]using h)
 | [],_::_,_,_,_,_,_,_,_,k,_,_=>by simp[Trace]at k
 | _::_,[],_,_,_,_,_,_,_,k,_,_=>by simp[Trace]at k
 | o::l,W::m,i,d,b,c,a,w,v,k,h,x=>by
  rw[AB,List.range'_succ,wpOps_cons];have K:ops[i]? =some o:=by simpa using(v 0).symm
  obtain⟨⟨L,y,G⟩,F⟩:=k;refine Vx u s z K (h.alike y) au G fun r p I=> ?_;obtain⟨g,J,q⟩:=I.alike (wP fun t=>(y t).symm);refine adE u s z l m (i+1) (d+64) _ _ r p (fun j=>by have:=v (j+1);simpa[Qdl,Qd5 1 j]using this) F ⟨g,J.weaken fun l v=>by omega,q⟩ fun C E H=>x C E ?_;have e:d+64*(l.length+1)=d+64+64*l.length:=by omega
  rw[AB,e];simpa only[CJ,FX]using H
end
end Go.Vc
namespace Go.Vc
open Go.RowKit
def Yl:Op->Bool
 | .load _ _ | .store _ _ _ | .indexAddr _ _ _ | .call _ | .slice _ _ _ _ _ | .buildSlice _ _ _ | .next _ _ | .lookup _ _ _ _ | .mapUpdate _ _ _ _ | .insert _ _ _ _ | .convert _ _ _ | .makeInterface _ _ | .makeFunc _ _ _=>true
 | _=>false
def isFn:Op->Bool
 | .call c=>(match c.callee with
  | .value _=>true
  | _=>false)
 | _=>false
def dB {D:Type}(a:Nat->Sl D)(b:Nat->Option (Bk D))(o:Op):List Nat:=
 if isFn o then reach b 3 (lN [] (o.operands.toList.flatMap fun x=>(aB a x).refs))else if Yl o then o.operands.toList.flatMap fun x=>(aB a x).refs else[]
def Wr.keys {D:Type}(W:Wr D):List Nat:=W.blks.map (·.1)
def Gt (o:Oper)(i:Nat):Bool:=o.after.toList.any fun e=>Region.binds .any e && Nat.beq e.on i
def vk (a:Array Oper):Nat->Oper->Nat->Bool
 | 0,o,i=>Gt o i
 | k+1,o,i=>Gt o i || o.after.toList.any fun e=>Region.binds .any e && (match a[e.on]? with
  | some o'=>vk a k o' i
  | none=>false)
theorem aie {a:Array Oper}{o:Oper}{i:Nat}(h:Gt o i=true):∀k,vk a k o i=true
 | 0=>h
 | k+1=>by simp[vk,h]
section
variable {D:Type}{P:Program}{S:Sh D}{T:TypeId->Option Ty}{Γ:FuncId->Option (Ct D)}{N:Nat->Prop}{w w':World}{w0:Bs}{blk blk':Nat->Option (Bk D)}{al:Nat->Prop}
 {a:Act} {o:Oper} {K:Act->World->Prop} {Q:Exit->Act->World->Prop} {slot b_:Nat->Sl D} {fr n:Nat} {ops:Array Oper} {W:Wr D}
theorem ahv {x y:Sl D}(h:Alike x y):x.refs=y.refs:=by
 rcases h with rfl | ⟨b,e,d⟩
 ·rfl
 ·have a:∀z:Sl D,bOf z=some b->z.refs=[]:=by
   intro z c;unfold bOf at c;split at c<;>first | rfl | cases c
  rw[a x e,a y d]
theorem DD {op:Op}(h:∀t,Alike (slot t) (b_ t)):dB slot blk op=dB b_ blk op:=by
 have:(fun x=>(aB slot x).refs)=fun x=>(aB b_ x).refs:=by
  funext x;cases x with
  | tmp t=>exact ahv (h t)
  | _=>rfl
 unfold dB;rw[this]
theorem zK:∀(n:Nat) (ids:List Nat) (l:Nat),l∈ids->l∈reach blk n ids
 | 0,_,_,h=>h
 | n+1,ids,l,h=>zK n _ l ((fA _ _ _).2 (.inl h))
theorem Bo:∀(n:Nat) (ids a:List Nat),(∀l∈ids,l∈a)->∀l∈reach blk n ids,l∈reach blk n a
 | 0,_,_,h=>h
 | n+1,ids,a,h=>by
  refine Bo n _ _ fun l c=> ?_;rcases(fA _ _ _).1 c with q | q
  ·exact(fA _ _ _).2 (.inl (h l q))
  ·obtain⟨x,d,b⟩:=vS.1 q;exact(fA _ _ _).2 (.inr (vS.2 ⟨x,h x d,b⟩))
theorem ny {b d:Type}{l:List b}{f a:b->List d}(h:∀x∈l,f x=a x):l.flatMap f=l.flatMap a:=by
 induction l with
 | nil=>rfl
 | cons x r c=>rw[Qbm,Qbm,h x oI,c fun y hy=>h y qcw]
theorem Oh:∀(n:Nat) (ids:List Nat),(∀l∈reach blk n ids,blk l=blk' l)->reach blk n ids=reach blk' n ids
 | 0,_,_=>rfl
 | n+1,ids,h=>by
  have e:(ids.flatMap fun l=>match blk l with
    | some a=>a.refs
    | none=>[])=(ids.flatMap fun l=>match blk' l with
    | some a=>a.refs
    | none=>[]):=ny fun l c=>by rw[h l (zK (n+1) ids l c)]
  have b:∀l∈reach blk n (lN ids (ids.flatMap fun l=>match blk l with
    | some a=>a.refs
    | none=>[])),blk l=blk' l:=h
  have r:=Oh n _ b;refine Eq.trans (show reach blk (n+1) ids=_ from r) ?_;rw[e];rfl
theorem JI:∀(ids:List Nat),(∀l∈ids,blk l=blk' l)->tX blk ids=tX blk' ids
 | [],_=>rfl
 | x::r,h=>by
  unfold tX;rw[h x oI,JI r fun l hl=>h l qcl]
theorem IR {d:Ct D}{args:List (Sl D)}{jk:List Nat}(h:∀l∈reach blk 3 (lN [] (args.flatMap Sl.refs)),blk l=blk' l)(a:∀l∈jk,blk l=blk' l):BM d blk fr args jk=BM d blk' fr args jk:=by
 have c:=Oh _ _ h;have b:=JI _ h;have f:jk.filterMap (ja blk)=jk.filterMap (ja blk'):=by
  clear h c b;induction jk with
  | nil=>rfl
  | cons x r e=>
   have g:ja blk x=ja blk' x:=by unfold ja;rw[a x oI]
   rw[Qdd,Qdd,g,e fun l hl=>a l qcl]
 unfold BM;dsimp only;rw[<-c,b,f]
theorem JH {ty:Ty}:∀(a:List (Nat×Operand)) (cs:List (Lf D)),(∀p∈a,aB slot p.2=aB b_ p.2)->GG ty slot a cs=GG ty b_ a cs
 | [],_,_=>rfl
 | (f,x)::r,cs,h=>by
  have d:aB slot x=aB b_ x:=h (f,x) oI;have b:=fun cs=>JH (ty:=ty) r cs fun p c=>h p (by simp[c])
  simp only[GG,d,b]
theorem zt {sz:Nat}:∀(a:List (Nat×Operand)) (cs:List (Lf D)),(∀p∈a,aB slot p.2=aB b_ p.2)->yw sz slot a cs=yw sz b_ a cs
 | [],_,_=>rfl
 | (f,x)::r,cs,h=>by
  have d:aB slot x=aB b_ x:=h (f,x) oI;have b:=fun cs=>zt (sz:=sz) r cs fun p c=>h p (by simp[c])
  simp only[yw,d,b]
theorem adf {t:TypeId}{x:Sl D}(h:∀l∈x.refs,blk l=blk' l):xO T S blk t x=xO T S blk' t x:=by
 unfold xO;cases T t with
 | none=>rfl
 | some c=>
  cases x with
  | sO b=>rfl
  | one x=>
   cases x with
   | agg b=>rfl
   | lf x=>cases x<;>first | rfl | (have a:=h _ (BH.2 rfl);simp only[a])
theorem abT {t:TypeId}{x y:Sl D}(h:∀l∈x.refs,blk l=blk' l):BJ T S blk t x y=BJ T S blk' t x y:=by
 unfold BJ;cases T t with
 | none=>rfl
 | some d=>
  cases x with
  | sO b=>rfl
  | one x=>
   cases x with
   | agg b=>rfl
   | lf x=>
    cases y with
    | sO c=>cases x<;>rfl
    | one y=>cases x<;>first | rfl | (have a:=h _ (BH.2 rfl);simp only[a])
theorem aao {t:TypeId}{x y:Sl D}(h:∀l∈x.refs,blk l=blk' l):D8 T S blk t x y=D8 T S blk' t x y:=by
 unfold D8;cases T t with
 | none=>rfl
 | some d=>
  simp only;cases d.elem with
  | none=>rfl
  | some e=>
   simp only;cases T e with
   | none=>rfl
   | some f=>
    cases x with
    | sO b=>rfl
    | one x=>
     cases x with
     | agg b=>rfl
     | lf x=>
      cases y with
      | sO c=>cases x<;>rfl
      | one y=>
       cases y with
       | agg c=>cases x<;>rfl
       | lf y=>cases x<;>cases y<;>first | rfl | (have a:=h _ (BH.2 rfl);simp only[a])
theorem ah8 {b:Array TypeId}{x:Sl D}(h:∀l∈x.refs,blk l=blk' l):acw S T blk b x=acw S T blk' b x:=by
 unfold acw;split
 ·rfl
 ·split
  ·rfl
  ·cases x with
   | sO e=>rfl
   | one x=>
    cases x with
    | agg e=>rfl
    | lf x=>
     cases x with
     | own l=>have d:=h l qbq;simp only[d]
     | val v=>cases v<;>first | rfl | (rename_i a n c;cases a<;>first | rfl | (cases n<;>first | rfl | (cases c<;>rfl)))
     | _=>rfl
theorem Eg {x:Sl D}(h:∀l∈x.refs,blk l=blk' l):Ji blk x=Ji blk' x:=by
 cases x with
 | sO a=>rfl
 | one x=>
  cases x with
  | agg a=>rfl
  | lf x=>
   cases x with
   | own l=>have b:=h l qbq;simp only[Ji,b]
   | _=>rfl
theorem WF {b:Array TypeId}{x y:Sl D}(h:∀l∈x.refs,blk l=blk' l)(d:∀l∈y.refs,blk l=blk' l):Ey T S blk fr b x y=Ey T S blk' fr b x y:=by
 unfold Ey;rw[Eg d];cases x with
 | sO f=>rfl
 | one x=>
  cases x with
  | agg f=>rfl
  | lf x=>
   cases x with
   | own l=>have e:=h l qbq;simp only[e]
   | val v=>cases v<;>first | rfl | (rename_i a n c;cases a<;>first | rfl | (cases n<;>first | rfl | (cases c<;>rfl)))
   | _=>rfl
theorem aa7 {t:TypeId}{x:Sl D}{a b:Option (Sl D)}(h:∀l∈x.refs,blk l=blk' l):LC T S blk t x a b=LC T S blk' t x a b:=by
 unfold LC;split
 ·rfl
 ·split
  ·rfl
  ·split
   ·rfl
   ·rfl
   ·rename_i q;rw[h q qbq]
   ·rfl
theorem ad_ {a:Array TypeId}{x y:Sl D}(h:∀l∈x.refs,blk l=blk' l):XL T S blk a x y=XL T S blk' a x y:=by
 unfold XL;split
 ·split
  ·split
   ·rfl
   ·split
    ·rfl
    ·split
     ·rfl
     ·split
      ·rename_i l d2;rw[h l qbq]
      ·rfl
  ·rfl
 ·rfl
theorem KD (x:Lf D):x.norm.refs=x.refs:=by
 unfold Lf.norm;split<;>rfl
theorem Jp (x:Sv D):x.norm.refs=x.refs:=by
 cases x with
 | lf x=>exact KD x
 | agg a=>simp only[Sv.norm,Sv.refs,Qc8];exact ny fun x _=>KD x
theorem ab2 (x:Sl D):x.norm.refs=x.refs:=by
 cases x with
 | one x=>exact Jp x
 | sO a=>simp only[Sl.norm,Sl.refs,Qc8];exact ny fun x _=>Jp x
theorem KE (x:Lf D):∀l∈(x.view blk).refs,l∈x.refs:=by
 cases x with
 | own l=>
  simp only[Lf.view];split
  ·intro a h;simp[Lf.refs]at h
  ·intro a h;simp[Lf.refs]at h
  ·intro a h;simp[Lf.refs]at h
  ·intro a h;exact h
 | part l i j b f=>
  simp only[Lf.view];split
  ·split<;>(intro a h;simp[Lf.refs]at h)
  ·split<;>(intro a h;simp[Lf.refs]at h)
  ·intro a h;exact h
 | _=>exact fun l h=>h
theorem Ij (x:Sv D):∀l∈(x.view blk).refs,l∈x.refs:=by
 cases x with
 | lf x=>exact KE x
 | agg c=>
  intro l a;simp only[Sv.view,Sv.refs,Qc8]at a⊢;obtain⟨y,b,a⟩:=vS.1 a;exact vS.2 ⟨y,b,KE y l a⟩
theorem BK (x:Sl D):∀l∈(x.view blk).refs,l∈x.refs:=by
 cases x with
 | one x=>exact Ij x
 | sO c=>
  intro l a;simp only[Sl.view,Sl.refs,Qc8]at a⊢;obtain⟨y,b,a⟩:=vS.1 a;exact vS.2 ⟨y,b,Ij y l a⟩
theorem FV {x:Lf D}(h:∀l∈x.refs,blk l=blk' l):x.view blk=x.view blk':=by
 cases x with
 | own l=>simp only[Lf.view];rw[h l qb7]
 | part l i j a f=>simp only[Lf.view];rw[h l qb7]
 | _=>rfl
theorem F7 {x:Sv D}(h:∀l∈x.refs,blk l=blk' l):x.view blk=x.view blk':=by
 cases x with
 | lf x=>simp only[Sv.view];rw[FV h]
 | agg c=>simp only[Sv.view];congr 1;exact Qbk fun y a=>FV fun l b=>h l (vS.2 ⟨y,a,b⟩)
theorem zn {x:Sl D}(h:∀l∈x.refs,blk l=blk' l):x.view blk=x.view blk':=by
 cases x with
 | one x=>simp only[Sl.view];rw[F7 h]
 | sO c=>simp only[Sl.view];congr 1;exact Qbk fun y a=>F7 fun l b=>h l (vS.2 ⟨y,a,b⟩)
theorem I4 (x:Lf D):∀l∈x.owns,l∈x.refs:=by cases x<;>simp[Lf.owns,Lf.refs]
theorem Iz (x:Sv D):∀l∈x.owns,l∈x.refs:=by
 cases x with
 | lf x=>exact I4 x
 | agg c=>
  intro l a;obtain⟨y,b,a⟩:=vS.1 a;exact vS.2 ⟨y,b,I4 y l a⟩
theorem A_ (x:Sl D):∀l∈x.owns,l∈x.refs:=by
 cases x with
 | one x=>exact Iz x
 | sO c=>
  intro l a;obtain⟨y,b,a⟩:=vS.1 a;exact vS.2 ⟨y,b,Iz y l a⟩
theorem O3 {f:FuncId}{args:List (Sl D)}(h:∀l∈reach blk 3 (lN [] (args.flatMap Sl.refs)),blk l=blk' l):Eh Γ f blk args fr=Eh Γ f blk' args fr:=by
 unfold Eh;cases Γ f with
 | none=>rfl
 | some k=>
  dsimp only;have e:(args.map Sl.norm).flatMap Sl.refs=args.flatMap Sl.refs:=by rw[Qc8];exact ny fun x _=>ab2 x
  generalize args.map Sl.norm=b at e;rw[<-e]at h;have g:∀l∈b.flatMap Sl.refs,blk l=blk' l:=fun l a=>h l (zK _ _ _ ((fA _ _ _).2 (.inr a)))
  have i:b.map (Sl.view blk)=b.map (Sl.view blk'):=Qbk fun x d=>zn fun l a=>g l (vS.2 ⟨x,d,a⟩)
  rw[IR (blk:=blk) (blk':=blk') (args:=b) (jk:=[]) h (fun l a=>by simp at a)];rw[IR (blk:=blk) (blk':=blk') (args:=b.map (Sl.view blk)) (jk:=lN [] (b.flatMap Sl.owns)) (fun l a=>h l (Bo 3 _ _ (fun l a=> ?_) l a)) (fun l a=>g l ?_),i]
  ·rcases(fA _ _ _).1 a with q | q
   ·simp at q
   ·obtain⟨x,d,c⟩:=vS.1 q;obtain⟨y,j,rfl⟩:=Qb.1 d;exact(fA _ _ _).2 (.inr (vS.2 ⟨y,j,BK y l c⟩))
  ·rcases(fA _ _ _).1 a with q | q
   ·simp at q
   ·obtain⟨x,d,c⟩:=vS.1 q;exact vS.2 ⟨x,d,A_ x l c⟩
theorem XC {g:Op}(a:∀x∈g.operands.toList,aB slot x=aB b_ x)(M:∀l∈dB slot blk g,blk l=blk' l):sK T S Γ slot blk fr g=sK T S Γ b_ blk' fr g:=by
 have d:Yl g=true->∀x∈g.operands.toList,∀l∈(aB b_ x).refs,blk l=blk' l:=by
  intro v x hx l hl;refine M l ?_;have A:l∈g.operands.toList.flatMap fun x=>(aB slot x).refs:=vS.2 ⟨x,hx,by rw[a x hx];exact hl⟩
  unfold dB;split
  ·exact zK _ _ _ ((fA _ _ _).2 (.inr A))
  ·first | (split;· exact A;· rename_i q;exact absurd v q) | simpa[v]using A
 cases g with
 | move x=>simp only[sK];rw[a x og]
 | assign x=>simp only[sK];rw[a x og]
 | pick c x y=>simp only[sK,Yc];rw[a c og,a x og,a y og]
 | alloc t=>rfl
 | box t x=>simp only[sK];rw[a x og]
 | build t B=>
  simp only[sK,aba];split
  ·rw[JH B.toList _ fun p hp=>a p.2 qcd]
  ·rfl
 | buildSlice t n B=>
  have:∀p∈B.toList,aB slot p.2=aB b_ p.2:=fun p hp=>a p.2 qcd
  simp only[sK,avZ];split
  ·rfl
  ·split
   ·rfl
   ·split
    ·rfl
    ·rw[zt B.toList _ this]
 | load t x=>
  simp only[sK];rw[a x og,adf (d rfl x og)]
 | store t x y=>
  simp only[sK];rw[a x og,a y og,abT (d rfl x og)]
 | nilCheck x=>simp only[sK];rw[a x og]
 | binOp g t x y R=>simp only[sK];rw[a x og,a y og]
 | unOp g t x=>simp only[sK];rw[a x og]
 | fieldAddr t x f=>simp only[sK];rw[a x og]
 | field t x f=>simp only[sK];rw[a x og]
 | indexAddr t x i=>
  simp only[sK];rw[a x og,a i og,aao (d rfl x og)]
 | extract x i=>simp only[sK];rw[a x og]
 | call c=>
  simp only[sK];have b:∀x∈c.args.toList,x∈(Op.call c).operands.toList:=fun x hx=>by
   simp only[Op.operands,Call.operands,Qcb,u_];exact .inr hx
  split
  ·split
   ·rename_i x hx;have hx:x∈(Op.call c).operands.toList:=b x qbz;rw[a x hx,ah8 (d rfl x hx)]
   ·rfl
  ·split
   ·rename_i x y hx;rw[a x (b x qbz),a y (b y qbz)]
   ·rfl
  ·split
   ·rename_i x y hx;rw[a x (b x qbz),a y (b y qbz)]
   ·rfl
  ·split
   ·rename_i x y hx;have j:x∈(Op.call c).operands.toList:=b x qbz;have s:y∈(Op.call c).operands.toList:=b y qbz;rw[a x j,a y s,WF (d rfl x j) (d rfl y s)]
   ·rfl
  ·split
   ·rename_i x y hx;have j:x∈(Op.call c).operands.toList:=b x qbz;have s:y∈(Op.call c).operands.toList:=b y qbz;rw[a x j,a y s,ad_ (d rfl x j)]
   ·rfl
  ·rename_i f K;have z:f∈(Op.call c).operands.toList:=by simp[Op.operands,Call.operands,K]
   have C:=a f z;have:c.args.toList.map (aB slot)=c.args.toList.map (aB b_):=Qbk fun x hx=>a x (b x hx)
   rw[C,this];split
   ·rename_i Q e w;have D:∀l∈e,blk l=blk' l:=fun l hl=>d rfl f z l (by rw[w];exact hl)
    have H:e.all (fun l=>isCells (blk l))=e.all (fun l=>isCells (blk' l)):=by
     clear w;induction e with
     | nil=>rfl
     | cons x r E=>rw[Qci,Qci,D x oI,E fun l hl=>D l qcl]
    rw[H];rw[O3 (blk:=blk) (blk':=blk') fun l hl=>M l ?_];have I:isFn (Op.call c)=true:=by simp[isFn,K]
    unfold dB;rw[mV I];refine Bo 3 _ _ (fun l hl=> ?_) l hl;rcases(fA _ _ _).1 hl with q | q
    ·simp at q
    ·refine(fA _ _ _).2 (.inr ?_);rw[List.flatMap_append,u_]at q;rcases q with q | q
     ·rw[<-this]at q;obtain⟨y,hy,o⟩:=vS.1 q;obtain⟨x,hx,rfl⟩:=Qb.1 hy;exact vS.2 ⟨x,b x hx,o⟩
     ·obtain⟨y,hy,o⟩:=vS.1 q;obtain⟨k,O,rfl⟩:=Qb.1 hy;simp[Sl.refs,Sv.refs,Lf.refs]at o;subst o;exact vS.2 ⟨f,z,by rw[C,w];exact O⟩
   ·rfl
  ·rfl
 | makeFunc P first e=>
  have G:∀(l:List Operand),(∀x∈l,aB slot x=aB b_ x)->DK slot l=DK b_ l:=by
   intro l;induction l with
   | nil=>intro _;rfl
   | cons x r E=>intro h;unfold DK;rw[h x oI,E fun y hy=>h y qcw]
  cases P with
  | func f=>simp only[sK];rw[G e.toList fun x hx=>a x (by simp only[Op.operands,Qcb,u_];exact .inr hx)]
  | _=>rfl
 | makeSlice t x y=>simp only[sK];rw[a x og,a y og]
 | index t x y=>simp only[sK];rw[a x og,a y og]
 | convert t u x=>simp only[sK];rw[a x og]
 | slice t x F v N=>
  cases N with
  | some m=>rfl
  | none=>
   have J:F.map (aB slot)=F.map (aB b_):=by
    cases F with
    | none=>rfl
    | some l=>simp only[H6];rw[a l og]
   have L:v.map (aB slot)=v.map (aB b_):=by
    cases v with
    | none=>rfl
    | some l=>simp only[H6];rw[a l og]
   simp only[sK];rw[a x og,J,L,aa7 (d rfl x og)]
 | _=>rfl
theorem o6:∀{l:List Operand} {t:Nat},t∈qh l ↔ Operand.tmp t∈l
 | [],t=>by simp[qh]
 | x::r,t=>by
  cases x<;>simp[qh,o6 (l:=r)]
theorem aaQ {c:Type}{k:Nat}:∀(cs:List (Nat×c)) (f a:Nat->c),f k=a k->kw f cs k=kw a cs k
 | [],_,_,h=>h
 | (b,v)::cs,f,a,h=>by
  refine aaQ cs (upd f b v) (upd a b v) ?_;by_cases e:k=b
  ·subst e;rw[upd_same,upd_same]
  ·rw[bM _ _ _ _ e,bM _ _ _ _ e,h]
theorem afW {a:Op}(n:∀x∈a.operands.toList,aB slot x=aB b_ x)(e:∀l∈dB slot blk a,blk l=blk' l):vC T S Γ slot blk fr a=vC T S Γ b_ blk' fr a:=by
 unfold vC;rw[XC n e];split
 ·rfl
 unfold uJ;cases o:j_ a with
 | false=>simp
 | true=>
  have u:isFn a=false:=by cases a<;>first | rfl | simp[j_]at o
  have p:Yl a=true:=by cases a<;>first | rfl | simp[j_]at o
  have hmr:∀(s:Nat->Sl D) (b:Nat->Option (Bk D)),dB s b a=a.operands.toList.flatMap fun x=>(aB s x).refs:=fun s b=>by unfold dB;rw[u,p];rfl
  have ht:∀t∈qh a.operands.toList,slot t=b_ t:=fun t ht=>n (.tmp t) (o6.1 ht)
  have g:∀t∈qh a.operands.toList,∀l∈(slot t).refs,blk l=blk' l:=fun t ht l hl=>e l qcj
  have w:iG slot a=iG b_ a:=by
   unfold iG;congr 1;exact ny fun t h=>by rw[ht t h]
  have d:∀l∈iG slot a,blk l=blk' l:=fun l hl=>by
   rcases(fA _ _ _).1 hl with h | h
   ·simp at h
   ·obtain⟨t,r,q⟩:=vS.1 h;exact g t r l (A_ _ l q)
  have m:(iG slot a).filterMap (ja blk)=(iG slot a).filterMap (ja blk'):=rG fun l hl=>by unfold ja;rw[d l hl]
  have j:((iG slot a).all fun l=>isRow (blk l))=((iG slot a).all fun l=>isRow (blk' l)):=by
   rw[Qcn,Rf,Rf];constructor
   ·intro h l hl;rw[<-d l hl];exact h l hl
   ·intro h l hl;rw[d l hl];exact h l hl
  have k:∀x∈a.operands.toList,aB (CG (qh a.operands.toList) slot blk) x=aB (CG (qh a.operands.toList) b_ blk') x:=by
   intro x hx;cases x with
   | tmp t=>
    have c:=o6.2 hx;simp only[aB,CG];rw[mV (gz.2 c),mV (gz.2 c),<-ht t c];exact zn fun l hl=>g t c l hl
   | _=>rfl
  simp only[Qdy];rw[<-w,<-m,<-j];rw[XC (blk':=kw blk' ((iG slot a).filterMap (ja blk))) k];intro l hl;rw[hmr]at hl;refine aaQ _ _ _ ?_;obtain⟨x,hx,hlx⟩:=vS.1 hl;cases x with
  | tmp t=>
   have c:=o6.2 hx;simp only[aB,CG]at hlx;rw[mV (gz.2 c)]at hlx;exact g t c l (BK _ l hlx)
  | const v=>exact e l qbr
  | func f=>exact e l qbr
  | global i=>exact e l qbr
theorem aaE {t:TypeId}{x:Sl D}(h:∀l∈x.refs,blk l=blk' l):D7 T S blk t x=D7 T S blk' t x:=by
 unfold D7;split
 ·rfl
 ·split
  ·rw[h _ qbq]
  ·rfl
  ·rfl
theorem WV {t:TypeId}{x y:Sl D}(h:∀l∈x.refs,blk l=blk' l):yl T S blk t x y=yl T S blk' t x y:=by
 unfold yl;split
 ·rfl
 ·split
  ·rw[h _ qbq]
  ·rfl
theorem aas {a:Array TypeId}{x:Sl D}(h:∀l∈x.refs,blk l=blk' l):ML T S blk a x=ML T S blk' a x:=by
 unfold ML;split
 ·split
  ·rfl
  ·split
   ·rfl
   ·split
    ·rfl
    ·split
     ·rw[h _ qbq]
     ·rfl
 ·rfl
theorem acT {b:Op}(a:∀x∈b.operands.toList,aB slot x=aB b_ x)(h:∀l∈dB slot blk b,blk l=blk' l):lX T S slot blk fr b=lX T S b_ blk' fr b:=by
 have d:Yl b=true->isFn b=false->∀x∈b.operands.toList,∀l∈(aB b_ x).refs,blk l=blk' l:=by
  intro m o x hx l n;refine h l ?_;unfold dB;rw[o,m];exact vS.2 ⟨x,hx,by rw[a x hx];exact n⟩
 cases b with
 | load t x=>
  simp only[lX];rw[a x og,aaE (d rfl rfl x og)]
 | store t x y=>
  simp only[lX];rw[a x og,a y og,WV (d rfl rfl x og)]
 | indexAddr t x i=>simp only[lX];rw[a x og,a i og]
 | index t x i=>simp only[lX];rw[a x og,a i og]
 | build t j=>
  simp only[lX,Qv];split
  ·rfl
  ·split
   ·rfl
   ·rw[zt j.toList _ fun p hp=>a p.2 qcd]
 | call c=>
  simp only[lX];split
  ·rename_i f;have g:isFn (.call c)=false:=by simp[isFn,f]
   split
   ·rename_i x hx;have e:x∈(Op.call c).operands.toList:=by
     simp only[Op.operands,Call.operands,Qcb,u_];exact .inr qbz
    rw[a x e,aas (d rfl g x e)]
   ·rfl
  ·rfl
 | makeInterface t x=>simp only[lX];rw[a x og]
 | typeAssert x q t k=>
  cases k with
  | true=>simp only[lX];rw[a x og]
  | false=>rfl
 | _=>rfl
theorem agl {a:Op}(b:∀x∈a.operands.toList,aB slot x=aB b_ x)(c:∀l∈dB slot blk a,blk l=blk' l):vF T S Γ slot blk fr a=vF T S Γ b_ blk' fr a:=by
 unfold vF;rw[acT b c,afW b c]
theorem ag0 {a:Op}(b:∀x∈a.operands.toList,aB slot x=aB b_ x)(c:∀l∈dB slot blk a,blk l=blk' l):wJ T S Γ slot blk fr a=wJ T S Γ b_ blk' fr a:=by
 unfold wJ;split
 ·rw[b _ og]
 ·exact agl b c
theorem aed {t:TypeId}{x:Sl D}(h:∀l∈x.refs,blk l=blk' l):mapOf S blk t x=mapOf S blk' t x:=by
 unfold mapOf;split
 ·rw[h _ qbq]
 all_goals rfl
theorem apM {a:List (Dl D)}:(a.map Dl.lf).flatMap Lf.refs=[]:=by
 induction a with
 | nil=>rfl
 | cons p r b=>rw[H7,Qbm,b];cases p<;>rfl
theorem anK {a:Bool}{b:List (Dl D)}{x:Sl D}(h:anR a b=some x):x.refs=[]:=by
 unfold anR at h;split at h
 ·rename_i p;injection h with h
  subst h;cases p<;>rfl
 ·injection h with h
  subst h;exact apM
 ·cases h
theorem U2 {s:Op}(a:∀x∈s.operands.toList,aB slot x=aB b_ x)(L:∀l∈dB slot blk s,blk l=blk' l):nN T S Γ slot blk fr s=nN T S Γ b_ blk' fr s:=by
 have g:Yl s=true->∀x∈s.operands.toList,∀l∈(aB b_ x).refs,blk l=blk' l:=by
  intro p x hx l A;refine L l ?_;have B:l∈s.operands.toList.flatMap fun x=>(aB slot x).refs:=vS.2 ⟨x,hx,by rw[a x hx];exact A⟩
  unfold dB;split
  ·exact zK _ _ _ ((fA _ _ _).2 (.inr B))
  ·first | (split;· exact B;· rename_i q;exact absurd p q) | simpa[p]using B
 cases s with
 | alloc t=>rfl
 | load t x=>
  have hx:=a x og;have h:=g rfl x og;simp only[nN,LU];rw[hx];split
  ·rfl
  ·split
   ·rename_i l o he;rw[h l qbf]
   ·rfl
 | store t x y=>
  have hx:=a x og;have h:=g rfl x og;simp only[nN,Ew];rw[hx,a y og];split
  ·rename_i Y l o u _ he _;rw[h l qbf]
  ·rfl
 | indexAddr t x i=>simp only[nN];rw[a x og,a i og]
 | index t x i=>simp only[nN];rw[a x og,a i og]
 | makeMap t r=>cases r<;>rfl
 | slice t x z p M=>
  cases M with
  | some m=>
   have C:z.map (aB slot)=z.map (aB b_):=by
    cases z with
    | none=>rfl
    | some l=>simp only[H6];rw[a l og]
   have D:p.map (aB slot)=p.map (aB b_):=by
    cases p with
    | none=>rfl
    | some l=>simp only[H6];rw[a l og]
   have hx:=a x og;have I:=a m og;have h:=g rfl x og;simp only[nN,QA];rw[hx,C,D,I];split
   ·split
    ·rfl
    ·split
     ·rfl
     ·split
      ·rfl
      ·split
       ·rfl
       ·rename_i q he;rw[h q qbf]
       ·rfl
   ·rfl
  | none=>
   have C:z.map (aB slot)=z.map (aB b_):=by
    cases z with
    | none=>rfl
    | some l=>simp only[H6];rw[a l og]
   have D:p.map (aB slot)=p.map (aB b_):=by
    cases p with
    | none=>rfl
    | some l=>simp only[H6];rw[a l og]
   have hx:=a x og;have h:=g rfl x og;simp only[nN,QD];rw[hx,C,D];split
   ·rfl
   ·split
    ·split
     ·split
      ·rfl
      ·split
       ·rename_i q he;rw[h q qbf]
       ·rfl
     ·rfl
    ·rfl
 | lookup t x i U=>
  simp only[nN,QU];rw[a x og,a i og,aed (g rfl x og)]
 | mapUpdate t x i v=>
  have hx:=a x og;have h:=g rfl x og;simp only[nN,FO];rw[hx,a i og,a v og];split
  ·rfl
  ·split
   ·rfl
   ·split
    ·split
     ·rename_i l k he _;rw[h l qbf]
     ·rfl
    ·rfl
 | insert t x i v=>
  have hx:=a x og;have h:=g rfl x og;simp only[nN,FO];rw[hx,a i og,a v og];split
  ·rfl
  ·split
   ·rfl
   ·split
    ·split
     ·rename_i l k he _;rw[h l qbf]
     ·rfl
    ·rfl
 | convert t d x=>
  have E:=Eg (blk:=blk) (blk':=blk') (g rfl x og);have e:O1 T S blk t d (aB b_ x)=O1 T S blk' t d (aB b_ x):=by
   unfold O1;split
   ·split
    ·rfl
    ·split
     ·rfl
     ·split
      ·split
       ·rfl
       ·rw[E]
      ·rfl
   ·rfl
  simp only[nN];rw[a x og,e]
 | makeInterface t x=>simp only[nN];rw[a x og]
 | typeAssert x X t U=>simp only[nN];rw[a x og]
 | binOp s t x y yt=>simp only[nN];rw[a x og,a y og]
 | makeFunc W first Q=>
  cases W with
  | func f=>
   simp only[nN];split
   ·rename_i x R Z;rw[a x (by simp only[Op.operands,Qcb,u_];exact .inl (by rw[R];simp))]
   ·rfl
  | _=>rfl
 | nilCheck x=>simp only[nN];rw[a x og]
 | call c=>
  have b:∀x∈c.args.toList,x∈(Op.call c).operands.toList:=fun x hx=>by
   simp only[Op.operands,Call.operands,Qcb,u_];exact .inr hx
  simp only[nN];split
  ·rename_i f K;have H:f∈(Op.call c).operands.toList:=by simp[Op.operands,Call.operands,K]
   have F:=a f H;have this:c.args.toList.map (aB slot)=c.args.toList.map (aB b_):=Qbk fun x hx=>a x (b x hx)
   unfold MK;rw[F,this];split
   ·split
    ·rename_i x hx;refine O3 fun l A=>L l ?_;have G:isFn (Op.call c)=true:=by simp[isFn,K]
     unfold dB;rw[mV G];refine Bo 3 _ _ (fun l A=> ?_) l A;rcases(fA _ _ _).1 A with q | q
     ·simp at q
     ·refine(fA _ _ _).2 (.inr ?_);rw[Qbm,anK hx,Qdo,<-this]at q;obtain⟨y,N,J⟩:=vS.1 q;obtain⟨x,hx,rfl⟩:=Qb.1 N;exact vS.2 ⟨x,b x hx,J⟩
    ·rfl
   ·rfl
  ·split
   ·rename_i x y hx;have j:x∈(Op.call c).operands.toList:=b x qbz;have w:y∈(Op.call c).operands.toList:=b y qbz;have h:=g rfl x j;rw[a x j,a y w];have O:zJ T S blk c.argTypes (aB b_ x) (aB b_ y)=zJ T S blk' c.argTypes (aB b_ x) (aB b_ y):=by
     unfold zJ;split
     ·split
      ·split
       ·rfl
       ·split
        ·rfl
        ·split
         ·rfl
         ·split
          ·rfl
          ·rfl
          ·rename_i l he;rw[h l qbf]
          ·rfl
      ·rfl
     ·rfl
    have V:Ah T S blk fr c.argTypes (aB b_ x) (aB b_ y)=Ah T S blk' fr c.argTypes (aB b_ x) (aB b_ y):=by
     unfold Ah;split
     ·split
      ·split
       ·rfl
       ·split
        ·rfl
        ·split
         ·split
          ·rfl
          ·split
           ·split
            ·rfl
            ·rename_i l he;rw[h l qbf]
            ·rfl
           ·rfl
         ·rfl
      ·rfl
     ·rfl
    have E:=Eg (blk:=blk) (blk':=blk') (g rfl y w);have P:zQ T S blk fr c.argTypes (aB b_ x) (aB b_ y)=zQ T S blk' fr c.argTypes (aB b_ x) (aB b_ y):=by
     unfold zQ;rw[E]
    rw[O,V,P]
   ·rfl
  ·split
   ·rename_i x hx;rw[a x (b x qbz)]
   ·rfl
  ·split
   ·rename_i x hx;have j:x∈(Op.call c).operands.toList:=b x qbz;have h:=g rfl x j;rw[a x j];unfold BA;split
    ·rename_i l he;rw[h l qbf]
    ·rfl
    ·rfl
   ·rfl
  ·split
   ·rename_i x y hx;have j:x∈(Op.call c).operands.toList:=b x qbz;have w:y∈(Op.call c).operands.toList:=b y qbz;have h:=g rfl x j;rw[a x j,a y w];unfold Bl;split
    ·rename_i l n he _;rw[h l qbf]
    ·rfl
    ·rfl
   ·rfl
  ·rfl
 | _=>rfl
theorem Y8 {a:Op}(p:∀x∈a.operands.toList,aB slot x=aB b_ x)(e:∀l∈dB slot blk a,blk l=blk' l):kR T S Γ slot blk fr a=kR T S Γ b_ blk' fr a:=by
 unfold kR;cases n:ig a with
 | false=>simp
 | true=>
  have u:isFn a=false:=by cases a<;>first | rfl | simp[ig]at n
  have o:Yl a=true:=by cases a<;>first | rfl | simp[ig]at n
  have hmr:∀(s:Nat->Sl D) (b:Nat->Option (Bk D)),dB s b a=a.operands.toList.flatMap fun x=>(aB s x).refs:=fun s b=>by unfold dB;rw[u,o];rfl
  have ht:∀t∈qh a.operands.toList,slot t=b_ t:=fun t ht=>p (.tmp t) (o6.1 ht)
  have g:∀t∈qh a.operands.toList,∀l∈(slot t).refs,blk l=blk' l:=fun t ht l hl=>e l qcj
  have w:iG slot a=iG b_ a:=by
   unfold iG;congr 1;exact ny fun t h=>by rw[ht t h]
  have d:∀l∈iG slot a,blk l=blk' l:=fun l hl=>by
   rcases(fA _ _ _).1 hl with h | h
   ·simp at h
   ·obtain⟨t,r,q⟩:=vS.1 h;exact g t r l (A_ _ l q)
  have m:(iG slot a).filterMap (ja blk)=(iG slot a).filterMap (ja blk'):=rG fun l hl=>by unfold ja;rw[d l hl]
  have j:((iG slot a).all fun l=>isRow (blk l))=((iG slot a).all fun l=>isRow (blk' l)):=by
   rw[Qcn,Rf,Rf];constructor
   ·intro h l hl;rw[<-d l hl];exact h l hl
   ·intro h l hl;rw[d l hl];exact h l hl
  have k:∀x∈a.operands.toList,aB (CG (qh a.operands.toList) slot blk) x=aB (CG (qh a.operands.toList) b_ blk') x:=by
   intro x hx;cases x with
   | tmp t=>
    have c:=o6.2 hx;simp only[aB,CG];rw[mV (gz.2 c),mV (gz.2 c),<-ht t c];exact zn fun l hl=>g t c l hl
   | _=>rfl
  simp only[Qdy];rw[<-w,<-m,<-j];rw[U2 (blk':=kw blk' ((iG slot a).filterMap (ja blk))) k];intro l hl;rw[hmr]at hl;refine aaQ _ _ _ ?_;obtain⟨x,hx,hlx⟩:=vS.1 hl;cases x with
  | tmp t=>
   have c:=o6.2 hx;simp only[aB,CG]at hlx;rw[mV (gz.2 c)]at hlx;exact g t c l (BK _ l hlx)
  | const v=>exact e l qbr
  | func f=>exact e l qbr
  | global i=>exact e l qbr
theorem afZ {a:Op}(b:∀x∈a.operands.toList,aB slot x=aB b_ x)(c:∀l∈dB slot blk a,blk l=blk' l):rY T S Γ slot blk fr a=rY T S Γ b_ blk' fr a:=by
 unfold rY;rw[U2 b c,Y8 b c,ag0 b c]
theorem adU {b:Op}(e:∀x∈b.operands.toList,aB slot x=aB b_ x)(g:∀l∈dB slot blk b,blk l=blk' l):Cm slot blk b=Cm b_ blk' b:=by
 unfold Cm;split
 ·rename_i a;have c:a∈(Op.next a true).operands.toList:=by simp[Op.operands]
  have d:∀l∈(aB slot a).refs,blk l=blk' l:=fun l f=>g l (by
   unfold dB;exact vS.2 ⟨a,c,f⟩)
  rw[<-e a c];split
  ·rename_i l o he;rw[d l qbf]
  ·rfl
 ·rfl
theorem af1 {a:Op}{b:Out D}(c:∀x∈a.operands.toList,aB slot x=aB b_ x)(d:∀l∈dB slot blk a,blk l=blk' l)(h:Does T S Γ slot blk fr a b):Does T S Γ b_ blk' fr a b:=by
 unfold Does at h⊢;rw[<-afZ c d,<-adU c d];exact h
theorem agk (k:∀t∈o.looksAt ops,slot t=b_ t)(A:∀l∈dB slot blk o.op,blk l=blk' l)(h:Td T S Γ ops n fr slot blk o W):Td T S Γ ops n fr b_ blk' o W:=by
 have q:∀x∈o.op.operands.toList,aB slot x=aB b_ x:=by
  intro x c;cases x with
  | tmp t=>
   refine k t ?_;simp only[Oper.looksAt,u_,Qcz];exact .inl ⟨_,c,rfl⟩
  | _=>rfl
 have f:∀r,Wanted ops slot o r->Wanted ops b_ o r:=by
  intro r b;unfold Wanted at b⊢;cases e:o.guard with
  | none=>rw[e]at b;exact b
  | some u=>
   obtain⟨j,v⟩:=u;rw[e]at b;obtain⟨d,s,b⟩:=b;have m:slot d=b_ d:=by
    refine k d ?_;simp only[Oper.looksAt,u_,e];exact .inr (by simp[s])
   exact⟨d,s,by rw[<-m];exact b⟩
 obtain⟨y,w,z⟩:=h;refine⟨y,w,?_⟩;rcases z with⟨i,g,c,a⟩ | ⟨p,a⟩
 ·exact .inl ⟨f _ i,g,af1 q A c,a⟩
 ·exact .inr ⟨f _ p,a⟩
def pW (L:Nat->Bool):Nat->(Nat->Sl D)->List (Wr D)->(Nat->Sl D)
 | _,slot,[]=>slot
 | i,slot,W::a=>pW L (i+1) (if L i then zW slot W else slot) a
def qj (L:Nat->Bool):Nat->(Nat->Option (Bk D))->List (Wr D)->(Nat->Option (Bk D))
 | _,blk,[]=>blk
 | i,blk,W::a=>qj L (i+1) (if L i then zI blk W else blk) a
theorem BV {t:Nat}(h:W.dst≠some t):zW slot W t=slot t:=by
 unfold zW;cases a:W.dst with
 | some d=>exact bM _ _ _ _ (fun e=>h (by rw[a,e]))
 | none=>rfl
theorem EJ {t:Nat}(h:W.dst=some t):zW slot W t=W.val:=by simp[zW,h,upd_same]
theorem qM {b:Type}{l:Nat}:∀{a:List (Nat×b)} {f:Nat->b},l∉a.map (·.1)->kw f a l=f l
 | [],f,_=>rfl
 | (k,v)::r,f,h=>by
  simp only[H7,CW,not_or]at h;simp only[kw];rw[qM h.2,bM _ _ _ _ h.1]
theorem Z5 {d:Type}{l:Nat}:∀{c:List (Nat×d)} {f b:Nat->d},l∈c.map (·.1)->kw f c l=kw b c l
 | [],f,b,h=>by simp at h
 | (k,v)::r,f,b,h=>by
  simp only[kw];by_cases a:l∈r.map (·.1)
  ·exact Z5 a
  ·simp only[H7,CW]at h;rcases h with rfl | h
   ·rw[qM a,qM a,upd_same,upd_same]
   ·exact absurd h a
theorem GH {L e:Nat->Bool}{t:Nat}:∀(d:List (Wr D)) (i:Nat) (a b:Nat->Sl D),(∀j W,d[j]? =some W->W.dst=some t->L (i+j)=e (i+j))->a t=b t->pW L i a d t=pW e i b d t
 | [],i,a,b,_,h=>h
 | W::d,i,a,b,f,h=>by
  simp only[pW];refine GH d (i+1) _ _ (fun j W' hj c=>by have:=f (j+1) W' qca c;rwa [show i+(j+1)=i+1+j by omega]at this) ?_;by_cases c:W.dst=some t
  ·have:=f 0 W rfl c;simp only[Pj]at this;rw[this];split
   ·rw[EJ c,EJ c]
   ·exact h
  ·have k:(if L i then zW a W else a) t=a t:=by split<;>first | exact BV c | rfl
   have g:(if e i then zW b W else b) t=b t:=by split<;>first | exact BV c | rfl
   rw[k,g];exact h
theorem Ht {L e:Nat->Bool}{t:Nat}:∀(d:List (Wr D)) (i:Nat) (b a:Nat->Option (Bk D)),(∀j W,d[j]? =some W->t∈W.keys->L (i+j)=e (i+j))->b t=a t->qj L i b d t=qj e i a d t
 | [],i,b,a,_,h=>h
 | W::d,i,b,a,f,h=>by
  simp only[qj];refine Ht d (i+1) _ _ (fun j W' hj c=>by have:=f (j+1) W' qca c;rwa [show i+(j+1)=i+1+j by omega]at this) ?_;by_cases c:t∈W.keys
  ·have:=f 0 W rfl c;simp only[Pj]at this;rw[this];split
   ·exact Z5 c
   ·exact h
  ·have k:(if L i then zI b W else b) t=b t:=by split<;>first | exact qM c | rfl
   have g:(if e i then zI a W else a) t=a t:=by split<;>first | exact qM c | rfl
   rw[k,g];exact h
theorem Fv {L:Nat->Bool}{t:Nat}(b:List (Wr D))(i:Nat)(a:Nat->Sl D)(h:∀j W,b[j]? =some W->W.dst=some t->L (i+j)=false):pW L i a b t=a t:=by
 induction b generalizing i a with
 | nil=>rfl
 | cons W b d=>
  simp only[pW];rw[d (i+1) _ fun j W' hj c=>by have:=h (j+1) W' qca c;rwa [show i+(j+1)=i+1+j by omega]at this];by_cases c:W.dst=some t
  ·have:=h 0 W rfl c;simp only[Pj]at this;rw[this];rfl
  ·split<;>first | exact BV c | rfl
theorem ER {L:Nat->Bool}{t:Nat}(b:List (Wr D))(i:Nat)(a:Nat->Option (Bk D))(h:∀j W,b[j]? =some W->t∈W.keys->L (i+j)=false):qj L i a b t=a t:=by
 induction b generalizing i a with
 | nil=>rfl
 | cons W b d=>
  simp only[qj];rw[d (i+1) _ fun j W' hj c=>by have:=h (j+1) W' qca c;rwa [show i+(j+1)=i+1+j by omega]at this];by_cases c:t∈W.keys
  ·have:=h 0 W rfl c;simp only[Pj]at this;rw[this];rfl
  ·split<;>first | exact qM c | rfl
theorem Xp {L:Nat->Bool}{t:Nat}:∀(c:List (Wr D)) (b i:Nat) (a:Nat->Sl D) (W:Wr D),c[i]? =some W->L (b+i)=true->W.dst=some t->(∀j d,i < j->c[j]? =some d->d.dst=some t->L (b+j)=false)->pW L b a c t=W.val
 | [],b,i,a,W,h,_,_,_=>by simp at h
 | V::c,b,0,a,W,h,f,k,g=>by
  simp only[Qby,Nj]at h;subst h;simp only[pW];rw[Fv c (b+1) _ fun j d hj e=>by have:=g (j+1) d au qca e;rwa [show b+(j+1)=b+1+j by omega]at this];simp only[Pj]at f;rw[f];exact EJ k
 | V::c,b,i+1,a,W,h,f,k,g=>by
  simp only[pW];exact Xp c (b+1) i _ W qbv (by rw[show b+1+i=b+(i+1) by omega];exact f) k fun j d hj l e=>by have:=g (j+1) d au (by simpa using l) e;rwa [show b+(j+1)=b+1+j by omega]at this
theorem XU {L:Nat->Bool}{t:Nat}:∀(c:List (Wr D)) (b i:Nat) (d a:Nat->Option (Bk D)) (W:Wr D),c[i]? =some W->L (b+i)=true->t∈W.keys->(∀j e,i < j->c[j]? =some e->t∈e.keys->L (b+j)=false)->qj L b d c t=zI a W t
 | [],b,i,d,a,W,h,_,_,_=>by simp at h
 | V::c,b,0,d,a,W,h,g,l,k=>by
  simp only[Qby,Nj]at h;subst h;simp only[qj];rw[ER c (b+1) _ fun j e hj f=>by have:=k (j+1) e au qca f;rwa [show b+(j+1)=b+1+j by omega]at this];simp only[Pj]at g;rw[g];exact Z5 l
 | V::c,b,i+1,d,a,W,h,g,l,k=>by
  simp only[qj];exact XU c (b+1) i _ a W qbv (by rw[show b+1+i=b+(i+1) by omega];exact g) l fun j e hj m f=>by have:=k (j+1) e au (by simpa using m) f;rwa [show b+(j+1)=b+1+j by omega]at this
theorem ad1 {L:Nat->Bool}:∀(c:List (Wr D)) (b:Nat) (a:Nat->Sl D),(∀j,j < c.length->L (b+j)=true)->pW L b a c=CJ a c
 | [],_,_,_=>rfl
 | W::c,b,a,h=>by
  have d:=h 0 oI;simp only[Pj]at d;simp only[pW,d,if_true,CJ];exact ad1 c (b+1) _ fun j hj=>by have:=h (j+1) qca;rwa [show b+(j+1)=b+1+j by omega]at this
theorem ads {L:Nat->Bool}:∀(c:List (Wr D)) (b:Nat) (a:Nat->Option (Bk D)),(∀j,j < c.length->L (b+j)=true)->qj L b a c=FX a c
 | [],_,_,_=>rfl
 | W::c,b,a,h=>by
  have d:=h 0 oI;simp only[Pj]at d;simp only[qj,d,if_true,FX];exact ads c (b+1) _ fun j hj=>by have:=h (j+1) qca;rwa [show b+(j+1)=b+1+j by omega]at this
theorem UX:∀(l:List Oper) (d:List (Wr D)) (b i e:Nat) (a:Nat->Sl D) (c:Nat->Option (Bk D)) (o:Oper),Trace T S Γ ops n e a c l d->l[i]? =some o->
  ∃W,d[i]? =some W/\∃k,(∀t,Alike (pW (fun j=>decide (j < b+i)) b a d t) (k t))/\Td T S Γ ops n (e+64*i) k (qj (fun j=>decide (j < b+i)) b c d) o W
 | [],_,_,i,_,_,_,_,_,h=>by simp at h
 | _::_,[],_,_,_,_,_,_,f,_=>by simp[Trace]at f
 | o'::l,W::d,b,0,e,a,c,o,f,h=>by
  simp only[Qby,Nj]at h;subst h;refine⟨W,rfl,?_⟩;have r:pW (fun j=>decide (j < b+0)) b a (W::d)=a:=by
   funext t;exact Fv _ _ _ fun j W' _ _=>by simp
  have q:qj (fun j=>decide (j < b+0)) b c (W::d)=c:=by
   funext t;exact ER _ _ _ fun j W' _ _=>by simp
  rw[r,q];exact f.1
 | o'::l,W::d,b,i+1,e,a,c,o,f,h=>by
  obtain⟨W',g,m⟩:=UX l d (b+1) i (e+64) _ _ o f.2 qbv;refine⟨W',by simpa using g,?_⟩;have p:decide (b < b+(i+1))=true:=by simp
  simp only[pW,qj,p,if_true];rw[show b+(i+1)=b+1+i by omega,show e+64*(i+1)=e+64+64*i by omega];exact m
theorem I_:∀(l:List Oper) (a:List (Wr D)) (d:Nat) (b:Nat->Sl D) (c:Nat->Option (Bk D)),Trace T S Γ ops n d b c l a->a.length=l.length
 | [],[],_,_,_,_=>rfl
 | [],_::_,_,_,_,h=>by simp[Trace]at h
 | _::_,[],_,_,_,h=>by simp[Trace]at h
 | _::l,_::a,d,_,_,h=>by simp[I_ l a _ _ _ h.2]
end
end Go.Vc
namespace Go.Vc
open Go.RowKit
def yE (a:Array Oper):Bool:=
 (List.range a.size).all fun j=>
  match a[j]? with
  | none=>true
  | some b=>(b.after.toList.all fun e=> !Region.binds .any e || Nat.blt e.on j) && (List.range j).all fun i=>
   match a[i]? with
   | none=>true
   | some c=>Oper.apart a c b || Gt b i
section
variable {D:Type}{P:Program}{S:Sh D}{T:TypeId->Option Ty}{Γ:FuncId->Option (Ct D)}{N:Nat->Prop}{w w':World}{w0:Bs}{g0:Nat->Option Value}{blk blk':Nat->Option (Bk D)}{al:Nat->Prop}
 {a:Act} {o:Oper} {K:Act->World->Prop} {Q:Exit->Act->World->Prop} {slot b_:Nat->Sl D} {fr n:Nat} {ops:Array Oper} {W:Wr D} {Ws:List (Wr D)}
theorem aaD (h:yE ops=true){j:Nat}{a:Oper}(c:ops[j]? =some a):∀e∈a.after.toList,Region.binds .any e=true->e.on < j:=by
 intro e d f;have b:j < ops.size:=(Qc.1 c).1;have:=Rf.1 h j (Qcl.2 b);simp only[c,iT]at this;have:=Rf.1 this.1 e d;simp only[f,Qcs,Bool.false_or]at this;simpa[CE]using this
theorem Dv (h:yE ops=true){i j:Nat}{b a:Oper}(d:i < j)(f:ops[i]? =some b)(e:ops[j]? =some a):Oper.apart ops b a=true\/Gt a i=true:=by
 have c:j < ops.size:=(Qc.1 e).1;have:=Rf.1 h j (Qcl.2 c);simp only[e,iT]at this;have:=Rf.1 this.2 i (Qcl.2 d);simp only[f,Qbp]at this;exact this
def I9 (a:Nat->Sl D)(b:Nat->Option (Bk D))(c:List (Wr D))(d:Array Oper)(i:Nat):List Nat:=
 match d[i]? with
 | some o=>dB (pW (fun j=>decide (j < i)) 0 a c) (qj (fun j=>decide (j < i)) 0 b c) o.op
 | none=>[]
def apH (b:Nat->Sl D)(d:Nat->Option (Bk D))(c:List (Wr D))(a:Array Oper):Prop:=
 ∀i j f e g l,i < j->a[j]? =some f->c[i]? =some e->c[j]? =some g->((l∈g.keys/\(l∈I9 b d c a i\/l∈e.keys))\/(l∈I9 b d c a j/\l∈e.keys))->vk a 3 f i=true
theorem X9 {o:Oper}{i:Nat}(h:Gt o i=true):∃e∈o.after.toList,Region.binds .any e=true/\e.on=i:=by
 simp only[Gt,Qcu,iT]at h;obtain⟨e,a,b,c⟩:=h;exact⟨e,a,b,Qa c⟩
theorem Hw {a:Array Bool}(f:∀i o,ops[i]? =some o->a.getD i false=true->∀e∈o.after.toList,Region.binds .any e=true->a.getD e.on false=true):
  ∀(k:Nat) (o:Oper) (i:Nat),(∀e∈o.after.toList,Region.binds .any e=true->a.getD e.on false=true)->vk ops k o i=true->a.getD i false=true
 | 0,o,i,b,h=>by
  obtain⟨e,c,d,rfl⟩:=X9 h;exact b e c d
 | k+1,o,i,b,h=>by
  simp only[vk,Qbp,Qcu,iT]at h;rcases h with h | ⟨e,c,d,g⟩
  ·obtain⟨e,c,d,rfl⟩:=X9 h;exact b e c d
  ·split at g
   ·rename_i o' j;exact Hw f k o' i (f e.on o' j (b e c d)) g
   ·cases g
theorem VI {a:Array Bool}(l:a.size=ops.size){i:Nat}(h:i∈Region.ready .any ops a):
  ∃o,ops[i]? =some o/\a.getD i false=false/\i < ops.size/\∀e∈o.after.toList,Region.binds .any e=true->a.getD e.on false=true:=by
 simp only[Region.ready,Qb1,Qcl,iT]at h;obtain⟨c,k,b⟩:=h;cases d:ops[i]? with
 | none=>rw[d]at b;simp at b
 | some o=>
  rw[d]at b;simp only[H6,Qcv]at b;refine⟨o,rfl,?_,c,fun e f g=> ?_⟩
  ·have j:i < a.size:=by omega
   simpa[Array.getD,j]using k
  ·rw[Array.all_eq_true_iff_forall_mem]at b;have:=b e (by simpa using f);simpa[g]using this
theorem ready_nil {a:Array Bool}(n:a.size=ops.size)(m:yE ops=true)(h:Region.ready .any ops a=[]):∀j,j < ops.size->a.getD j false=true:=by
 intro j;induction j using Nat.strongRecOn with
 | _ j k=>
  intro f;cases i:a.getD j false with
  | true=>rfl
  | false=>
   exfalso;have c:ops[j]? =some ops[j]:=by simp[f]
   have b:j∈Region.ready .any ops a:=by
    simp only[Region.ready,Qb1,Qcl,iT];refine⟨f,?_,?_⟩
    ·have l:j < a.size:=by omega
     simpa[Array.getD,l]using i
    ·rw[c];simp only[H6,Qcv];rw[Array.all_eq_true_iff_forall_mem];intro e g;cases d:Region.binds .any e with
     | false=>rfl
     | true=>
      have:=aaD m c e (by simpa using g) d;simpa using k e.on this au
   rw[h]at b;simp at b
theorem awh (hTy:∀t ty,T t=some ty->fB P t ty)(hΓ:∀f ct,Γ f=some ct->dJ P S f ct)(hS:iL S)(hd:yE ops=true)(htr:Trace T S Γ ops n fr slot blk ops.toList Ws)(X:apH slot blk Ws ops)
  (hQ:∀a w,Holds S w0 g0 N n (CJ slot Ws) (FX blk Ws) (· < fr+64*ops.size) a w->Q .normal a w):
  ∀(B:Nat) (b:Array Bool) (a:Act) (w:World),b.size=ops.size->(∀i o,ops[i]? =some o->b.getD i false=true->∀e∈o.after.toList,Region.binds .any e=true->b.getD e.on false=true)->
   b.toList.count false<=B->Holds S w0 g0 N n (pW (fun j=>b.getD j false) 0 slot Ws) (qj (fun j=>b.getD j false) 0 blk Ws) (fun l=>l < fr\/∃j,b.getD j false=true/\fr+64*j<=l/\l < fr+64*j+64) a w->
   wpAny P .any ops Q B b a w:=by
 have hlen:Ws.length=ops.size:=by simpa using I_ _ _ _ _ _ htr
 have hWs:∀(j:Nat) (d:Wr D),Ws[j]? =some d->∃q:Oper,ops[j]? =some q/\d.dst=q.dst:=by
  intro j d c;have aa:j < ops.size:=by have:=(Qa1.1 c).1;omega
  obtain⟨W',ab,_,_,Z⟩:=UX ops.toList Ws 0 j fr slot blk ops[j] htr (by simp[aa]);rw[c]at ab;injection ab with ab
  subst ab;exact⟨ops[j],by simp[aa],Z.1⟩
 have fin:∀(b:Array Bool) (a:Act) (w:World),b.size=ops.size->Region.ready .any ops b=[]->Holds S w0 g0 N n (pW (fun j=>b.getD j false) 0 slot Ws) (qj (fun j=>b.getD j false) 0 blk Ws) (fun l=>l < fr\/∃j,b.getD j false=true/\fr+64*j<=l/\l < fr+64*j+64) a w->Q .normal a w:=by
  intro b a w x E h;have hall:=ready_nil x hd E;rw[ad1 Ws 0 slot fun j c=>by simpa using hall j au,ads Ws 0 blk fun j c=>by simpa using hall j au]at h;obtain⟨g,hp,K⟩:=h;refine hQ a w ⟨g,hp.weaken ?_,K⟩;rintro l (I | ⟨j,c,h1,h2⟩)
  ·omega
  ·have:j < b.size:=by
    by_cases R:j < b.size
    ·exact R
    ·simp[Array.getD,R]at c
   omega
 intro B;induction B with
 | zero=>
  intro b a w x L hcnt h;have E:Region.ready .any ops b=[]:=by
   cases hx:Region.ready .any ops b with
   | nil=>rfl
   | cons i rs=>
    exfalso;obtain⟨o,ho,hf,aa,_⟩:=VI x (show i∈Region.ready .any ops b by rw[hx];simp);have I:i < b.size:=by omega
    have aJf:false∈b.toList:=by
     have:b[i]=false:=by simpa[Array.getD,I]using hf
     rw[<-this];simp
    have:=List.count_pos_iff.2 aJf;omega
  exact⟨E,fin b a w x E h⟩
 | succ B ih=>
  intro b a w x L hcnt h;refine⟨fun E=>fin b a w x E h,fun i hi=> ?_⟩;obtain⟨C,v,Y,hilt,hed⟩:=VI x hi;obtain⟨z,y,aBT,heI,Z⟩:=UX ops.toList Ws 0 i fr slot blk C htr (by simpa using v);simp only[FQ]at Z heI;have ac:i < b.size:=by omega
  have A:∀j d q,Ws[j]? =some d->ops[j]? =some q->(j < i->vk ops 3 C j=true)->(i < j->vk ops 3 q i=true)->b.getD j false=decide (j < i):=by
   intro j d q c p h1 h2;rcases Nat.lt_trichotomy j i with k | rfl | k
   ·rw[Hw L 3 C j hed (h1 k)];simp[k]
   ·rw[Y];simp
   ·have hn:¬j < i:=by omega
    simp only[hn,decide_false];cases hb:b.getD j false with
    | false=>rfl
    | true=>
     have:=Hw L 3 q i (L j q p hb) (h2 k);rw[Y]at this;cases this
  have avz:∀(j:Nat) (d:Wr D) (q:Oper) (t:Nat),Ws[j]? =some d->ops[j]? =some q->d.dst=some t->q.dst=some t:=by
   intro j d q t c p s;obtain⟨o',F,V⟩:=hWs j d c;rw[p]at F;injection F with F
   subst F;rw[<-V];exact s
  have H:∀j d,Ws[j]? =some d->∃q,ops[j]? =some q:=fun j d c=>by obtain⟨o',F,_⟩:=hWs j d c;exact⟨o',F⟩
  have afh:∀t∈C.looksAt ops,pW (fun j=>decide (j < i)) 0 slot Ws t=pW (fun j=>b.getD j false) 0 slot Ws t:=by
   intro t M;refine GH Ws 0 slot slot (fun j d c s=> ?_) rfl;obtain⟨q,p⟩:=H j d c;have G:=avz j d q t c p s;simp only[FQ];refine(A j d q c p (fun k=> ?_) (fun u=> ?_)).symm
   ·rcases Dv hd k p v with O | J
    ·exact absurd M ((Oper.apart_spec O).1 t G)
    ·exact aie J 3
   ·rcases Dv hd u v p with O | J
    ·exact absurd M ((Oper.apart_spec O).2.2 t G)
    ·exact aie J 3
  have hrd:I9 slot blk Ws ops i=dB (pW (fun j=>decide (j < i)) 0 slot Ws) (qj (fun j=>decide (j < i)) 0 blk Ws) C.op:=by simp[I9,v]
  have hblk:∀l∈dB (pW (fun j=>decide (j < i)) 0 slot Ws) (qj (fun j=>decide (j < i)) 0 blk Ws) C.op,qj (fun j=>decide (j < i)) 0 blk Ws l=qj (fun j=>b.getD j false) 0 blk Ws l:=by
   intro l I;refine Ht Ws 0 blk blk (fun j d c U=> ?_) rfl;obtain⟨q,p⟩:=H j d c;simp only[FQ];exact(A j d q c p (fun k=>X j i C d z l k v c y (.inr ⟨by rw[hrd];exact I,U⟩)) (fun u=>X i j q z d l u p y c (.inl ⟨U, .inl (by rw[hrd];exact I)⟩))).symm
  have V:=agk (b_:=fun t=>if t∈C.looksAt ops then aBT t else pW (fun j=>b.getD j false) 0 slot Ws t) (fun t M=>by simp only[M,if_true]) (fun l I=>hblk l (by rw[DD heI];exact I)) Z;have heL:∀t,Alike (pW (fun j=>b.getD j false) 0 slot Ws t) (if t∈C.looksAt ops then aBT t else pW (fun j=>b.getD j false) 0 slot Ws t):=by
   intro t;by_cases M:t∈C.looksAt ops
   ·rw[mV M,<-afh t M];exact heI t
   ·rw[lW M];exact Alike.refl _
  refine Vx hTy hΓ hS v (h.alike heL) ?_ V fun a' w' h'=> ?_
  ·rintro m hm1 hm2 (aa | ⟨j,c,J⟩)
   ·omega
   ·have:j=i:=by omega
    subst this;rw[Y]at c;cases c
  ·
   have h':=h'.alike (wP (W:=z) fun t=>(heL t).symm);have r:∀j,(b.setIfInBounds i true).getD j false=(if j=i then true else b.getD j false):=by
    intro j;by_cases k:j=i
    ·subst k;simp[Array.getD,ac]
    ·simp only[k,if_false,Array.getD];by_cases R:j < b.size
     ·have u:¬i=j:=fun e=>k e.symm
      simp[R,u]
     ·simp[R]
   have e1:zW (pW (fun j=>b.getD j false) 0 slot Ws) z=pW (fun j=>(b.setIfInBounds i true).getD j false) 0 slot Ws:=by
    funext t;by_cases s:z.dst=some t
    ·rw[EJ s];refine(Xp Ws 0 i slot z y (by simp[r]) s fun j d u c G=> ?_).symm;obtain⟨q,p⟩:=H j d c;simp only[FQ,r,show j≠i by omega,if_false];have:=A j d q c p (fun h=>by omega) (fun _=>by
      rcases Dv hd u v p with O | J
      ·exact absurd (avz j d q t c p G) ((Oper.apart_spec O).2.1 t (avz i z C t y v s))
      ·exact aie J 3)
     rw[this];simp;omega
    ·rw[BV s];refine GH Ws 0 slot slot (fun j d c G=> ?_) rfl;have k:j≠i:=by
      rintro rfl;rw[y]at c;injection c with c
      subst c;exact s G
     simp[r,k]
   have e2:zI (qj (fun j=>b.getD j false) 0 blk Ws) z=qj (fun j=>(b.setIfInBounds i true).getD j false) 0 blk Ws:=by
    funext t;by_cases U:t∈z.keys
    ·refine(XU Ws 0 i blk _ z y (by simp[r]) U fun j d u c hkj=> ?_).symm;obtain⟨q,p⟩:=H j d c;simp only[FQ,r,show j≠i by omega,if_false];have:=A j d q c p (fun h=>by omega) (fun _=>X i j q z d t u p y c (.inl ⟨hkj, .inr U⟩));rw[this];simp;omega
    ·rw[show zI (qj (fun j=>b.getD j false) 0 blk Ws) z t=qj (fun j=>b.getD j false) 0 blk Ws t from qM U];refine Ht Ws 0 blk blk (fun j d c hkj=> ?_) rfl;have k:j≠i:=by
      rintro rfl;rw[y]at c;injection c with c
      subst c;exact U hkj
     simp[r,k]
   rw[e1,e2]at h';refine ih _ a' w' (by simp[x]) ?_ ?_ ?_
   ·intro j o ho c e J hb;rw[r]at c⊢;by_cases k:j=i
    ·subst k;rw[v]at ho;injection ho with ho
     subst ho;have:=hed e J hb;split<;>simp_all
    ·rw[lW k]at c;have:=L j o ho c e J hb;split<;>simp_all
   ·have hx:b.toList[i]'(by simpa using ac)=false:=by simpa[Array.getD,ac]using Y
    have hc:(b.setIfInBounds i true).toList.count false=b.toList.count false - 1:=by
     rw[Array.toList_setIfInBounds,List.count_set (by simpa using ac)];simp[hx]
    omega
   ·obtain⟨g,hp,K⟩:=h';refine⟨g,hp.weaken ?_,K⟩;rintro l ((I | ⟨j,c,E⟩) | E)
    ·exact .inl I
    ·exact .inr ⟨j,by rw[r];split<;>simp_all,E⟩
    ·exact .inr ⟨i,by simp[r],E⟩
theorem aew {id:Nat}(H:P.follows .mixedOrders=true)(s:∀t q,T t=some q->fB P t q)(d:∀f r,Γ f=some r->dJ P S f r)(y:iL S)(I:yE ops=true)(k:Trace T S Γ ops n fr slot blk ops.toList Ws)(c:apH slot blk Ws ops)
  (h:Holds S w0 g0 N n slot blk (· < fr) a w) (C:∀a w,Holds S w0 g0 N n (CJ slot Ws) (FX blk Ws) (· < fr+64*ops.size) a w->Q .normal a w):(Code.region id ops true).wp P Q a w:=by
 refine wp_region_any H (awh s d y I k c C ops.size _ a _ oI ?_ oI ?_)
 ·intro i o _ e;exfalso;by_cases b:i < ops.size
  ·simp[Array.getD,b]at e
  ·simp[Array.getD,b]at e
 ·have v:∀j,(Array.replicate ops.size false).getD j false=false:=by
   intro j;by_cases b:j < ops.size<;>simp[Array.getD,b]
  have A:pW (fun j=>(Array.replicate ops.size false).getD j false) 0 slot Ws=slot:=by
   funext t;exact Fv _ _ _ fun j W _ _=>v _
  have G:qj (fun j=>(Array.replicate ops.size false).getD j false) 0 blk Ws=blk:=by
   funext t;exact ER _ _ _ fun j W _ _=>v _
  rw[A,G];obtain⟨g,E,B,z,p,m⟩:=h;have F:Below w.heap.size w {w with drawn:=w.drawn+1}:=⟨rfl,rfl,rfl,oC _,fun _ _=>rfl⟩;obtain⟨u,D⟩:=E.grow F;exact⟨g,u.weaken fun l x=> .inl x,fun t=>(B t).keep D (More.refl _),z,p,m⟩
end
end Go.Vc
namespace Go.Vc
open Go.RowKit
structure Alg (τ:Type 1) where
 stuck:τ
 ob:DP->τ->τ
 br:Bool->τ->τ->τ
structure VU {τ:Type 1}(A:Alg τ)(den:τ->Prop):Prop where
 stuck:¬den A.stuck
 ob:∀{p k},den (A.ob p k)->p.p/\den k
 br:∀{b t e},den (A.br b t e)->(b=true->den t)/\(b=false->den e)
def Alg.opt {a:Type 1}(A:Alg a)(p:Option DP)(k:a):a:=
 match p with
 | none=>k
 | some p=>A.ob p k
theorem VU.opt {b:Type 1}{A:Alg b}{a:b->Prop}(c:VU A a){p:Option DP}{k:b}(h:a (A.opt p k)):lY p/\a k:=by
 cases p with
 | none=>exact⟨trivial,h⟩
 | some p=>exact c.ob h
def look {a:Type}(d:a):List (Nat×a)->Nat->a
 | [],_=>d
 | (k,v)::r,n=>if Nat.beq n k then v else look d r n
theorem ug {a:Type}(d:a)(k:Nat)(v:a)(r:List (Nat×a)):look d ((k,v)::r)=upd (look d r) k v:=by
 funext n;simp only[look,upd];by_cases h:n=k
 ·simp[h]
 ·have:¬(n.beq k=true):=fun e=>h (Qa e)
  simp[h,this]
theorem ac4 {b:Type}(d:b):∀(a l:List (Nat×b)),look d (a.reverse++l)=kw (look d l) a
 | [],l=>rfl
 | (k,v)::a,l=>by
  rw[List.reverse_cons,Qb2,List.singleton_append,ac4 d a,ug];rfl
structure St (D:Type) where
 tmps:List (Nat×Sl D)
 blks:List (Nat×Option (Bk D))
 next:Nat
def St.slot {D:Type}(s:St D):Nat->Sl D:=look (.one (.lf .any)) s.tmps
def St.blk {D:Type}(s:St D):Nat->Option (Bk D):=look none s.blks
def St.put {D:Type}(s:St D)(b:Option Nat)(v:Sl D)(a:List (Nat×Option (Bk D))):St D:=
 match b with
 | some d=>⟨(d,v)::s.tmps,a.reverse++s.blks,s.next⟩
 | none=>⟨s.tmps,a.reverse++s.blks,s.next⟩
theorem uz {D:Type}(s:St D)(a:Option Nat)(v:Sl D)(b:List (Nat×Option (Bk D))):(s.put a v b).slot=zW s.slot ⟨a,v,b⟩:=by
 cases a with
 | none=>rfl
 | some d=>exact ug _ _ _ _
theorem xY {D:Type}(s:St D)(a:Option Nat)(v:Sl D)(b:List (Nat×Option (Bk D))):(s.put a v b).blk=zI s.blk ⟨a,v,b⟩:=by
 cases a<;>exact ac4 _ _ _
theorem wF {D:Type}(s:St D)(a:Option Nat)(v:Sl D)(b:List (Nat×Option (Bk D))):(s.put a v b).next=s.next:=by
 cases a<;>rfl
theorem aln {D:Type}{s:St D}{a:Option Nat}{v:Sl D}{d b x:List (Nat×Option (Bk D))}(h:x=b++(s.put a v d).blks):∃c,x=c++s.blks:=by
 cases a<;>exact⟨b++d.reverse,by rw[h];simp[St.put]⟩
theorem YL {D:Type}{s:St D}{a:Option Nat}{v:Sl D}{b:List (Nat×Option (Bk D))}{t:Nat}(h:a≠some t):(s.put a v b).slot t=s.slot t:=by
 cases a with
 | none=>rfl
 | some d=>
  show look _ _ t=look _ _ t
  rw[show(s.put (some d) v b).tmps=(d,v)::s.tmps from rfl,ug];exact bM _ _ _ _ fun e=>h (by rw[e])
def meets (a b:List Nat):Bool:=a.any fun x=>b.any fun y=>Nat.beq x y
def aeo (b:Array Oper)(c:List (Nat×List Nat×List Nat))(o:Oper)(d a:List Nat):Bool:=
 c.any fun p=>(meets a p.2.1 || meets a p.2.2 || meets d p.2.2) && !vk b 3 o p.1
def Vr (n:Nat):Option Nat->Bool
 | none=>true
 | some d=>Nat.blt d n
section
variable {D:Type}{τ:Type 1}
def stepW (A:Alg τ)(d:Array Oper)(c:Bool)(o:Oper)(i:Nat)(b:List (Nat×List Nat×List Nat))(s:St D)(a:Out D)(k:List (Nat×List Nat×List Nat)->St D->τ):τ:=
 match c with
 | false=>A.opt a.pre (k b (s.put o.dst a.val a.blks))
 | true=>
  if aeo d b o (dB s.slot s.blk o.op) (a.blks.map (·.1))then A.stuck
  else A.opt a.pre (k ((i,dB s.slot s.blk o.op,a.blks.map (·.1))::b) (s.put o.dst a.val a.blks))
def D5 (A:Alg τ)(T:TypeId->Option Ty)(S:Sh D)(h:FuncId->Option (Ct D))(c:Array Oper)(a:Bool)(o:Oper)(i:Nat)(d:List (Nat×List Nat×List Nat))(s:St D)(k:List (Nat×List Nat×List Nat)->St D->τ):τ:=
 match Cm s.slot s.blk o.op with
 | some (b,f,g)=>A.br b (stepW A c a o i d s f k) (stepW A c a o i d s g k)
 | none=>
  match rY T S h s.slot s.blk (s.next+64*i) o.op with
  | none=>A.stuck
  | some e=>stepW A c a o i d s e k
def FW (A:Alg τ)(c:Array Oper)(b:Bool)(o:Oper)(i:Nat)(a:List (Nat×List Nat×List Nat))(s:St D)(k:List (Nat×List Nat×List Nat)->St D->τ):τ:=
 match b with
 | false=>k a (s.put o.dst (.one (.lf (.val undef))) [])
 | true=>
  if aeo c a o (dB s.slot s.blk o.op) []then A.stuck
  else k ((i,dB s.slot s.blk o.op,[])::a) (s.put o.dst (.one (.lf (.val undef))) [])
def mP (A:Alg τ)(T:TypeId->Option Ty)(S:Sh D)(f:FuncId->Option (Ct D))(e:Array Oper)(n:Nat)(c:Bool):List Oper->Nat->List (Nat×List Nat×List Nat)->St D->(St D->τ)->τ
 | [],i,_,s,K=>K ⟨s.tmps,s.blks,s.next+64*i⟩
 | o::r,i,a,s,K=>
  match Vr n o.dst with
  | false=>A.stuck
  | true=>
   match o.guard with
   | none=>D5 A T S f e c o i a s fun a s=>mP A T S f e n c r (i+1) a s K
   | some (j,g)=>
    match(e[j]?).bind (·.dst)with
    | none=>A.stuck
    | some d=>
     match s.slot d with
     | .one (.lf (.bool b))=>
      match g with
      | true=>A.br b (D5 A T S f e c o i a ⟨(d, .one (.lf (.val (.bool true))))::s.tmps,s.blks,s.next⟩ fun a s=>mP A T S f e n c r (i+1) a s K)
        (FW A e c o i a ⟨(d, .one (.lf (.val (.bool false))))::s.tmps,s.blks,s.next⟩ fun a s=>mP A T S f e n c r (i+1) a s K)
      | false=>A.br b (FW A e c o i a ⟨(d, .one (.lf (.val (.bool true))))::s.tmps,s.blks,s.next⟩ fun a s=>mP A T S f e n c r (i+1) a s K)
        (D5 A T S f e c o i a ⟨(d, .one (.lf (.val (.bool false))))::s.tmps,s.blks,s.next⟩ fun a s=>mP A T S f e n c r (i+1) a s K)
     | .one (.lf (.val (.bool b)))=>
      match b==g with
      | true=>D5 A T S f e c o i a s fun a s=>mP A T S f e n c r (i+1) a s K
      | false=>FW A e c o i a s fun a s=>mP A T S f e n c r (i+1) a s K
     | .one (.lf (.val v))=>
      match FC v with
      | true=>FW A e c o i a s fun a s=>mP A T S f e n c r (i+1) a s K
      | false=>A.stuck
     | _=>A.stuck
end
section
variable {D:Type}{P:Program}{S:Sh D}{T:TypeId->Option Ty}{Γ:FuncId->Option (Ct D)}{N:Nat->Prop}{w w':World}{w0:Bs}{n:Nat}{ops:Array Oper}{τ:Type 1}{A:Alg τ}{den:τ->Prop}
def Xy (p:List Nat×List Nat)(a b:List Nat):Prop:=∃l,(l∈b/\(l∈p.1\/l∈p.2))\/(l∈a/\l∈p.2)
theorem UI {a b:List Nat}{l:Nat}(d:l∈a)(c:l∈b):meets a b=true:=by
 simp only[meets,Qcu];exact⟨l,d,l,c,by simp⟩
theorem ak2 {a:List (Nat×List Nat×List Nat)}{o:Oper}{c d:List Nat}(h:¬aeo ops a o c d=true):∀p∈a,Xy p.2 c d->vk ops 3 o p.1=true:=by
 intro p g ⟨l,i⟩;cases f:vk ops 3 o p.1 with
 | true=>rfl
 | false=>
  exfalso;apply h;simp only[aeo,Qcu,iT,Qbp];refine⟨p,g,?_,by simp[f]⟩;rcases i with⟨e,j | b⟩ | ⟨k,b⟩
  ·exact .inl (.inl (UI e j))
  ·exact .inl (.inr (UI e b))
  ·exact .inr (UI k b)
def ah2 (a:Array Oper):List (Nat×List Nat×List Nat)->Nat->(Nat->Sl D)->(Nat->Option (Bk D))->List Oper->List (Wr D)->Prop
 | _,_,_,_,[],_=>True
 | _,_,_,_,_::_,[]=>True
 | b,i,slot,blk,o::r,W::c=>(∀p∈b,Xy p.2 (dB slot blk o.op) W.keys->vk a 3 o p.1=true)/\ah2 a ((i,dB slot blk o.op,W.keys)::b) (i+1) (zW slot W) (zI blk W) r c
def F_ (e:τ->Prop)(T:TypeId->Option Ty)(S:Sh D)(h:FuncId->Option (Ct D))(b:Array Oper)(n:Nat)(d:Bool)(l:List Oper)(i:Nat)(f:List (Nat×List Nat×List Nat))(s:St D)(K:St D->τ):Prop:=
 ∃c a,Trace T S h b n (s.next+64*i) s.slot s.blk l c/\(∀t,Alike (CJ s.slot c t) (a.slot t))/\a.blk=FX s.blk c/\a.next=s.next+64*(i+l.length)/\e (K a)/\(d=true->ah2 b f i s.slot s.blk l c)/\
  (∃g,a.blks=g++s.blks)/\∀t,(∀o∈b.toList,o.dst≠some t)->(∀o∈l,o.dst≠some t)->a.slot t=s.slot t
theorem Ox:∀(l:List Oper) (c:List (Wr D)) (d:Nat) (a e:Nat->Sl D) (b:Nat->Option (Bk D)),(∀t,Alike (a t) (e t))->Trace T S Γ ops n d a b l c->Trace T S Γ ops n d e b l c
 | [],[],_,_,_,_,_,_=>trivial
 | [],_::_,_,_,_,_,_,h=>by simp[Trace]at h
 | _::_,[],_,_,_,_,_,h=>by simp[Trace]at h
 | o::l,W::c,d,a,e,b,f,⟨⟨j,i,g⟩,k⟩=>⟨⟨j,fun t=>(f t).symm.trans (i t),g⟩,Ox l c (d+64) _ _ _ (wP f) k⟩
theorem Nz:∀(b:List (Wr D)) (a c:Nat->Sl D),(∀t,Alike (a t) (c t))->∀t,Alike (CJ a b t) (CJ c b t)
 | [],_,_,h,t=>h t
 | W::b,_,_,h,t=>Nz b _ _ (wP h) t
theorem Ua:∀(l:List Oper) (c:List (Wr D)) (b:List (Nat×List Nat×List Nat)) (i:Nat) (a d:Nat->Sl D) (blk:Nat->Option (Bk D)),(∀t,Alike (a t) (d t))->ah2 ops b i a blk l c->ah2 ops b i d blk l c
 | [],_,_,_,_,_,_,_,_=>trivial
 | _::_,[],_,_,_,_,_,_,_=>trivial
 | o::l,W::c,b,i,a,d,blk,f,h=>by
  have e:=DD (op:=o.op) (blk:=blk) f;simp only[ah2]at h⊢;rw[e]at h;exact⟨h.1,Ua l c _ _ _ _ _ (wP f) h.2⟩
theorem yF {c:Bool}{o:Oper}{r:List Oper}{i:Nat}{a:List (Nat×List Nat×List Nat)}{s:St D}{K:St D->τ}(q:VU A den)(J:Vr n o.dst=true)(O:Wanted ops s.slot o true)
  (N:∀a s,den (mP A T S Γ ops n c r (i+1) a s K)->F_ den T S Γ ops n c r (i+1) a s K)
  (h:den (D5 A T S Γ ops c o i a s fun a s=>mP A T S Γ ops n c r (i+1) a s K)):F_ den T S Γ ops n c (o::r) i a s K:=by
 have F:∀d,o.dst=some d->d < n:=fun d e=>by rw[e]at J;simpa[Vr,CE]using J
 have j:∀f,Does T S Γ s.slot s.blk (s.next+64*i) o.op f->den (stepW A ops c o i a s f fun a s=>mP A T S Γ ops n c r (i+1) a s K)->F_ den T S Γ ops n c (o::r) i a s K:=by
  intro f C h;have H:∀g,lY f.pre->den (mP A T S Γ ops n c r (i+1) g (s.put o.dst f.val f.blks) K)->(c=true->g=(i,dB s.slot s.blk o.op,f.blks.map (·.1))::a/\∀p∈a,Xy p.2 (dB s.slot s.blk o.op) (f.blks.map (·.1))->vk ops 3 o p.1=true)->F_ den T S Γ ops n c (o::r) i a s K:=by
   intro g m l B;obtain⟨R,W,w,v,u,M,U,E,⟨Y,P⟩,V⟩:=N g _ l;rw[uz,xY,wF]at w;rw[uz]at v;rw[xY]at u;rw[wF]at M;rw[uz,xY]at E;refine⟨⟨o.dst,f.val,f.blks⟩::R,W,⟨⟨s.slot,fun _=>Alike.refl _,rfl,F, .inl ⟨O,f,C,m,rfl,rfl⟩⟩,?_⟩,v,u,by rw[M];simp;omega,U,fun x=> ?_,?_,fun t Q L=> ?_⟩
   ·rw[show s.next+64*i+64=s.next+64*(i+1) by omega];exact w
   ·obtain⟨e,X⟩:=B x;subst e;exact⟨X,E x⟩
   ·exact aln P
   ·rw[V t Q fun o' I=>L o' (by simp[I])];exact YL (L o oI)
  unfold stepW at h;split at h
  ·obtain⟨m,l⟩:=q.opt h;exact H a m l (fun e=>by cases e)
  ·split at h
   ·exact(q.stuck h).elim
   ·rename_i k;obtain⟨m,l⟩:=q.opt h;exact H _ m l (fun _=>⟨rfl,ak2 k⟩)
 unfold D5 at h;split at h
 ·rename_i b y z G;obtain⟨v,u⟩:=q.br h;cases k:b with
  | true=>exact j y (.inr ⟨b,y,z,G,by rw[k];rfl⟩) (v k)
  | false=>exact j z (.inr ⟨b,y,z,G,by rw[k];rfl⟩) (u k)
 ·split at h
  ·exact(q.stuck h).elim
  ·rename_i f C;exact j f (.inl C) h
theorem yL {b:Bool}{o:Oper}{r:List Oper}{i:Nat}{a:List (Nat×List Nat×List Nat)}{s:St D}{K:St D->τ}(I:VU A den)(y:Vr n o.dst=true)(B:Wanted ops s.slot o false)
  (z:∀a s,den (mP A T S Γ ops n b r (i+1) a s K)->F_ den T S Γ ops n b r (i+1) a s K)
  (h:den (FW A ops b o i a s fun a s=>mP A T S Γ ops n b r (i+1) a s K)):F_ den T S Γ ops n b (o::r) i a s K:=by
 have l:∀d,o.dst=some d->d < n:=fun d e=>by rw[e]at y;simpa[Vr,CE]using y
 have m:∀c,den (mP A T S Γ ops n b r (i+1) c (s.put o.dst (.one (.lf (.val undef))) []) K)->(b=true->c=(i,dB s.slot s.blk o.op,[])::a/\∀p∈a,Xy p.2 (dB s.slot s.blk o.op) []->vk ops 3 o p.1=true)->F_ den T S Γ ops n b (o::r) i a s K:=by
  intro c E j;obtain⟨H,M,f,v,u,x,J,k,⟨O,C⟩,L⟩:=z c _ E;rw[uz,xY,wF]at f;rw[uz]at v;rw[xY]at u;rw[wF]at x;rw[uz,xY]at k;refine⟨⟨o.dst, .one (.lf (.val undef)),[]⟩::H,M,⟨⟨s.slot,fun _=>Alike.refl _,rfl,l, .inr ⟨B,rfl,rfl⟩⟩,?_⟩,v,u,by rw[x];simp;omega,J,fun g=> ?_,?_,fun t G w=> ?_⟩
  ·rw[show s.next+64*i+64=s.next+64*(i+1) by omega];exact f
  ·obtain⟨e,N⟩:=j g;subst e;exact⟨N,k g⟩
  ·exact aln C
  ·rw[L t G fun o' q=>w o' (by simp[q])];exact YL (w o oI)
 unfold FW at h;split at h
 ·exact m a h (fun e=>by cases e)
 ·split at h
  ·exact(I.stuck h).elim
  ·rename_i F;exact m _ h (fun _=>⟨rfl,ak2 F⟩)
theorem XW (f:VU A den){draw:Bool}{K:St D->τ}:∀(l:List Oper) (i:Nat) (g:List (Nat×List Nat×List Nat)) (s:St D),den (mP A T S Γ ops n draw l i g s K)->F_ den T S Γ ops n draw l i g s K
 | [],i,g,s,h=>⟨[],⟨s.tmps,s.blks,s.next+64*i⟩,trivial,fun _=>Alike.refl _,rfl,rfl,h,fun _=>trivial,⟨[],rfl⟩,fun _ _ _=>rfl⟩
 | o::r,i,g,s,h=>by
  have q:=fun g s=>XW f (draw:=draw) (K:=K) r (i+1) g s
  unfold mP at h;split at h
  ·exact(f.stuck h).elim
  ·rename_i k;split at h
   ·rename_i C;exact yF f k (by simp[Wanted,C]) q h
   ·rename_i j y C;split at h
    ·exact(f.stuck h).elim
    ·rename_i d w;split at h
     ·rename_i b F;have x:∀c:Bool,b=c->∀t,Alike ((⟨(d, .one (.lf (.val (.bool c))))::s.tmps,s.blks,s.next⟩:St D).slot t) (s.slot t):=by
       rintro c rfl t;show Alike (look _ _ t) _
       rw[ug];by_cases z:t=d
       ·subst z;rw[upd_same,F];exact .inr ⟨b,rfl,rfl⟩
       ·rw[bM _ _ _ _ z];exact Alike.refl _
      have p:∀c:Bool,b=c->F_ den T S Γ ops n draw (o::r) i g (⟨(d, .one (.lf (.val (.bool c))))::s.tmps,s.blks,s.next⟩:St D) K->F_ den T S Γ ops n draw (o::r) i g s K:=by
       rintro c E ⟨H,W,Q,N,X,P,I,J,R,O⟩;refine⟨H,W,Ox _ _ _ _ _ _ (x c E) Q,fun t=>(Nz H _ _ (x c E) t).symm.trans (N t),X,P,I,fun k=>Ua _ _ _ _ _ _ _ (x c E) (J k),R,fun t G V=>(O t G V).trans ?_⟩;show look _ _ t=look _ _ t
       rw[ug];refine bM _ _ _ _ fun e=> ?_;subst e;cases B:ops[j]? with
       | none=>rw[B]at w;cases w
       | some U=>
        rw[B]at w;exact G U (by have:=Qdw B;simpa using this) w
      have m:∀c:Bool,b=c->Wanted ops (⟨(d, .one (.lf (.val (.bool c))))::s.tmps,s.blks,s.next⟩:St D).slot o (c==y):=by
       intro c E;simp only[Wanted,C];refine⟨d,w, .inl ⟨c,?_,rfl⟩⟩;show bOf (look _ _ d)=_
       rw[ug,upd_same];rfl
      cases y with
      | true=>
       obtain⟨z,u⟩:=f.br h;cases a:b with
       | true=>exact p true a (yF f k (m true a) q (z a))
       | false=>exact p false a (yL f k (m false a) q (u a))
      | false=>
       obtain⟨z,u⟩:=f.br h;cases a:b with
       | true=>exact p true a (yL f k (m true a) q (z a))
       | false=>exact p false a (yF f k (m false a) q (u a))
     ·rename_i b F;have m:Wanted ops s.slot o (b==y):=by
       simp only[Wanted,C];exact⟨d,w, .inl ⟨b,by rw[F];rfl,rfl⟩⟩
      split at h
      ·rename_i u;rw[u]at m;exact yF f k m q h
      ·rename_i u;rw[u]at m;exact yL f k m q h
     ·rename_i v _ M;split at h
      ·rename_i L;exact yL f k (by simp only[Wanted,C];exact⟨d,w, .inr ⟨v,M,L,trivial⟩⟩) q h
      ·exact(f.stuck h).elim
     ·exact(f.stuck h).elim
theorem apY:∀(l:List Oper) (c:List (Wr D)) (m:List (Nat×List Nat×List Nat)) (b:Nat) (a:Nat->Sl D) (d:Nat->Option (Bk D)),ah2 ops m b a d l c->
  ∀j e f,l[j]? =some e->c[j]? =some f->(∀p∈m,Xy p.2 (dB (pW (fun k=>decide (k < b+j)) b a c) (qj (fun k=>decide (k < b+j)) b d c) e.op) f.keys->vk ops 3 e p.1=true)/\
   ∀i s q,i < j->l[i]? =some s->c[i]? =some q->Xy (dB (pW (fun k=>decide (k < b+i)) b a c) (qj (fun k=>decide (k < b+i)) b d c) s.op,q.keys) (dB (pW (fun k=>decide (k < b+j)) b a c) (qj (fun k=>decide (k < b+j)) b d c) e.op) f.keys->vk ops 3 e (b+i)=true
 | [],_,_,_,_,_,_,j,e,f,hj,_=>by simp at hj
 | _::_,[],_,_,_,_,_,j,e,f,_,g=>by simp at g
 | o::r,W::c,m,b,a,d,h,j,e,f,hj,g=>by
  have w:pW (fun k=>decide (k < b+0)) b a (W::c)=a:=by
   funext t;exact Fv _ _ _ fun j W' _ _=>by simp
  have f0:qj (fun k=>decide (k < b+0)) b d (W::c)=d:=by
   funext t;exact ER _ _ _ fun j W' _ _=>by simp
  have y:∀j,pW (fun k=>decide (k < b+(j+1))) b a (W::c)=pW (fun k=>decide (k < b+1+j)) (b+1) (zW a W) c:=by
   intro j;have v:decide (b < b+(j+1))=true:=by simp
   simp only[pW,v,if_true];rw[show b+(j+1)=b+1+j by omega]
  have x:∀j,qj (fun k=>decide (k < b+(j+1))) b d (W::c)=qj (fun k=>decide (k < b+1+j)) (b+1) (zI d W) c:=by
   intro j;have v:decide (b < b+(j+1))=true:=by simp
   simp only[qj,v,if_true];rw[show b+(j+1)=b+1+j by omega]
  cases j with
  | zero=>
   simp only[Qby,Nj]at hj g;subst hj g;rw[w,f0];exact⟨h.1,fun i _ _ hi=>by omega⟩
  | succ j=>
   obtain⟨z,A⟩:=apY r c _ (b+1) _ _ h.2 j e f qca (by simpa using g);rw[y j,x j];refine⟨fun p B=>z p (by simp[B]),fun i s q C hi n u=> ?_⟩;cases i with
   | zero=>
    simp only[Qby,Nj]at hi n;subst hi n;rw[w,f0]at u;exact z (b,dB a d o.op,W.keys) oI u
   | succ i=>
    rw[y i,x i]at u;have:=A i s q au qct (by simpa using n) u;rwa [show b+1+i=b+(i+1) by omega]at this
theorem aih {a:Nat->Sl D}{b:Nat->Option (Bk D)}{d:List (Wr D)}(h:ah2 ops [] 0 a b ops.toList d):apH a b d ops:=by
 intro i j q n o l m c k f r;obtain⟨_,p⟩:=apY ops.toList d [] 0 a b h j q o (by simpa using c) f;by_cases g:i < ops.size
 ·have e:ops[i]? =some ops[i]:=by simp[g]
  have:=p i ops[i] n m (by simp[g]) k;simp only[FQ]at this;refine this ⟨l,?_⟩;simpa[I9,e,c]using r
 ·have s:j < ops.size:=(Qc.1 c).1;omega
end
end Go.Vc
