/- Own engine: Vd8, Vd9, Vda, Vdb. -/
import Derived.Test.YtenjjcfebflefaaGreatDoorEng5
set_option linter.unusedVariables false
set_option linter.unusedSimpArgs false
namespace Go.Vc
open Go.RowKit
def IU:Value->Bool
 | .bool _=>false
 | _=>true
structure Wr (D:Type) where
 dst:Option Nat
 val:Sl D
 blks:List (Nat×Option (Bk D))
def BQ {D:Type}(a:Nat->Sl D)(W:Wr D):Nat->Sl D:=
 match W.dst with
 | some d=>upd a d W.val
 | none=>a
def Dx {D:Type}(a:Nat->Option (Bk D))(W:Wr D):Nat->Option (Bk D):=kY a W.blks
def Wanted {D:Type}(e:Array Oper)(a:Nat->Sl D)(o:Oper)(r:Bool):Prop:=
 match o.guard with
 | none=>r=true
 | some (j,c)=>∃d,(e[j]?).bind (·.dst)=some d/\((∃b,bOf (a d)=some b/\r=(b==c))\/(∃v,a d= .one (.lf (.val v))/\IU v=true/\r=false))
def VH {D:Type}(T:TypeId->Option Ty)(S:Sh D)(g:FuncId->Option (Ct D))(c:Array Oper)(n f:Nat)(a:Nat->Sl D)(e:Nat->Option (Bk D))(o:Oper)(W:Wr D):Prop:=
 W.dst=o.dst/\(∀d,o.dst=some d->d < n)/\
 (
   (Wanted c a o true/\∃b,Does T S g a e f o.op b/\nH b.pre/\W.val=b.val/\W.blks=b.blks)\/
   (Wanted c a o false/\W.val= .one (.lf (.val undef))/\W.blks=[]))
def Holds {D:Type}(S:Sh D)(f:Bs)(d:Nat->Option Value)(N:Nat->Prop)(n:Nat)(c:Nat->Sl D)(b:Nat->Option (Bk D))(e:Nat->Prop)(a:Act)(w:World):Prop:=
 ∃g,Hp S f N b g e w/\(∀t,(c t).Rel S (aY N b g) w g (a.tmps.getD t undef))/\a.tmps.size=n/\a.defers=[]/\More d g
section
variable {D:Type}{P:Program}{S:Sh D}{T:TypeId->Option Ty}{Γ:FuncId->Option (Ct D)}{N:Nat->Prop}{w w':World}{w0:Bs}{g0:Nat->Option Value}{blk:Nat->Option (Bk D)}{al:Nat->Prop}
 {a:Act} {o:Oper} {K:Act->World->Prop} {Q:Exit->Act->World->Prop} {slot:Nat->Sl D} {fr n:Nat} {ops:Array Oper} {W:Wr D}
theorem atT {d:Option Tmp}{v:Value}{t:Nat}(c:∀x,d=some x->x < a.tmps.size):(a.put d v).tmps.getD t undef=if d=some t then v else a.tmps.getD t undef:=by
 cases d with
 | none=>simp[Act.put]
 | some d=>
  have:=c d rfl;simp only[Act.put];by_cases h:d=t
  ·subst h;simp[Array.getD,this]
  ·rw[kT qbr];simp only[Array.getD];by_cases b:t < a.tmps.size
   ·simp[b,h]
   ·simp[b]
theorem RD {g:Nat->Option Value}{M:Nat->Prop}{r:Bool}(f:∀t,(slot t).Rel S M w g (a.tmps.getD t undef))(h:Wanted ops slot o r):Region.wanted o (yielded ops a.tmps)=r:=by
 unfold Wanted at h;unfold Region.wanted;split at h
 ·grind
 ·rename_i j m n;simp only[n];obtain⟨d,i,h⟩:=h;have q:∀v,a.tmps.getD d undef=v->IU v=true->yielded ops a.tmps j=none:=by
   intro v e k;simp only[yielded,i,Option.bind_some];by_cases c:d < a.tmps.size
   ·simp only[Array.getD,c,dif_pos]at e;simp only[Array.getElem?_eq_getElem c];have:a.tmps[d]=v:=e;rw[this];cases v<;>first | rfl | simp[IU]at k
   ·simp[c]
  rcases h with⟨b,l,rfl⟩ | ⟨v,e,k,rfl⟩
  ·have:=f d;have this:=IY l this;have p:yielded ops a.tmps j=some b:=by
    simp only[yielded,i,Option.bind_some];by_cases c:d < a.tmps.size
    ·simp_all
    ·simp[Array.getD,c,undef]at this
   grind
  ·have:=f d;rw[e]at this;simp only[Sl.Rel,Sv.Rel,Lf.Rel]at this
   grind
def Alike (x y:Sl D):Prop:=x=y\/∃b,bOf x=some b/\bOf y=some b
theorem Alike.refl (x:Sl D):Alike x x:= .inl rfl
theorem Alike.symm {x y:Sl D}(h:Alike x y):Alike y x:=by
 rcases h with rfl | ⟨b,c,a⟩
 ·exact .inl rfl
 ·exact .inr ⟨b,a,c⟩
theorem Alike.trans {x y z:Sl D}(h:Alike x y)(k:Alike y z):Alike x z:=by
 rcases h with rfl | ⟨b,e,d⟩
 ·exact k
 ·rcases k with rfl | ⟨c,a,f⟩
  ·exact .inr ⟨b,e,d⟩
  ·rw[d]at a;injection a with a
   subst a;exact .inr ⟨b,e,f⟩
theorem aEc {M:Nat->Prop}{g:Nat->Option Value}{x:Sl D}{b:Bool}(h:bOf x=some b):x.Rel S M w g (.bool b):=by
 unfold bOf at h;split at h
 ·injection h with h;subst h;rfl
 ·injection h with h;subst h;rfl
 ·cases h
theorem Alike.rel {M:Nat->Prop}{g:Nat->Option Value}{x y:Sl D}{v:Value}(h:Alike x y)(a:x.Rel S M w g v):y.Rel S M w g v:=by
 rcases h with rfl | ⟨b,d,c⟩
 ·exact a
 ·rw[IY d a];exact aEc c
theorem Holds.alike {b:Nat->Sl D}(h:Holds S w0 g0 N n slot blk al a w)(c:∀t,Alike (slot t) (b t)):Holds S w0 g0 N n b blk al a w:=by
 obtain⟨g,e,d,f⟩:=h;exact⟨g,e,fun t=>(c t).rel (d t),f⟩
theorem yR {a:Nat->Sl D}(c:∀t,Alike (slot t) (a t))(t:Nat):Alike (BQ slot W t) (BQ a W t):=by
 unfold BQ;cases W.dst with
 | none=>exact c t
 | some d=>
  by_cases b:t=d
  ·subst b;show Alike (upd slot t W.val t) (upd a t W.val t)
   rw[upd_same,upd_same];exact Alike.refl _
  ·show Alike (upd slot d W.val t) (upd a d W.val t)
   rw[bU _ _ _ _ b,bU _ _ _ _ b];exact c t
theorem VL {i:Nat}(L:∀t C,T t=some C->eP P t C)(O:∀f J,Γ f=some J->fK P S f J)(X:iZ S)(U:ops[i]? =some o)(h:Holds S w0 g0 N n slot blk al a w)(H:∀n,fr<=n->n < fr+64->¬al n)
  (m:VH T S Γ ops n fr slot blk o W) (V:∀F b,Holds S w0 g0 N n (BQ slot W) (Dx blk W) (fun l=>al l\/(fr<=l/\l < fr+64)) F b->K F b):wpOp P ops Q i K a w:=by
 obtain⟨g,G,r,Y,D,M⟩:=h;obtain⟨q,aa,m⟩:=m;have y:∀v b g',More g g'->Keeps (aY N blk g) w (aY N (Dx blk W) g') b->Hp S w0 N (Dx blk W) g' (fun l=>al l\/(fr<=l/\l < fr+64)) b->W.val.Rel S (aY N (Dx blk W) g') b g' v->K (a.put o.dst v) b:=by
  intro v b g' s B p j;have I:∀x,o.dst=some x->x < a.tmps.size:=fun x E=>by grind
  refine V _ _ ⟨g',p,fun t=> ?_,?_,?_,fun l v h=>s l v (M l v h)⟩
  ·rw[atT I];by_cases c:o.dst=some t
   ·rw[nI c];simp only[BQ,q,c,upd_same];exact j
   ·rw[kT c];have:BQ slot W t=slot t:=by
     unfold BQ;rw[q];cases R:o.dst with
     | none=>rfl
     | some d=>exact bU _ _ _ _ (fun e=>c (by rw[R,e]))
    rw[this];exact(r t).keep B s
  ·cases c:o.dst<;>simp[Act.put,Y]
  ·cases c:o.dst<;>simp[Act.put,D]
 unfold wpOp;simp only[U];rcases m with⟨A,ab,E,z,j,k⟩ | ⟨A,j,k⟩
 ·rw[RD r A,nI rfl];refine .inl (ajy L O X G H r E z ?_);intro v b g' s B p Z;refine y v b g' s ?_ ?_ ?_
  ·simpa[Dx,k]using B
  ·simpa[Dx,k]using p
  ·simpa[Dx,k,j]using Z
 ·rw[RD r A];have u:Dx blk W=blk:=by simp[Dx,k,kY]
  refine y undef w g (More.refl _) (by rw[u];exact Keeps.refl _ _) (by rw[u];exact G.weaken fun _ h=> .inl h) (by rw[j];rfl)
def Trace (T:TypeId->Option Ty)(S:Sh D)(c:FuncId->Option (Ct D))(a:Array Oper)(n:Nat):Nat->(Nat->Sl D)->(Nat->Option (Bk D))->List Oper->List (Wr D)->Prop
 | _,_,_,[],[]=>True
 | b,slot,blk,o::r,W::e=>(∃d,(∀t,Alike (slot t) (d t))/\VH T S c a n b d blk o W)/\Trace T S c a n (b+64) (BQ slot W) (Dx blk W) r e
 | _,_,_,_,_=>False
def FO:(Nat->Sl D)->List (Wr D)->(Nat->Sl D)
 | slot,[]=>slot
 | slot,W::a=>FO (BQ slot W) a
def Jz:(Nat->Option (Bk D))->List (Wr D)->(Nat->Option (Bk D))
 | blk,[]=>blk
 | blk,W::a=>Jz (Dx blk W) a
theorem aiu (s:∀t y,T t=some y->eP P t y)(u:∀f G,Γ f=some G->fK P S f G)(F:iZ S):
  ∀(l:List Oper) (m:List (Wr D)) (i c:Nat) (b:Nat->Sl D) (d:Nat->Option (Bk D)) (a:Act) (w:World),(∀j,l[j]? =ops[i+j]?)->Trace T S Γ ops n c b d l m->Holds S w0 g0 N n b d (· < c) a w->
   (∀r q,Holds S w0 g0 N n (FO b m) (Jz d m) (· < c+64*l.length) r q->Q .normal r q)->wpOps P ops Q (List.range' i l.length) a w
 | [],[],i,c,b,d,a,w,_,_,h,v=>by simpa[wpOps]using v a w (by simpa[FO,Jz]using h)
 | [],_::_,_,_,_,_,_,_,_,k,_,_=>by simp[Trace]at k
 | _::_,[],_,_,_,_,_,_,_,k,_,_=>by simp[Trace]at k
 | o::l,W::m,i,c,b,d,a,w,x,k,h,v=>by
  rw[zx,List.range'_succ,wpOps_cons];have K:ops[i]? =some o:=by simpa using(x 0).symm
  obtain⟨⟨L,A,z⟩,H⟩:=k;refine VL s u F K (h.alike A) au z fun r q I=> ?_;obtain⟨g,J,p⟩:=I.alike (yR fun t=>(A t).symm);refine aiu s u F l m (i+1) (c+64) _ _ r q (fun j=>by have:=x (j+1);grind) H ⟨g,J.weaken fun l x=>by omega,p⟩ fun B C E=>v B C ?_;have e:c+64*(l.length+1)=c+64+64*l.length:=by omega
  rw[zx,e];simpa only[FO,Jz]using E
end
end Go.Vc
namespace Go.Vc
open Go.RowKit
def aaW:Op->Bool
 | .load _ _ | .store _ _ _ | .indexAddr _ _ _ | .call _ | .slice _ _ _ _ _ | .buildSlice _ _ _ | .next _ _ | .lookup _ _ _ _ | .mapUpdate _ _ _ _ | .insert _ _ _ _ | .convert _ _ _ | .makeInterface _ _ | .makeFunc _ _ _=>true
 | _=>false
def isFn:Op->Bool
 | .call c=>(match c.callee with
  | .value _=>true
  | _=>false)
 | _=>false
def dB {D:Type}(a:Nat->Sl D)(b:Nat->Option (Bk D))(o:Op):List Nat:=
 if isFn o then reach b 3 (mQ [] (o.operands.toList.flatMap fun x=>(aG a x).refs))else if aaW o then o.operands.toList.flatMap fun x=>(aG a x).refs else[]
def Wr.keys {D:Type}(W:Wr D):List Nat:=W.blks.map (·.1)
def J4 (o:Oper)(i:Nat):Bool:=o.after.toList.any fun e=>Region.binds .any e && Nat.beq e.on i
def xX (a:Array Oper):Nat->Oper->Nat->Bool
 | 0,o,i=>J4 o i
 | k+1,o,i=>J4 o i || o.after.toList.any fun e=>Region.binds .any e && (match a[e.on]? with
  | some o'=>xX a k o' i
  | none=>false)
theorem alI {a:Array Oper}{o:Oper}{i:Nat}(h:J4 o i=true):∀k,xX a k o i=true
 | 0=>h
 | k+1=>by simp[xX,h]
section
variable {D:Type}{P:Program}{S:Sh D}{T:TypeId->Option Ty}{Γ:FuncId->Option (Ct D)}{N:Nat->Prop}{w w':World}{w0:Bs}{blk blk':Nat->Option (Bk D)}{al:Nat->Prop}
 {a:Act} {o:Oper} {K:Act->World->Prop} {Q:Exit->Act->World->Prop} {slot cO:Nat->Sl D} {fr n:Nat} {ops:Array Oper} {W:Wr D}
theorem akl {x y:Sl D}(h:Alike x y):x.refs=y.refs:=by
 rcases h with rfl | ⟨b,e,d⟩
 ·rfl
 ·have c:∀z:Sl D,bOf z=some b->z.refs=[]:=by
   intro z a;unfold bOf at a;split at a<;>first | rfl | cases a
  grind
theorem F_ {op:Op}(h:∀t,Alike (slot t) (cO t)):dB slot blk op=dB cO blk op:=by
 have:(fun x=>(aG slot x).refs)=fun x=>(aG cO x).refs:=by
  funext x;cases x with
  | tmp t=>exact akl (h t)
  | _=>rfl
 unfold dB;rw[this]
theorem BZ:∀(n:Nat) (ids:List Nat) (l:Nat),l∈ids->l∈reach blk n ids
 | 0,_,_,h=>h
 | n+1,ids,l,h=>BZ n _ l ((eu _ _ _).2 (.inl h))
theorem EO:∀(n:Nat) (ids a:List Nat),(∀l∈ids,l∈a)->∀l∈reach blk n ids,l∈reach blk n a
 | 0,_,_,h=>h
 | n+1,ids,a,h=>by
  refine EO n _ _ fun l d=> ?_;rcases(eu _ _ _).1 d with q | q
  ·exact(eu _ _ _).2 (.inl (h l q))
  ·obtain⟨x,c,b⟩:=zL.1 q;exact(eu _ _ _).2 (.inr (zL.2 ⟨x,h x c,b⟩))
theorem oI {b c:Type}{l:List b}{f a:b->List c}(h:∀x∈l,f x=a x):l.flatMap f=l.flatMap a:=by
 induction l with
 | nil=>rfl
 | cons x r d=>grind
theorem QY:∀(n:Nat) (ids:List Nat),(∀l∈reach blk n ids,blk l=blk' l)->reach blk n ids=reach blk' n ids
 | 0,_,_=>rfl
 | n+1,ids,h=>by
  have e:(ids.flatMap fun l=>match blk l with
    | some a=>a.refs
    | none=>[])=(ids.flatMap fun l=>match blk' l with
    | some a=>a.refs
    | none=>[]):=oI fun l b=>by rw[h l (BZ (n+1) ids l b)]
  have c:∀l∈reach blk n (mQ ids (ids.flatMap fun l=>match blk l with
    | some a=>a.refs
    | none=>[])),blk l=blk' l:=h
  have r:=QY n _ c;refine Qcf (show reach blk (n+1) ids=_ from r) ?_;rw[e];rfl
theorem O7:∀(ids:List Nat),(∀l∈ids,blk l=blk' l)->vI blk ids=vI blk' ids
 | [],_=>rfl
 | x::r,h=>by
  unfold vI;rw[h x kM,O7 r fun l hl=>h l qcd]
theorem Lr {c:Ct D}{args:List (Sl D)}{jB:List Nat}(h:∀l∈reach blk 3 (mQ [] (args.flatMap Sl.refs)),blk l=blk' l)(e:∀l∈jB,blk l=blk' l):Ea c blk fr args jB=Ea c blk' fr args jB:=by
 have b:=QY _ _ h;have a:=O7 _ h;have d:jB.filterMap (jl blk)=jB.filterMap (jl blk'):=by
  clear h b a;induction jB with
  | nil=>rfl
  | cons x r g=>
   have f:jl blk x=jl blk' x:=by unfold jl;grind
   grind
 unfold Ea;dsimp only;rw[<-b,a,d]
theorem NJ {ty:Ty}:∀(a:List (Nat×Operand)) (cs:List (Lf D)),(∀p∈a,aG slot p.2=aG cO p.2)->J6 ty slot a cs=J6 ty cO a cs
 | [],_,_=>rfl
 | (f,x)::r,cs,h=>by
  have b:aG slot x=aG cO x:=h (f,x) kM;have d:=fun cs=>NJ (ty:=ty) r cs fun p c=>h p (by simp[c])
  simp only[J6,b,d]
theorem BA {sz:Nat}:∀(a:List (Nat×Operand)) (cs:List (Lf D)),(∀p∈a,aG slot p.2=aG cO p.2)->Az sz slot a cs=Az sz cO a cs
 | [],_,_=>rfl
 | (f,x)::r,cs,h=>by
  have b:aG slot x=aG cO x:=h (f,x) kM;have d:=fun cs=>BA (sz:=sz) r cs fun p c=>h p (by simp[c])
  simp only[Az,b,d]
theorem ahK {t:TypeId}{x:Sl D}(h:∀l∈x.refs,blk l=blk' l):BX T S blk t x=BX T S blk' t x:=by
 unfold BX;cases T t with
 | none=>rfl
 | some c=>
  cases x with
  | wU a=>rfl
  | one x=>
   cases x with
   | agg a=>rfl
   | lf x=>cases x<;>first | rfl | (have b:=h _ (FY.2 rfl);simp only[b])
theorem aes {t:TypeId}{x y:Sl D}(h:∀l∈x.refs,blk l=blk' l):GV T S blk t x y=GV T S blk' t x y:=by
 unfold GV;cases T t with
 | none=>rfl
 | some c=>
  cases x with
  | wU a=>rfl
  | one x=>
   cases x with
   | agg a=>rfl
   | lf x=>
    cases y with
    | wU d=>cases x<;>rfl
    | one y=>cases x<;>first | rfl | (have b:=h _ (FY.2 rfl);simp only[b])
theorem afB {t:TypeId}{x y:Sl D}(h:∀l∈x.refs,blk l=blk' l):JY T S blk t x y=JY T S blk' t x y:=by
 unfold JY;cases T t with
 | none=>rfl
 | some a=>
  simp only;cases a.elem with
  | none=>rfl
  | some e=>
   simp only;cases T e with
   | none=>rfl
   | some f=>
    cases x with
    | wU b=>rfl
    | one x=>
     cases x with
     | agg b=>rfl
     | lf x=>
      cases y with
      | wU c=>cases x<;>rfl
      | one y=>
       cases y with
       | agg c=>cases x<;>rfl
       | lf y=>cases x<;>cases y<;>first | rfl | (have d:=h _ (FY.2 rfl);simp only[d])
theorem amC {a:Array TypeId}{x:Sl D}(h:∀l∈x.refs,blk l=blk' l):aks S T blk a x=aks S T blk' a x:=by
 unfold aks;split
 ·rfl
 ·split
  ·rfl
  ·cases x with
   | wU b=>rfl
   | one x=>
    cases x with
    | agg b=>rfl
    | lf x=>
     cases x with
     | own l=>have c:=h l qbo;simp only[c]
     | val v=>grind
     | _=>rfl
theorem G5 {x:Sl D}(h:∀l∈x.refs,blk l=blk' l):Nz blk x=Nz blk' x:=by
 cases x with
 | wU b=>rfl
 | one x=>
  cases x with
  | agg b=>rfl
  | lf x=>
   cases x with
   | own l=>have a:=h l qbo;simp only[Nz,a]
   | _=>rfl
theorem Z5 {b:Array TypeId}{x y:Sl D}(h:∀l∈x.refs,blk l=blk' l)(f:∀l∈y.refs,blk l=blk' l):Ii T S blk fr b x y=Ii T S blk' fr b x y:=by
 unfold Ii;rw[G5 f];cases x with
 | wU d=>rfl
 | one x=>
  cases x with
  | agg d=>rfl
  | lf x=>
   cases x with
   | own l=>have e:=h l qbo;simp only[e]
   | val v=>cases v<;>first | rfl | (rename_i a n c;cases a<;>first | rfl | (cases n<;>first | rfl | (cases c<;>rfl)))
   | _=>rfl
theorem ac6 {t:TypeId}{x:Sl D}{b a:Option (Sl D)}(h:∀l∈x.refs,blk l=blk' l):PN T S blk t x b a=PN T S blk' t x b a:=by
 unfold PN;split
 ·rfl
 ·split
  ·rfl
  ·split
   ·rfl
   ·rfl
   ·rename_i q;rw[h q qbo]
   ·rfl
theorem agR {a:Array TypeId}{x y:Sl D}(h:∀l∈x.refs,blk l=blk' l):aaM T S blk a x y=aaM T S blk' a x y:=by
 unfold aaM;split
 ·split
  ·split
   ·rfl
   ·split
    ·rfl
    ·split
     ·rfl
     ·split
      ·rename_i l d2;rw[h l qbo]
      ·rfl
  ·rfl
 ·rfl
theorem LK (x:Lf D):x.norm.refs=x.refs:=by
 unfold Lf.norm;split<;>rfl
theorem Pe (x:Sv D):x.norm.refs=x.refs:=by
 cases x with
 | lf x=>exact LK x
 | agg a=>simp only[Sv.norm,Sv.refs,Qdm];exact oI fun x _=>LK x
theorem acK (x:Sl D):x.norm.refs=x.refs:=by
 cases x with
 | one x=>exact Pe x
 | wU a=>simp only[Sl.norm,Sl.refs,Qdm];exact oI fun x _=>Pe x
theorem OI (x:Lf D):∀l∈(x.view blk).refs,l∈x.refs:=by
 cases x with
 | own l=>
  simp only[Lf.view];split
  ·intro a h;simp[Lf.refs]at h
  ·intro a h;simp[Lf.refs]at h
  ·intro a h;simp[Lf.refs]at h
  grind
 | part l i j b f=>
  simp only[Lf.view];split
  ·split<;>(intro a h;simp[Lf.refs]at h)
  ·split<;>(intro a h;simp[Lf.refs]at h)
  grind
 | _=>exact fun l h=>h
theorem NE (x:Sv D):∀l∈(x.view blk).refs,l∈x.refs:=by
 cases x with
 | lf x=>exact OI x
 | agg c=>
  intro l a;simp only[Sv.view,Sv.refs,Qdm]at a⊢;obtain⟨y,b,a⟩:=zL.1 a;exact zL.2 ⟨y,b,OI y l a⟩
theorem DR (x:Sl D):∀l∈(x.view blk).refs,l∈x.refs:=by
 cases x with
 | one x=>exact NE x
 | wU c=>
  intro l a;simp only[Sl.view,Sl.refs,Qdm]at a⊢;obtain⟨y,b,a⟩:=zL.1 a;exact zL.2 ⟨y,b,NE y l a⟩
theorem Jt {x:Lf D}(h:∀l∈x.refs,blk l=blk' l):x.view blk=x.view blk':=by
 cases x with
 | own l=>simp only[Lf.view];rw[h l qbx]
 | part l i j a f=>simp only[Lf.view];rw[h l qbx]
 | _=>rfl
theorem Js {x:Sv D}(h:∀l∈x.refs,blk l=blk' l):x.view blk=x.view blk':=by
 cases x with
 | lf x=>simp only[Sv.view];rw[Jt h]
 | agg c=>simp only[Sv.view];congr 1;exact Qbb fun y a=>Jt fun l b=>h l (zL.2 ⟨y,a,b⟩)
theorem Bv {x:Sl D}(h:∀l∈x.refs,blk l=blk' l):x.view blk=x.view blk':=by
 cases x with
 | one x=>simp only[Sl.view];rw[Js h]
 | wU c=>simp only[Sl.view];congr 1;exact Qbb fun y a=>Js fun l b=>h l (zL.2 ⟨y,a,b⟩)
theorem NW (x:Lf D):∀l∈x.owns,l∈x.refs:=by cases x<;>simp[Lf.owns,Lf.refs]
theorem LP (x:Sv D):∀l∈x.owns,l∈x.refs:=by
 cases x with
 | lf x=>exact NW x
 | agg c=>
  intro l a;obtain⟨y,b,a⟩:=zL.1 a;exact zL.2 ⟨y,b,NW y l a⟩
theorem EN (x:Sl D):∀l∈x.owns,l∈x.refs:=by
 cases x with
 | one x=>exact LP x
 | wU c=>
  intro l a;obtain⟨y,b,a⟩:=zL.1 a;exact zL.2 ⟨y,b,LP y l a⟩
theorem Q4 {f:FuncId}{args:List (Sl D)}(h:∀l∈reach blk 3 (mQ [] (args.flatMap Sl.refs)),blk l=blk' l):JF Γ f blk args fr=JF Γ f blk' args fr:=by
 unfold JF;cases Γ f with
 | none=>rfl
 | some k=>
  dsimp only;have g:(args.map Sl.norm).flatMap Sl.refs=args.flatMap Sl.refs:=by rw[Qdm];exact oI fun x _=>acK x
  generalize args.map Sl.norm=b at g;rw[<-g]at h;have e:∀l∈b.flatMap Sl.refs,blk l=blk' l:=fun l a=>h l (BZ _ _ _ ((eu _ _ _).2 (.inr a)))
  have i:b.map (Sl.view blk)=b.map (Sl.view blk'):=Qbb fun x c=>Bv fun l a=>e l (zL.2 ⟨x,c,a⟩)
  rw[Lr (blk:=blk) (blk':=blk') (args:=b) (jB:=[]) h (fun l a=>by simp at a)];rw[Lr (blk:=blk) (blk':=blk') (args:=b.map (Sl.view blk)) (jB:=mQ [] (b.flatMap Sl.owns)) (fun l a=>h l (EO 3 _ _ (fun l a=> ?_) l a)) (fun l a=>e l ?_),i]
  ·rcases(eu _ _ _).1 a with q | q
   ·simp at q
   ·obtain⟨x,c,d⟩:=zL.1 q;obtain⟨y,j,rfl⟩:=JC.1 c;exact(eu _ _ _).2 (.inr (zL.2 ⟨y,j,DR y l d⟩))
  ·rcases(eu _ _ _).1 a with q | q
   ·simp at q
   ·obtain⟨x,c,d⟩:=zL.1 q;exact zL.2 ⟨x,c,EN x l d⟩
theorem abw {g:Op}(a:∀x∈g.operands.toList,aG slot x=aG cO x)(K:∀l∈dB slot blk g,blk l=blk' l):wH T S Γ slot blk fr g=wH T S Γ cO blk' fr g:=by
 have d:aaW g=true->∀x∈g.operands.toList,∀l∈(aG cO x).refs,blk l=blk' l:=by
  intro z x hx l s;refine K l ?_;have E:l∈g.operands.toList.flatMap fun x=>(aG slot x).refs:=zL.2 ⟨x,hx,by grind⟩
  unfold dB;split
  ·exact BZ _ _ _ ((eu _ _ _).2 (.inr E))
  omega
 cases g with
 | move x=>simp only[wH];rw[a x pF]
 | assign x=>simp only[wH];rw[a x pF]
 | pick c x y=>simp only[wH,ag9];rw[a c pF,a x pF,a y pF]
 | alloc t=>rfl
 | box t x=>simp only[wH];rw[a x pF]
 | build t w=>
  simp only[wH,afa];split
  ·rw[NJ w.toList _ fun p O=>a p.2 qb8]
  ·rfl
 | buildSlice t n w=>
  have:∀p∈w.toList,aG slot p.2=aG cO p.2:=fun p O=>a p.2 qb8
  simp only[wH,aAR];split
  ·rfl
  ·split
   ·rfl
   ·split
    ·rfl
    ·rw[BA w.toList _ this]
 | load t x=>
  simp only[wH];rw[a x pF,ahK (d rfl x pF)]
 | store t x y=>
  simp only[wH];rw[a x pF,a y pF,aes (d rfl x pF)]
 | nilCheck x=>simp only[wH];rw[a x pF]
 | binOp g t x y U=>simp only[wH];rw[a x pF,a y pF]
 | unOp g t x=>simp only[wH];rw[a x pF]
 | fieldAddr t x f=>simp only[wH];rw[a x pF]
 | field t x f=>simp only[wH];rw[a x pF]
 | indexAddr t x i=>
  simp only[wH];rw[a x pF,a i pF,afB (d rfl x pF)]
 | extract x i=>simp only[wH];rw[a x pF]
 | call c=>
  simp only[wH];have b:∀x∈c.args.toList,x∈(Op.call c).operands.toList:=fun x hx=>by
   simp only[Op.operands,Call.operands,Qcw,vN];exact .inr hx
  split
  ·split
   ·rename_i x hx;have hx:x∈(Op.call c).operands.toList:=b x qb7;rw[a x hx,amC (d rfl x hx)]
   ·rfl
  ·grind
  ·grind
  ·split
   ·rename_i x y hx;have j:x∈(Op.call c).operands.toList:=b x qb7;have o:y∈(Op.call c).operands.toList:=b y qb7;rw[a x j,a y o,Z5 (d rfl x j) (d rfl y o)]
   ·rfl
  ·split
   ·rename_i x y hx;have j:x∈(Op.call c).operands.toList:=b x qb7;have o:y∈(Op.call c).operands.toList:=b y qb7;rw[a x j,a y o,agR (d rfl x j)]
   ·rfl
  ·rename_i f G;have v:f∈(Op.call c).operands.toList:=by simp[Op.operands,Call.operands,G]
   have A:=a f v;have:c.args.toList.map (aG slot)=c.args.toList.map (aG cO):=Qbb fun x hx=>a x (b x hx)
   rw[A,this];split
   ·rename_i V e C;have R:∀l∈e,blk l=blk' l:=fun l s=>d rfl f v l (by rw[C];exact s)
    have H:e.all (fun l=>isCells (blk l))=e.all (fun l=>isCells (blk' l)):=by
     grind
    rw[H];rw[Q4 (blk:=blk) (blk':=blk') fun l s=>K l ?_];have I:isFn (Op.call c)=true:=by simp[isFn,G]
    unfold dB;rw[nI I];refine EO 3 _ _ (fun l s=> ?_) l s;rcases(eu _ _ _).1 s with q | q
    ·simp at q
    ·refine(eu _ _ _).2 (.inr ?_);rw[List.flatMap_append,vN]at q;rcases q with q | q
     ·grind
     ·obtain⟨y,N,B⟩:=zL.1 q;obtain⟨k,P,rfl⟩:=JC.1 N;simp[Sl.refs,Sv.refs,Lf.refs]at B;subst B;exact zL.2 ⟨f,v,by rw[A,C];exact P⟩
   ·rfl
  ·rfl
 | makeFunc M first e=>
  have L:∀(l:List Operand),(∀x∈l,aG slot x=aG cO x)->F7 slot l=F7 cO l:=by
   intro l;induction l with
   | nil=>intro _;rfl
   | cons x r W=>intro h;unfold F7;grind
  cases M with
  | func f=>simp only[wH];rw[L e.toList fun x hx=>a x (by simp only[Op.operands,Qcw,vN];exact .inr hx)]
  | _=>rfl
 | makeSlice t x y=>simp only[wH];rw[a x pF,a y pF]
 | index t x y=>simp only[wH];rw[a x pF,a y pF]
 | convert t u x=>simp only[wH];rw[a x pF]
 | slice t x D z Q=>
  cases Q with
  | some m=>rfl
  | none=>
   have F:D.map (aG slot)=D.map (aG cO):=by
    cases D with
    | none=>rfl
    | some l=>simp only[ZR];rw[a l pF]
   have J:z.map (aG slot)=z.map (aG cO):=by
    cases z with
    | none=>rfl
    | some l=>simp only[ZR];rw[a l pF]
   simp only[wH];rw[a x pF,F,J,ac6 (d rfl x pF)]
 | _=>rfl
theorem qG:∀{l:List Operand} {t:Nat},t∈rE l ↔ Operand.tmp t∈l
 | [],t=>by simp[rE]
 | x::r,t=>by
  cases x<;>simp[rE,qG (l:=r)]
theorem aeA {c:Type}{k:Nat}:∀(cs:List (Nat×c)) (f a:Nat->c),f k=a k->kY f cs k=kY a cs k
 | [],_,_,h=>h
 | (b,v)::cs,f,a,h=>by
  refine aeA cs (upd f b v) (upd a b v) ?_;by_cases e:k=b
  ·subst e;rw[upd_same,upd_same]
  ·rw[bU _ _ _ _ e,bU _ _ _ _ e,h]
theorem aj3 {a:Op}(k:∀x∈a.operands.toList,aG slot x=aG cO x)(d:∀l∈dB slot blk a,blk l=blk' l):BF T S Γ slot blk fr a=BF T S Γ cO blk' fr a:=by
 unfold BF;rw[abw k d];split
 ·rfl
 unfold xe;cases m:lh a with
 | false=>simp
 | true=>
  have u:isFn a=false:=by cases a<;>first | rfl | simp[lh]at m
  have w:aaW a=true:=by cases a<;>first | rfl | simp[lh]at m
  have hmr:∀(s:Nat->Sl D) (b:Nat->Option (Bk D)),dB s b a=a.operands.toList.flatMap fun x=>(aG s x).refs:=fun s b=>by unfold dB;grind
  have ht:∀t∈rE a.operands.toList,slot t=cO t:=fun t ht=>k (.tmp t) (qG.1 ht)
  have e:∀t∈rE a.operands.toList,∀l∈(slot t).refs,blk l=blk' l:=fun t ht l hl=>d l qb9
  have o:iG slot a=iG cO a:=by
   unfold iG;congr 1;exact oI fun t h=>by rw[ht t h]
  have j:∀l∈iG slot a,blk l=blk' l:=fun l hl=>by
   rcases(eu _ _ _).1 hl with h | h
   ·simp at h
   ·obtain⟨t,r,q⟩:=zL.1 h;exact e t r l (EN _ l q)
  have n:(iG slot a).filterMap (jl blk)=(iG slot a).filterMap (jl blk'):=uN fun l hl=>by unfold jl;rw[j l hl]
  have g:((iG slot a).all fun l=>isRow (blk l))=((iG slot a).all fun l=>isRow (blk' l)):=by
   grind
  have p:∀x∈a.operands.toList,aG (FK (rE a.operands.toList) slot blk) x=aG (FK (rE a.operands.toList) cO blk') x:=by
   intro x hx;cases x with
   | tmp t=>
    have c:=qG.2 hx;simp only[aG,FK];rw[nI (gJ.2 c),nI (gJ.2 c),<-ht t c];exact Bv fun l hl=>e t c l hl
   | _=>rfl
  simp only[Qb9];rw[<-o,<-n,<-g];rw[abw (blk':=kY blk' ((iG slot a).filterMap (jl blk))) p];intro l hl;rw[hmr]at hl;refine aeA _ _ _ ?_;obtain⟨x,hx,hlx⟩:=zL.1 hl;cases x with
  | tmp t=>
   have c:=qG.2 hx;simp only[aG,FK]at hlx;rw[nI (gJ.2 c)]at hlx;exact e t c l (DR _ l hlx)
  | const v=>exact d l qbp
  | func f=>exact d l qbp
  | global i=>exact d l qbp
theorem acy {t:TypeId}{x:Sl D}(h:∀l∈x.refs,blk l=blk' l):JP T S blk t x=JP T S blk' t x:=by
 unfold JP;split
 ·rfl
 ·split
  ·rw[h _ qbo]
  ·rfl
  ·rfl
theorem aai {t:TypeId}{x y:Sl D}(h:∀l∈x.refs,blk l=blk' l):DZ T S blk t x y=DZ T S blk' t x y:=by
 unfold DZ;split
 ·rfl
 ·split
  ·rw[h _ qbo]
  ·rfl
theorem aed {a:Array TypeId}{x:Sl D}(h:∀l∈x.refs,blk l=blk' l):Qq T S blk a x=Qq T S blk' a x:=by
 unfold Qq;split
 ·split
  ·rfl
  ·split
   ·rfl
   ·split
    ·rfl
    ·split
     ·rw[h _ qbo]
     ·rfl
 ·rfl
theorem aiX {b:Op}(a:∀x∈b.operands.toList,aG slot x=aG cO x)(m:∀l∈dB slot blk b,blk l=blk' l):oL T S slot blk fr b=oL T S cO blk' fr b:=by
 have d:aaW b=true->isFn b=false->∀x∈b.operands.toList,∀l∈(aG cO x).refs,blk l=blk' l:=by
  intro q r x j l s;refine m l ?_;unfold dB
  grind
 cases b with
 | load t x=>
  simp only[oL];rw[a x pF,acy (d rfl rfl x pF)]
 | store t x y=>
  simp only[oL];rw[a x pF,a y pF,aai (d rfl rfl x pF)]
 | indexAddr t x i=>simp only[oL];rw[a x pF,a i pF]
 | index t x i=>simp only[oL];rw[a x pF,a i pF]
 | build t k=>
  simp only[oL,UY];split
  ·rfl
  ·split
   ·rfl
   ·rw[BA k.toList _ fun p o=>a p.2 qb8]
 | call c=>
  simp only[oL];split
  ·rename_i g;have f:isFn (.call c)=false:=by simp[isFn,g]
   split
   ·rename_i x j;have e:x∈(Op.call c).operands.toList:=by
     simp only[Op.operands,Call.operands,Qcw,vN]
     grind
    rw[a x e,aed (d rfl f x e)]
   ·rfl
  ·rfl
 | makeInterface t x=>simp only[oL];rw[a x pF]
 | typeAssert x n t h=>
  cases h with
  | true=>simp only[oL];rw[a x pF]
  | false=>rfl
 | _=>rfl
theorem ajP {a:Op}(b:∀x∈a.operands.toList,aG slot x=aG cO x)(c:∀l∈dB slot blk a,blk l=blk' l):Bi T S Γ slot blk fr a=Bi T S Γ cO blk' fr a:=by
 unfold Bi;rw[aiX b c,aj3 b c]
theorem alg {a:Op}(b:∀x∈a.operands.toList,aG slot x=aG cO x)(c:∀l∈dB slot blk a,blk l=blk' l):Di T S Γ slot blk fr a=Di T S Γ cO blk' fr a:=by
 unfold Di;split
 ·rw[b _ pF]
 ·exact ajP b c
theorem aiR {t:TypeId}{x:Sl D}(h:∀l∈x.refs,blk l=blk' l):mapOf S blk t x=mapOf S blk' t x:=by
 unfold mapOf;split
 ·rw[h _ qbo]
 all_goals rfl
theorem atE {a:List (Dl D)}:(a.map Dl.lf).flatMap Lf.refs=[]:=by
 induction a with
 | nil=>rfl
 | cons p r b=>rw[Lj,Qcc,b];cases p<;>rfl
theorem ap5 {a:Bool}{b:List (Dl D)}{x:Sl D}(h:aqx a b=some x):x.refs=[]:=by
 unfold aqx at h;split at h
 ·rename_i p;injection h with h
  subst h;cases p<;>rfl
 ·injection h with h
  subst h;exact atE
 ·cases h
theorem YW {p:Op}(a:∀x∈p.operands.toList,aG slot x=aG cO x)(K:∀l∈dB slot blk p,blk l=blk' l):qj T S Γ slot blk fr p=qj T S Γ cO blk' fr p:=by
 have b:aaW p=true->∀x∈p.operands.toList,∀l∈(aG cO x).refs,blk l=blk' l:=by
  intro s x hx l C;refine K l ?_;have E:l∈p.operands.toList.flatMap fun x=>(aG slot x).refs:=zL.2 ⟨x,hx,by grind⟩
  unfold dB;split
  ·exact BZ _ _ _ ((eu _ _ _).2 (.inr E))
  omega
 cases p with
 | alloc t=>rfl
 | load t x=>
  have hx:=a x pF;have g:=b rfl x pF;simp only[qj,WI];rw[hx];split
  ·rfl
  ·split
   ·rename_i l o he;rw[g l qbg]
   ·rfl
 | store t x y=>
  have hx:=a x pF;have g:=b rfl x pF;simp only[qj,Ox];rw[hx,a y pF];split
  ·rename_i U l o u _ he _;rw[g l qbg]
  ·rfl
 | indexAddr t x i=>simp only[qj];rw[a x pF,a i pF]
 | index t x i=>simp only[qj];rw[a x pF,a i pF]
 | makeMap t r=>cases r<;>rfl
 | slice t x z s R=>
  cases R with
  | some m=>
   have A:z.map (aG slot)=z.map (aG cO):=by
    cases z with
    | none=>rfl
    | some l=>simp only[ZR];rw[a l pF]
   have B:s.map (aG slot)=s.map (aG cO):=by
    cases s with
    | none=>rfl
    | some l=>simp only[ZR];rw[a l pF]
   have hx:=a x pF;have F:=a m pF;have g:=b rfl x pF;simp only[qj,Ux];rw[hx,A,B,F];split
   ·split
    ·rfl
    ·split
     ·rfl
     ·split
      ·rfl
      ·split
       ·rfl
       ·rename_i q he;rw[g q qbg]
       ·rfl
   ·rfl
  | none=>
   have A:z.map (aG slot)=z.map (aG cO):=by
    cases z with
    | none=>rfl
    | some l=>simp only[ZR];rw[a l pF]
   have B:s.map (aG slot)=s.map (aG cO):=by
    cases s with
    | none=>rfl
    | some l=>simp only[ZR];rw[a l pF]
   have hx:=a x pF;have g:=b rfl x pF;simp only[qj,Uz];rw[hx,A,B];split
   ·rfl
   ·split
    ·split
     ·split
      ·rfl
      ·split
       ·rename_i q he;rw[g q qbg]
       ·rfl
     ·rfl
    ·rfl
 | lookup t x i L=>
  simp only[qj,Ue];rw[a x pF,a i pF,aiR (b rfl x pF)]
 | mapUpdate t x i v=>
  have hx:=a x pF;have g:=b rfl x pF;simp only[qj,IM];rw[hx,a i pF,a v pF];split
  ·rfl
  ·split
   ·rfl
   ·split
    ·split
     ·rename_i l k he _;rw[g l qbg]
     ·rfl
    ·rfl
 | insert t x i v=>
  have hx:=a x pF;have g:=b rfl x pF;simp only[qj,IM];rw[hx,a i pF,a v pF];split
  ·rfl
  ·split
   ·rfl
   ·split
    ·split
     ·rename_i l k he _;rw[g l qbg]
     ·rfl
    ·rfl
 | convert t d x=>
  have D:=G5 (blk:=blk) (blk':=blk') (b rfl x pF);have e:YZ T S blk t d (aG cO x)=YZ T S blk' t d (aG cO x):=by
   unfold YZ;split
   ·split
    ·rfl
    ·split
     ·rfl
     ·split
      ·split
       ·rfl
       ·rw[D]
      ·rfl
   ·rfl
  simp only[qj];rw[a x pF,e]
 | makeInterface t x=>simp only[qj];rw[a x pF]
 | typeAssert x X t L=>simp only[qj];rw[a x pF]
 | binOp p t x y V=>simp only[qj];rw[a x pF,a y pF]
 | makeFunc M first O=>
  cases M with
  | func f=>
   simp only[qj];split
   ·rename_i x Y W;rw[a x (by simp only[Op.operands,Qcw,vN];grind)]
   ·rfl
  | _=>rfl
 | nilCheck x=>simp only[qj];rw[a x pF]
 | call c=>
  have h:∀x∈c.args.toList,x∈(Op.call c).operands.toList:=fun x hx=>by
   simp only[Op.operands,Call.operands,Qcw,vN];exact .inr hx
  simp only[qj];split
  ·rename_i f H;have G:f∈(Op.call c).operands.toList:=by simp[Op.operands,Call.operands,H]
   have I:=a f G;have this:c.args.toList.map (aG slot)=c.args.toList.map (aG cO):=Qbb fun x hx=>a x (h x hx)
   unfold Y9;rw[I,this];split
   ·split
    ·rename_i x hx;refine Q4 fun l C=>K l ?_;have J:isFn (Op.call c)=true:=by simp[isFn,H]
     unfold dB;rw[nI J];refine EO 3 _ _ (fun l C=> ?_) l C;rcases(eu _ _ _).1 C with q | q
     ·simp at q
     ·refine(eu _ _ _).2 (.inr ?_);rw[Qcc,ap5 hx,Qbs,<-this]at q
      grind
    ·rfl
   ·rfl
  ·split
   ·rename_i x y hx;have j:x∈(Op.call c).operands.toList:=h x qb7;have w:y∈(Op.call c).operands.toList:=h y qb7;have g:=b rfl x j;rw[a x j,a y w];have P:CQ T S blk c.argTypes (aG cO x) (aG cO y)=CQ T S blk' c.argTypes (aG cO x) (aG cO y):=by
     unfold CQ;split
     ·split
      ·split
       ·rfl
       ·split
        ·rfl
        ·split
         ·rfl
         ·split
          ·rfl
          ·rfl
          ·rename_i l he;rw[g l qbg]
          ·rfl
      ·rfl
     ·rfl
    have N:Dk T S blk fr c.argTypes (aG cO x) (aG cO y)=Dk T S blk' fr c.argTypes (aG cO x) (aG cO y):=by
     unfold Dk;split
     ·split
      ·split
       ·rfl
       ·split
        ·rfl
        ·split
         ·split
          ·rfl
          ·split
           ·split
            ·rfl
            ·rename_i l he;rw[g l qbg]
            ·rfl
           ·rfl
         ·rfl
      ·rfl
     ·rfl
    have D:=G5 (blk:=blk) (blk':=blk') (b rfl y w);have Q:CZ T S blk fr c.argTypes (aG cO x) (aG cO y)=CZ T S blk' fr c.argTypes (aG cO x) (aG cO y):=by
     unfold CZ;rw[D]
    rw[P,N,Q]
   ·rfl
  ·grind
  ·split
   ·rename_i x hx;have j:x∈(Op.call c).operands.toList:=h x qb7;have g:=b rfl x j;rw[a x j];unfold Ei;split
    ·rename_i l he;rw[g l qbg]
    ·rfl
    ·rfl
   ·rfl
  ·split
   ·rename_i x y hx;have j:x∈(Op.call c).operands.toList:=h x qb7;have w:y∈(Op.call c).operands.toList:=h y qb7;have g:=b rfl x j;rw[a x j,a y w];unfold Ep;split
    ·rename_i l n he _;rw[g l qbg]
    ·rfl
    ·rfl
   ·rfl
  ·rfl
 | _=>rfl
theorem ae8 {a:Op}(r:∀x∈a.operands.toList,aG slot x=aG cO x)(d:∀l∈dB slot blk a,blk l=blk' l):nR T S Γ slot blk fr a=nR T S Γ cO blk' fr a:=by
 unfold nR;cases k:jg a with
 | false=>simp
 | true=>
  have u:isFn a=false:=by cases a<;>first | rfl | simp[jg]at k
  have w:aaW a=true:=by cases a<;>first | rfl | simp[jg]at k
  have hmr:∀(s:Nat->Sl D) (b:Nat->Option (Bk D)),dB s b a=a.operands.toList.flatMap fun x=>(aG s x).refs:=fun s b=>by unfold dB;grind
  have ht:∀t∈rE a.operands.toList,slot t=cO t:=fun t ht=>r (.tmp t) (qG.1 ht)
  have e:∀t∈rE a.operands.toList,∀l∈(slot t).refs,blk l=blk' l:=fun t ht l hl=>d l qb9
  have n:iG slot a=iG cO a:=by
   unfold iG;congr 1;exact oI fun t h=>by rw[ht t h]
  have j:∀l∈iG slot a,blk l=blk' l:=fun l hl=>by
   rcases(eu _ _ _).1 hl with h | h
   ·simp at h
   ·obtain⟨t,q,p⟩:=zL.1 h;exact e t q l (EN _ l p)
  have m:(iG slot a).filterMap (jl blk)=(iG slot a).filterMap (jl blk'):=uN fun l hl=>by unfold jl;rw[j l hl]
  have g:((iG slot a).all fun l=>isRow (blk l))=((iG slot a).all fun l=>isRow (blk' l)):=by
   grind
  have o:∀x∈a.operands.toList,aG (FK (rE a.operands.toList) slot blk) x=aG (FK (rE a.operands.toList) cO blk') x:=by
   intro x hx;cases x with
   | tmp t=>
    have c:=qG.2 hx;simp only[aG,FK];rw[nI (gJ.2 c),nI (gJ.2 c),<-ht t c];exact Bv fun l hl=>e t c l hl
   | _=>rfl
  simp only[Qb9];rw[<-n,<-m,<-g];rw[YW (blk':=kY blk' ((iG slot a).filterMap (jl blk))) o];intro l hl;rw[hmr]at hl;refine aeA _ _ _ ?_;obtain⟨x,hx,hlx⟩:=zL.1 hl;cases x with
  | tmp t=>
   have c:=qG.2 hx;simp only[aG,FK]at hlx;rw[nI (gJ.2 c)]at hlx;exact e t c l (DR _ l hlx)
  | const v=>exact d l qbp
  | func f=>exact d l qbp
  | global i=>exact d l qbp
theorem ajR {a:Op}(b:∀x∈a.operands.toList,aG slot x=aG cO x)(c:∀l∈dB slot blk a,blk l=blk' l):xy T S Γ slot blk fr a=xy T S Γ cO blk' fr a:=by
 unfold xy;rw[YW b c,ae8 b c,alg b c]
theorem agL {b:Op}(d:∀x∈b.operands.toList,aG slot x=aG cO x)(f:∀l∈dB slot blk b,blk l=blk' l):FB slot blk b=FB cO blk' b:=by
 unfold FB;split
 ·rename_i a;have c:a∈(Op.next a true).operands.toList:=by simp[Op.operands]
  have e:∀l∈(aG slot a).refs,blk l=blk' l:=fun l g=>f l (by
   unfold dB;exact zL.2 ⟨a,c,g⟩)
  rw[<-d a c];split
  ·rename_i l o he;rw[e l qbg]
  ·rfl
 ·rfl
theorem amj {a:Op}{b:Out D}(c:∀x∈a.operands.toList,aG slot x=aG cO x)(d:∀l∈dB slot blk a,blk l=blk' l)(h:Does T S Γ slot blk fr a b):Does T S Γ cO blk' fr a b:=by
 unfold Does at h⊢;rw[<-ajR c d,<-agL c d];exact h
theorem al1 (i:∀t∈o.looksAt ops,slot t=cO t)(w:∀l∈dB slot blk o.op,blk l=blk' l)(h:VH T S Γ ops n fr slot blk o W):VH T S Γ ops n fr cO blk' o W:=by
 have k:∀x∈o.op.operands.toList,aG slot x=aG cO x:=by
  intro x f;cases x with
  | tmp t=>
   refine i t ?_;simp only[Oper.looksAt,vN,Qdc]
   grind
  | _=>rfl
 have u:∀r,Wanted ops slot o r->Wanted ops cO o r:=by
  intro r b;unfold Wanted at b⊢;cases g:o.guard with
  | none=>grind
  | some p=>
   obtain⟨j,q⟩:=p;rw[g]at b;obtain⟨d,A,b⟩:=b;have y:slot d=cO d:=by
    refine i d ?_;simp only[Oper.looksAt,vN,g]
    grind
   grind
 obtain⟨s,m,v⟩:=h;refine⟨s,m,?_⟩;rcases v with⟨e,c,f,a⟩ | ⟨z,a⟩
 ·exact .inl ⟨u _ e,c,amj k w f,a⟩
 grind
def rf (L:Nat->Bool):Nat->(Nat->Sl D)->List (Wr D)->(Nat->Sl D)
 | _,slot,[]=>slot
 | i,slot,W::a=>rf L (i+1) (if L i then BQ slot W else slot) a
def rF (L:Nat->Bool):Nat->(Nat->Option (Bk D))->List (Wr D)->(Nat->Option (Bk D))
 | _,blk,[]=>blk
 | i,blk,W::a=>rF L (i+1) (if L i then Dx blk W else blk) a
theorem E_ {t:Nat}(h:W.dst≠some t):BQ slot W t=slot t:=by
 unfold BQ;cases a:W.dst with
 | some d=>exact bU _ _ _ _ (fun e=>h (by rw[a,e]))
 | none=>rfl
theorem IG {t:Nat}(h:W.dst=some t):BQ slot W t=W.val:=by simp[BQ,h,upd_same]
theorem tX {b:Type}{l:Nat}:∀{a:List (Nat×b)} {f:Nat->b},l∉a.map (·.1)->kY f a l=f l
 | [],f,_=>rfl
 | (k,v)::r,f,h=>by
  simp only[Lj,zN,not_or]at h;simp only[kY];rw[tX h.2,bU _ _ _ _ h.1]
theorem aeC {d:Type}{l:Nat}:∀{a:List (Nat×d)} {f b:Nat->d},l∈a.map (·.1)->kY f a l=kY b a l
 | [],f,b,h=>by simp at h
 | (k,v)::r,f,b,h=>by
  simp only[kY];by_cases c:l∈r.map (·.1)
  ·exact aeC c
  ·simp only[Lj,zN]at h;rcases h with rfl | h
   ·rw[tX c,tX c,upd_same,upd_same]
   grind
theorem KW {L e:Nat->Bool}{t:Nat}:∀(d:List (Wr D)) (i:Nat) (a b:Nat->Sl D),(∀j W,d[j]? =some W->W.dst=some t->L (i+j)=e (i+j))->a t=b t->rf L i a d t=rf e i b d t
 | [],i,a,b,_,h=>h
 | W::d,i,a,b,f,h=>by
  simp only[rf];refine KW d (i+1) _ _ (fun j W' hj c=>by have:=f (j+1) W' qb0 c;grind) ?_;by_cases c:W.dst=some t
  ·have:=f 0 W rfl c;simp only[Qb]at this;rw[this];split
   ·rw[IG c,IG c]
   ·exact h
  ·have k:(if L i then BQ a W else a) t=a t:=by split<;>first | exact E_ c | rfl
   have g:(if e i then BQ b W else b) t=b t:=by split<;>first | exact E_ c | rfl
   grind
theorem KT {L e:Nat->Bool}{t:Nat}:∀(d:List (Wr D)) (i:Nat) (b a:Nat->Option (Bk D)),(∀j W,d[j]? =some W->t∈W.keys->L (i+j)=e (i+j))->b t=a t->rF L i b d t=rF e i a d t
 | [],i,b,a,_,h=>h
 | W::d,i,b,a,f,h=>by
  simp only[rF];refine KT d (i+1) _ _ (fun j W' hj c=>by have:=f (j+1) W' qb0 c;grind) ?_;by_cases c:t∈W.keys
  ·have:=f 0 W rfl c;simp only[Qb]at this;rw[this];split
   ·exact aeC c
   ·exact h
  ·have k:(if L i then Dx b W else b) t=b t:=by split<;>first | exact tX c | rfl
   have g:(if e i then Dx a W else a) t=a t:=by split<;>first | exact tX c | rfl
   grind
theorem Il {L:Nat->Bool}{t:Nat}(c:List (Wr D))(i:Nat)(a:Nat->Sl D)(h:∀j W,c[j]? =some W->W.dst=some t->L (i+j)=false):rf L i a c t=a t:=by
 induction c generalizing i a with
 | nil=>rfl
 | cons W c d=>
  simp only[rf];rw[d (i+1) _ fun j W' hj b=>by have:=h (j+1) W' qb0 b;grind];by_cases b:W.dst=some t
  ·have:=h 0 W rfl b
   grind
  ·split<;>first | exact E_ b | rfl
theorem I5 {L:Nat->Bool}{t:Nat}(c:List (Wr D))(i:Nat)(a:Nat->Option (Bk D))(h:∀j W,c[j]? =some W->t∈W.keys->L (i+j)=false):rF L i a c t=a t:=by
 induction c generalizing i a with
 | nil=>rfl
 | cons W c d=>
  simp only[rF];rw[d (i+1) _ fun j W' hj b=>by have:=h (j+1) W' qb0 b;grind];by_cases b:t∈W.keys
  ·have:=h 0 W rfl b
   grind
  ·split<;>first | exact tX b | rfl
theorem abd {L:Nat->Bool}{t:Nat}:∀(c:List (Wr D)) (b i:Nat) (a:Nat->Sl D) (W:Wr D),c[i]? =some W->L (b+i)=true->W.dst=some t->(∀j d,i < j->c[j]? =some d->d.dst=some t->L (b+j)=false)->rf L b a c t=W.val
 | [],b,i,a,W,h,_,_,_=>by simp at h
 | V::c,b,0,a,W,h,k,f,g=>by
  simp only[Qch,TC]at h;subst h;simp only[rf];rw[Il c (b+1) _ fun j d hj e=>by have:=g (j+1) d au qb0 e;grind];simp only[Qb]at k;rw[k];exact IG f
 | V::c,b,i+1,a,W,h,k,f,g=>by
  simp only[rf];exact abd c (b+1) i _ W qbr qg f fun j d hj l e=>by have:=g (j+1) d au (by simpa using l) e;grind
theorem abR {L:Nat->Bool}{t:Nat}:∀(c:List (Wr D)) (b i:Nat) (d a:Nat->Option (Bk D)) (W:Wr D),c[i]? =some W->L (b+i)=true->t∈W.keys->(∀j e,i < j->c[j]? =some e->t∈e.keys->L (b+j)=false)->rF L b d c t=Dx a W t
 | [],b,i,d,a,W,h,_,_,_=>by simp at h
 | V::c,b,0,d,a,W,h,l,g,k=>by
  simp only[Qch,TC]at h;subst h;simp only[rF];rw[I5 c (b+1) _ fun j e hj f=>by have:=k (j+1) e au qb0 f;grind];simp only[Qb]at l;rw[l];exact aeC g
 | V::c,b,i+1,d,a,W,h,l,g,k=>by
  simp only[rF];exact abR c (b+1) i _ a W qbr qg g fun j e hj m f=>by have:=k (j+1) e au (by simpa using m) f;grind
theorem ail {L:Nat->Bool}:∀(c:List (Wr D)) (b:Nat) (a:Nat->Sl D),(∀j,j < c.length->L (b+j)=true)->rf L b a c=FO a c
 | [],_,_,_=>rfl
 | W::c,b,a,h=>by
  have d:=h 0 kM;simp only[Qb]at d;simp only[rf,d,if_true,FO];exact ail c (b+1) _ fun j hj=>by have:=h (j+1) qb0;grind
theorem ai6 {L:Nat->Bool}:∀(a:List (Wr D)) (b:Nat) (c:Nat->Option (Bk D)),(∀j,j < a.length->L (b+j)=true)->rF L b c a=Jz c a
 | [],_,_,_=>rfl
 | W::a,b,c,h=>by
  have d:=h 0 kM;simp only[Qb]at d;simp only[rF,d,if_true,Jz];exact ai6 a (b+1) _ fun j hj=>by have:=h (j+1) qb0;grind
theorem XZ:∀(l:List Oper) (d:List (Wr D)) (b i e:Nat) (a:Nat->Sl D) (c:Nat->Option (Bk D)) (o:Oper),Trace T S Γ ops n e a c l d->l[i]? =some o->
  ∃W,d[i]? =some W/\∃k,(∀t,Alike (rf (fun j=>decide (j < b+i)) b a d t) (k t))/\VH T S Γ ops n (e+64*i) k (rF (fun j=>decide (j < b+i)) b c d) o W
 | [],_,_,i,_,_,_,_,_,h=>by simp at h
 | _::_,[],_,_,_,_,_,_,f,_=>by simp[Trace]at f
 | o'::l,W::d,b,0,e,a,c,o,f,h=>by
  simp only[Qch,TC]at h;subst h;refine⟨W,rfl,?_⟩;have q:rf (fun j=>decide (j < b+0)) b a (W::d)=a:=by
   funext t;exact Il _ _ _ fun j W' _ _=>by simp
  have p:rF (fun j=>decide (j < b+0)) b c (W::d)=c:=by
   funext t;exact I5 _ _ _ fun j W' _ _=>by simp
  rw[q,p];exact f.1
 | o'::l,W::d,b,i+1,e,a,c,o,f,h=>by
  obtain⟨W',g,r⟩:=XZ l d (b+1) i (e+64) _ _ o f.2 qbr;refine⟨W',by simpa using g,?_⟩;have m:decide (b < b+(i+1))=true:=by simp
  simp only[rf,rF,m,if_true]
  grind
theorem Lp:∀(l:List Oper) (a:List (Wr D)) (c:Nat) (b:Nat->Sl D) (d:Nat->Option (Bk D)),Trace T S Γ ops n c b d l a->a.length=l.length
 | [],[],_,_,_,_=>rfl
 | [],_::_,_,_,_,h=>by simp[Trace]at h
 | _::_,[],_,_,_,h=>by simp[Trace]at h
 | _::l,_::a,c,_,_,h=>by simp[Lp l a _ _ _ h.2]
end
end Go.Vc
namespace Go.Vc
open Go.RowKit
def zZ (a:Array Oper):Bool:=
 (List.range a.size).all fun j=>
  match a[j]? with
  | none=>true
  | some b=>(b.after.toList.all fun e=> !Region.binds .any e || Nat.blt e.on j) && (List.range j).all fun i=>
   match a[i]? with
   | none=>true
   | some c=>Oper.apart a c b || J4 b i
section
variable {D:Type}{P:Program}{S:Sh D}{T:TypeId->Option Ty}{Γ:FuncId->Option (Ct D)}{N:Nat->Prop}{w w':World}{w0:Bs}{g0:Nat->Option Value}{blk blk':Nat->Option (Bk D)}{al:Nat->Prop}
 {a:Act} {o:Oper} {K:Act->World->Prop} {Q:Exit->Act->World->Prop} {slot cO:Nat->Sl D} {fr n:Nat} {ops:Array Oper} {W:Wr D} {Ws:List (Wr D)}
theorem adO (h:zZ ops=true){j:Nat}{c:Oper}(b:ops[j]? =some c):∀e∈c.after.toList,Region.binds .any e=true->e.on < j:=by
 intro e d f;have a:j < ops.size:=(Qdj.1 b).1;have:=Qbd.1 h j (Qcv.2 a);simp only[b,jA]at this;have:=Qbd.1 this.1 e d;simp_all
theorem G9 (h:zZ ops=true){i j:Nat}{c a:Oper}(e:i < j)(f:ops[i]? =some c)(d:ops[j]? =some a):Oper.apart ops c a=true\/J4 a i=true:=by
 have b:j < ops.size:=(Qdj.1 d).1;have:=Qbd.1 h j (Qcv.2 b)
 grind
def O9 (a:Nat->Sl D)(d:Nat->Option (Bk D))(c:List (Wr D))(b:Array Oper)(i:Nat):List Nat:=
 match b[i]? with
 | some o=>dB (rf (fun j=>decide (j < i)) 0 a c) (rF (fun j=>decide (j < i)) 0 d c) o.op
 | none=>[]
def axY (b:Nat->Sl D)(d:Nat->Option (Bk D))(c:List (Wr D))(a:Array Oper):Prop:=
 ∀i j g e f l,i < j->a[j]? =some g->c[i]? =some e->c[j]? =some f->((l∈f.keys/\(l∈O9 b d c a i\/l∈e.keys))\/(l∈O9 b d c a j/\l∈e.keys))->xX a 3 g i=true
theorem abB {o:Oper}{i:Nat}(h:J4 o i=true):∃e∈o.after.toList,Region.binds .any e=true/\e.on=i:=by
 simp only[J4,UD,jA]at h;simp_all
theorem KC {a:Array Bool}(b:∀i o,ops[i]? =some o->a.getD i false=true->∀e∈o.after.toList,Region.binds .any e=true->a.getD e.on false=true):
  ∀(k:Nat) (o:Oper) (i:Nat),(∀e∈o.after.toList,Region.binds .any e=true->a.getD e.on false=true)->xX ops k o i=true->a.getD i false=true
 | 0,o,i,c,h=>by
  obtain⟨e,d,f,rfl⟩:=abB h
  grind
 | k+1,o,i,c,h=>by
  simp only[xX,Qbi,UD,jA]at h;rcases h with h | ⟨e,d,f,g⟩
  ·obtain⟨e,d,f,rfl⟩:=abB h
   grind
  ·split at g
   ·rename_i o' j;exact KC b k o' i (b e.on o' j (c e d f)) g
   ·cases g
theorem W_ {a:Array Bool}(f:a.size=ops.size){i:Nat}(h:i∈Region.ready .any ops a):
  ∃o,ops[i]? =some o/\a.getD i false=false/\i < ops.size/\∀e∈o.after.toList,Region.binds .any e=true->a.getD e.on false=true:=by
 simp only[Region.ready,ZT,Qcv,jA]at h;obtain⟨c,k,b⟩:=h;cases d:ops[i]? with
 | none=>grind
 | some o=>
  rw[d]at b;simp only[ZR,Qdb]at b;refine⟨o,rfl,?_,c,fun e g j=> ?_⟩
  ·grind
  ·rw[Array.all_eq_true_iff_forall_mem]at b
   grind
theorem ready_nil {a:Array Bool}(k:a.size=ops.size)(g:zZ ops=true)(h:Region.ready .any ops a=[]):∀j,j < ops.size->a.getD j false=true:=by
 intro j;induction j using Nat.strongRecOn with
 | _ j m=>
  intro c;cases l:a.getD j false with
  | true=>rfl
  | false=>
   exfalso;have b:ops[j]? =some ops[j]:=by simp[c]
   have i:j∈Region.ready .any ops a:=by
    simp only[Region.ready,ZT,Qcv,jA];refine⟨c,?_,?_⟩
    ·grind
    ·rw[b];simp only[ZR,Qdb];rw[Array.all_eq_true_iff_forall_mem];intro e f;cases d:Region.binds .any e with
     | false=>rfl
     | true=>
      have:=adO g b e (by simpa using f) d
      grind
   grind
theorem aAL (hTy:∀t ty,T t=some ty->eP P t ty)(hΓ:∀f ct,Γ f=some ct->fK P S f ct)(hS:iZ S)(hd:zZ ops=true)(U:Trace T S Γ ops n fr slot blk ops.toList Ws)(I:axY slot blk Ws ops)
  (hQ:∀a w,Holds S w0 g0 N n (FO slot Ws) (Jz blk Ws) (· < fr+64*ops.size) a w->Q .normal a w):
  ∀(z:Nat) (b:Array Bool) (a:Act) (w:World),b.size=ops.size->(∀i o,ops[i]? =some o->b.getD i false=true->∀e∈o.after.toList,Region.binds .any e=true->b.getD e.on false=true)->
   b.toList.count false<=z->Holds S w0 g0 N n (rf (fun j=>b.getD j false) 0 slot Ws) (rF (fun j=>b.getD j false) 0 blk Ws) (fun l=>l < fr\/∃j,b.getD j false=true/\fr+64*j<=l/\l < fr+64*j+64) a w->
   wpAny P .any ops Q z b a w:=by
 have hlen:Ws.length=ops.size:=by simpa using Lp _ _ _ _ _ U
 have hWs:∀(j:Nat) (c:Wr D),Ws[j]? =some c->∃k:Oper,ops[j]? =some k/\c.dst=k.dst:=by
  intro j c d;have Y:j < ops.size:=by grind
  obtain⟨W',L,_,_,K⟩:=XZ ops.toList Ws 0 j fr slot blk ops[j] U (by simp[Y]);rw[d]at L;injection L with L
  subst L;exact⟨ops[j],by simp[Y],K.1⟩
 have fin:∀(b:Array Bool) (a:Act) (w:World),b.size=ops.size->Region.ready .any ops b=[]->Holds S w0 g0 N n (rf (fun j=>b.getD j false) 0 slot Ws) (rF (fun j=>b.getD j false) 0 blk Ws) (fun l=>l < fr\/∃j,b.getD j false=true/\fr+64*j<=l/\l < fr+64*j+64) a w->Q .normal a w:=by
  intro b a w u H h;have hall:=ready_nil u hd H;rw[ail Ws 0 slot fun j d=>by grind,ai6 Ws 0 blk fun j d=>by grind]at h;obtain⟨g,hp,E⟩:=h;refine hQ a w ⟨g,hp.weaken ?_,E⟩
  grind
 intro z;induction z with
 | zero=>
  intro b a w u J hcnt h;have H:Region.ready .any ops b=[]:=by
   cases hx:Region.ready .any ops b with
   | nil=>rfl
   | cons i rs=>
    exfalso;obtain⟨o,ho,hf,Y,_⟩:=W_ u (show i∈Region.ready .any ops b by rw[hx];simp);have X:i < b.size:=by omega
    have aJP:false∈b.toList:=by
     have:b[i]=false:=by simp_all
     grind
    grind
  exact⟨H,fin b a w u H h⟩
 | succ z ih=>
  intro b a w u J hcnt h;refine⟨fun H=>fin b a w u H h,fun i hi=> ?_⟩;obtain⟨y,s,hli,hilt,hed⟩:=W_ u hi;obtain⟨v,A,aDq,heI,K⟩:=XZ ops.toList Ws 0 i fr slot blk y U (by simpa using s);simp only[zM]at K heI;have V:i < b.size:=by omega
  have x:∀j c k,Ws[j]? =some c->ops[j]? =some k->(j < i->xX ops 3 y j=true)->(i < j->xX ops 3 k i=true)->b.getD j false=decide (j < i):=by
   intro j c k d m h1 h2;rcases Qd3 j i with p | rfl | p
   ·rw[KC J 3 y j hed (h1 p)];simp[p]
   ·rw[hli];simp
   ·have hn:¬j < i:=by omega
    simp only[hn,decide_false];cases hb:b.getD j false with
    | false=>rfl
    | true=>
     have:=KC J 3 k i (J j k m hb) (h2 p)
     grind
  have O:∀(j:Nat) (c:Wr D) (k:Oper) (t:Nat),Ws[j]? =some c->ops[j]? =some k->c.dst=some t->k.dst=some t:=by
   grind
  have C:∀j c,Ws[j]? =some c->∃k,ops[j]? =some k:=fun j c d=>by obtain⟨o',ho',_⟩:=hWs j c d;exact⟨o',ho'⟩
  have Pq:∀t∈y.looksAt ops,rf (fun j=>decide (j < i)) 0 slot Ws t=rf (fun j=>b.getD j false) 0 slot Ws t:=by
   intro t R;refine KW Ws 0 slot slot (fun j c d r=> ?_) rfl;obtain⟨k,m⟩:=C j c d;have G:=O j c k t d m r;simp only[zM];refine(x j c k d m (fun p=> ?_) (fun q=> ?_)).symm
   ·rcases G9 hd p m s with F | Z
    ·exact absurd R ((Oper.apart_spec F).1 t G)
    ·exact alI Z 3
   ·rcases G9 hd q s m with F | Z
    ·exact absurd R ((Oper.apart_spec F).2.2 t G)
    ·exact alI Z 3
  have hrd:O9 slot blk Ws ops i=dB (rf (fun j=>decide (j < i)) 0 slot Ws) (rF (fun j=>decide (j < i)) 0 blk Ws) y.op:=by simp[O9,s]
  have hblk:∀l∈dB (rf (fun j=>decide (j < i)) 0 slot Ws) (rF (fun j=>decide (j < i)) 0 blk Ws) y.op,rF (fun j=>decide (j < i)) 0 blk Ws l=rF (fun j=>b.getD j false) 0 blk Ws l:=by
   intro l X;refine KT Ws 0 blk blk (fun j c d M=> ?_) rfl;obtain⟨k,m⟩:=C j c d;simp only[zM];exact(x j c k d m (fun p=>I j i y c v l p s d A (.inr ⟨by grind,M⟩)) (fun q=>I i j k v c l q m A d (.inl ⟨M, .inl qg⟩))).symm
  have hst':=al1 (cO:=fun t=>if t∈y.looksAt ops then aDq t else rf (fun j=>b.getD j false) 0 slot Ws t) (fun t R=>by grind) (fun l X=>hblk l (by rw[F_ heI];exact X)) K;have heL:∀t,Alike (rf (fun j=>b.getD j false) 0 slot Ws t) (if t∈y.looksAt ops then aDq t else rf (fun j=>b.getD j false) 0 slot Ws t):=by
   intro t;by_cases R:t∈y.looksAt ops
   ·grind
   ·rw[kT R];exact Alike.refl _
  refine VL hTy hΓ hS s (h.alike heL) ?_ hst' fun a' w' h'=> ?_
  ·grind
  ·
   have h':=h'.alike (yR (W:=v) fun t=>(heL t).symm);have B:∀j,(b.setIfInBounds i true).getD j false=(if j=i then true else b.getD j false):=by
    intro j;by_cases p:j=i
    ·subst p;simp[Array.getD,V]
    ·simp only[p,if_false,Array.getD];by_cases hjl:j < b.size
     ·have q:¬i=j:=fun e=>p e.symm
      simp[hjl,q]
     ·simp[hjl]
   have e1:BQ (rf (fun j=>b.getD j false) 0 slot Ws) v=rf (fun j=>(b.setIfInBounds i true).getD j false) 0 slot Ws:=by
    funext t;by_cases r:v.dst=some t
    ·rw[IG r];refine(abd Ws 0 i slot v A (by simp[B]) r fun j c q d G=> ?_).symm;obtain⟨k,m⟩:=C j c d;simp only[zM,B,show j≠i by omega,if_false];have:=x j c k d m (fun h=>by omega) (fun _=>by
      rcases G9 hd q s m with F | Z
      ·exact absurd (O j c k t d m G) ((Oper.apart_spec F).2.1 t (O i v y t A s r))
      ·exact alI Z 3)
     grind
    ·rw[E_ r];refine KW Ws 0 slot slot (fun j c d G=> ?_) rfl
     grind
   have e2:Dx (rF (fun j=>b.getD j false) 0 blk Ws) v=rF (fun j=>(b.setIfInBounds i true).getD j false) 0 blk Ws:=by
    funext t;by_cases M:t∈v.keys
    ·refine(abR Ws 0 i blk _ v A (by simp[B]) M fun j c q d hkj=> ?_).symm;obtain⟨k,m⟩:=C j c d;simp only[zM,B,show j≠i by omega,if_false];have:=x j c k d m (fun h=>by omega) (fun _=>I i j k v c t q m A d (.inl ⟨hkj, .inr M⟩))
     grind
    ·rw[show Dx (rF (fun j=>b.getD j false) 0 blk Ws) v t=rF (fun j=>b.getD j false) 0 blk Ws t from tX M];refine KT Ws 0 blk blk (fun j c d hkj=> ?_) rfl
     grind
   rw[e1,e2]at h';refine ih _ a' w' (by simp[u]) ?_ ?_ ?_
   ·grind
   ·have hx:b.toList[i]'(by simpa using V)=false:=by simpa[Array.getD,V]using hli
    grind
   ·obtain⟨g,hp,E⟩:=h';refine⟨g,hp.weaken ?_,E⟩;rintro l ((X | ⟨j,d,H⟩) | H)
    ·exact .inl X
    ·grind
    grind
theorem af0 {id:Nat}(H:P.follows .mixedOrders=true)(q:∀t d,T t=some d->eP P t d)(u:∀f p,Γ f=some p->fK P S f p)(B:iZ S)(G:zZ ops=true)(m:Trace T S Γ ops n fr slot blk ops.toList Ws)(c:axY slot blk Ws ops)
  (h:Holds S w0 g0 N n slot blk (· < fr) a w) (A:∀a w,Holds S w0 g0 N n (FO slot Ws) (Jz blk Ws) (· < fr+64*ops.size) a w->Q .normal a w):(Code.region id ops true).wp P Q a w:=by
 refine wp_region_any H (aAL q u B G m c A ops.size _ a _ kM ?_ kM ?_)
 ·intro i o _ s;exfalso;by_cases b:i < ops.size
  ·simp[Array.getD,b]at s
  ·simp[Array.getD,b]at s
 ·have v:∀j,(Array.replicate ops.size false).getD j false=false:=by
   intro j;by_cases b:j < ops.size<;>simp[Array.getD,b]
  have z:rf (fun j=>(Array.replicate ops.size false).getD j false) 0 slot Ws=slot:=by
   funext t;exact Il _ _ _ fun j W _ _=>v _
  have x:rF (fun j=>(Array.replicate ops.size false).getD j false) 0 blk Ws=blk:=by
   funext t;exact I5 _ _ _ fun j W _ _=>v _
  rw[z,x];obtain⟨g,y,D,I,e,r⟩:=h;have F:Below w.heap.size w {w with drawn:=w.drawn+1}:=⟨rfl,rfl,rfl,rC _,fun _ _=>rfl⟩;obtain⟨k,E⟩:=y.grow F;exact⟨g,k.weaken fun l C=> .inl C,fun t=>(D t).keep E (More.refl _),I,e,r⟩
end
end Go.Vc
namespace Go.Vc
open Go.RowKit
structure Alg (τ:Type 1) where
 stuck:τ
 ob:DP->τ->τ
 br:Bool->τ->τ->τ
structure Zv {τ:Type 1}(A:Alg τ)(den:τ->Prop):Prop where
 stuck:¬den A.stuck
 ob:∀{p k},den (A.ob p k)->p.p/\den k
 br:∀{b t e},den (A.br b t e)->(b=true->den t)/\(b=false->den e)
def Alg.opt {a:Type 1}(A:Alg a)(p:Option DP)(k:a):a:=
 match p with
 | none=>k
 | some p=>A.ob p k
theorem Zv.opt {b:Type 1}{A:Alg b}{a:b->Prop}(c:Zv A a){p:Option DP}{k:b}(h:a (A.opt p k)):nH p/\a k:=by
 cases p with
 | none=>exact⟨trivial,h⟩
 | some p=>exact c.ob h
def look {a:Type}(d:a):List (Nat×a)->Nat->a
 | [],_=>d
 | (k,v)::r,n=>if Nat.beq n k then v else look d r n
theorem wo {a:Type}(d:a)(k:Nat)(v:a)(r:List (Nat×a)):look d ((k,v)::r)=upd (look d r) k v:=by
 funext n;simp only[look,upd];simp_all
theorem agp {b:Type}(d:b):∀(a l:List (Nat×b)),look d (a.reverse++l)=kY (look d l) a
 | [],l=>rfl
 | (k,v)::a,l=>by
  rw[List.reverse_cons,Qa2,List.singleton_append,agp d a,wo];rfl
structure St (D:Type) where
 tmps:List (Nat×Sl D)
 blks:List (Nat×Option (Bk D))
 next:Nat
def St.slot {D:Type}(s:St D):Nat->Sl D:=look (.one (.lf .any)) s.tmps
def St.blk {D:Type}(s:St D):Nat->Option (Bk D):=look none s.blks
def St.put {D:Type}(s:St D)(a:Option Nat)(v:Sl D)(b:List (Nat×Option (Bk D))):St D:=
 match a with
 | some d=>⟨(d,v)::s.tmps,b.reverse++s.blks,s.next⟩
 | none=>⟨s.tmps,b.reverse++s.blks,s.next⟩
theorem xw {D:Type}(s:St D)(a:Option Nat)(v:Sl D)(b:List (Nat×Option (Bk D))):(s.put a v b).slot=BQ s.slot ⟨a,v,b⟩:=by
 cases a with
 | none=>rfl
 | some d=>exact wo _ _ _ _
theorem Ad {D:Type}(s:St D)(a:Option Nat)(v:Sl D)(b:List (Nat×Option (Bk D))):(s.put a v b).blk=Dx s.blk ⟨a,v,b⟩:=by
 cases a<;>exact agp _ _ _
theorem GK {D:Type}(s:St D)(a:Option Nat)(v:Sl D)(b:List (Nat×Option (Bk D))):(s.put a v b).next=s.next:=by
 cases a<;>rfl
theorem aoF {D:Type}{s:St D}{a:Option Nat}{v:Sl D}{d b x:List (Nat×Option (Bk D))}(h:x=b++(s.put a v d).blks):∃c,x=c++s.blks:=by
 cases a<;>exact⟨b++d.reverse,by rw[h];simp[St.put]⟩
theorem aay {D:Type}{s:St D}{a:Option Nat}{v:Sl D}{b:List (Nat×Option (Bk D))}{t:Nat}(h:a≠some t):(s.put a v b).slot t=s.slot t:=by
 cases a with
 | none=>rfl
 | some d=>
  show look _ _ t=look _ _ t
  rw[show(s.put (some d) v b).tmps=(d,v)::s.tmps from rfl,wo];exact bU _ _ _ _ fun e=>h (by rw[e])
def meets (a b:List Nat):Bool:=a.any fun x=>b.any fun y=>Nat.beq x y
def agO (a:Array Oper)(b:List (Nat×List Nat×List Nat))(o:Oper)(d c:List Nat):Bool:=
 b.any fun p=>(meets c p.2.1 || meets c p.2.2 || meets d p.2.2) && !xX a 3 o p.1
def YR (n:Nat):Option Nat->Bool
 | none=>true
 | some d=>Nat.blt d n
section
variable {D:Type}{τ:Type 1}
def stepW (A:Alg τ)(d:Array Oper)(c:Bool)(o:Oper)(i:Nat)(b:List (Nat×List Nat×List Nat))(s:St D)(a:Out D)(k:List (Nat×List Nat×List Nat)->St D->τ):τ:=
 match c with
 | false=>A.opt a.pre (k b (s.put o.dst a.val a.blks))
 | true=>
  if agO d b o (dB s.slot s.blk o.op) (a.blks.map (·.1))then A.stuck
  else A.opt a.pre (k ((i,dB s.slot s.blk o.op,a.blks.map (·.1))::b) (s.put o.dst a.val a.blks))
def GY (A:Alg τ)(T:TypeId->Option Ty)(S:Sh D)(f:FuncId->Option (Ct D))(c:Array Oper)(a:Bool)(o:Oper)(i:Nat)(d:List (Nat×List Nat×List Nat))(s:St D)(k:List (Nat×List Nat×List Nat)->St D->τ):τ:=
 match FB s.slot s.blk o.op with
 | some (b,g,h)=>A.br b (stepW A c a o i d s g k) (stepW A c a o i d s h k)
 | none=>
  match xy T S f s.slot s.blk (s.next+64*i) o.op with
  | none=>A.stuck
  | some e=>stepW A c a o i d s e k
def Jy (A:Alg τ)(c:Array Oper)(b:Bool)(o:Oper)(i:Nat)(a:List (Nat×List Nat×List Nat))(s:St D)(k:List (Nat×List Nat×List Nat)->St D->τ):τ:=
 match b with
 | false=>k a (s.put o.dst (.one (.lf (.val undef))) [])
 | true=>
  if agO c a o (dB s.slot s.blk o.op) []then A.stuck
  else k ((i,dB s.slot s.blk o.op,[])::a) (s.put o.dst (.one (.lf (.val undef))) [])
def nT (A:Alg τ)(T:TypeId->Option Ty)(S:Sh D)(f:FuncId->Option (Ct D))(e:Array Oper)(n:Nat)(c:Bool):List Oper->Nat->List (Nat×List Nat×List Nat)->St D->(St D->τ)->τ
 | [],i,_,s,K=>K ⟨s.tmps,s.blks,s.next+64*i⟩
 | o::r,i,a,s,K=>
  match YR n o.dst with
  | false=>A.stuck
  | true=>
   match o.guard with
   | none=>GY A T S f e c o i a s fun a s=>nT A T S f e n c r (i+1) a s K
   | some (j,g)=>
    match(e[j]?).bind (·.dst)with
    | none=>A.stuck
    | some d=>
     match s.slot d with
     | .one (.lf (.bool b))=>
      match g with
      | true=>A.br b (GY A T S f e c o i a ⟨(d, .one (.lf (.val (.bool true))))::s.tmps,s.blks,s.next⟩ fun a s=>nT A T S f e n c r (i+1) a s K)
        (Jy A e c o i a ⟨(d, .one (.lf (.val (.bool false))))::s.tmps,s.blks,s.next⟩ fun a s=>nT A T S f e n c r (i+1) a s K)
      | false=>A.br b (Jy A e c o i a ⟨(d, .one (.lf (.val (.bool true))))::s.tmps,s.blks,s.next⟩ fun a s=>nT A T S f e n c r (i+1) a s K)
        (GY A T S f e c o i a ⟨(d, .one (.lf (.val (.bool false))))::s.tmps,s.blks,s.next⟩ fun a s=>nT A T S f e n c r (i+1) a s K)
     | .one (.lf (.val (.bool b)))=>
      match b==g with
      | true=>GY A T S f e c o i a s fun a s=>nT A T S f e n c r (i+1) a s K
      | false=>Jy A e c o i a s fun a s=>nT A T S f e n c r (i+1) a s K
     | .one (.lf (.val v))=>
      match IU v with
      | true=>Jy A e c o i a s fun a s=>nT A T S f e n c r (i+1) a s K
      | false=>A.stuck
     | _=>A.stuck
end
section
variable {D:Type}{P:Program}{S:Sh D}{T:TypeId->Option Ty}{Γ:FuncId->Option (Ct D)}{N:Nat->Prop}{w w':World}{w0:Bs}{n:Nat}{ops:Array Oper}{τ:Type 1}{A:Alg τ}{den:τ->Prop}
def abS (p:List Nat×List Nat)(a b:List Nat):Prop:=∃l,(l∈b/\(l∈p.1\/l∈p.2))\/(l∈a/\l∈p.2)
theorem Yq {a b:List Nat}{l:Nat}(d:l∈a)(c:l∈b):meets a b=true:=by
 simp only[meets,UD];exact⟨l,d,l,c,by simp⟩
theorem am7 {a:List (Nat×List Nat×List Nat)}{o:Oper}{d c:List Nat}(h:¬agO ops a o d c=true):∀p∈a,abS p.2 d c->xX ops 3 o p.1=true:=by
 intro p i ⟨l,g⟩;cases f:xX ops 3 o p.1 with
 | true=>rfl
 | false=>
  exfalso;apply h;simp only[agO,UD,jA,Qbi];refine⟨p,i,?_,by simp[f]⟩;rcases g with⟨e,j | b⟩ | ⟨k,b⟩
  ·exact .inl (.inl (Yq e j))
  ·exact .inl (.inr (Yq e b))
  ·exact .inr (Yq k b)
def akf (a:Array Oper):List (Nat×List Nat×List Nat)->Nat->(Nat->Sl D)->(Nat->Option (Bk D))->List Oper->List (Wr D)->Prop
 | _,_,_,_,[],_=>True
 | _,_,_,_,_::_,[]=>True
 | b,i,slot,blk,o::r,W::c=>(∀p∈b,abS p.2 (dB slot blk o.op) W.keys->xX a 3 o p.1=true)/\akf a ((i,dB slot blk o.op,W.keys)::b) (i+1) (BQ slot W) (Dx blk W) r c
def Jm (g:τ->Prop)(T:TypeId->Option Ty)(S:Sh D)(h:FuncId->Option (Ct D))(b:Array Oper)(n:Nat)(d:Bool)(l:List Oper)(i:Nat)(e:List (Nat×List Nat×List Nat))(s:St D)(K:St D->τ):Prop:=
 ∃c a,Trace T S h b n (s.next+64*i) s.slot s.blk l c/\(∀t,Alike (FO s.slot c t) (a.slot t))/\a.blk=Jz s.blk c/\a.next=s.next+64*(i+l.length)/\g (K a)/\(d=true->akf b e i s.slot s.blk l c)/\
  (∃f,a.blks=f++s.blks)/\∀t,(∀o∈b.toList,o.dst≠some t)->(∀o∈l,o.dst≠some t)->a.slot t=s.slot t
theorem RJ:∀(l:List Oper) (d:List (Wr D)) (c:Nat) (a e:Nat->Sl D) (b:Nat->Option (Bk D)),(∀t,Alike (a t) (e t))->Trace T S Γ ops n c a b l d->Trace T S Γ ops n c e b l d
 | [],[],_,_,_,_,_,_=>trivial
 | [],_::_,_,_,_,_,_,h=>by simp[Trace]at h
 | _::_,[],_,_,_,_,_,h=>by simp[Trace]at h
 | o::l,W::d,c,a,e,b,f,⟨⟨i,j,g⟩,k⟩=>⟨⟨i,fun t=>(f t).symm.trans (j t),g⟩,RJ l d (c+64) _ _ _ (yR f) k⟩
theorem Q9:∀(b:List (Wr D)) (a c:Nat->Sl D),(∀t,Alike (a t) (c t))->∀t,Alike (FO a b t) (FO c b t)
 | [],_,_,h,t=>h t
 | W::b,_,_,h,t=>Q9 b _ _ (yR h) t
theorem X8:∀(l:List Oper) (c:List (Wr D)) (b:List (Nat×List Nat×List Nat)) (i:Nat) (a d:Nat->Sl D) (blk:Nat->Option (Bk D)),(∀t,Alike (a t) (d t))->akf ops b i a blk l c->akf ops b i d blk l c
 | [],_,_,_,_,_,_,_,_=>trivial
 | _::_,[],_,_,_,_,_,_,_=>trivial
 | o::l,W::c,b,i,a,d,blk,f,h=>by
  have e:=F_ (op:=o.op) (blk:=blk) f;simp only[akf]at h⊢;rw[e]at h;exact⟨h.1,X8 l c _ _ _ _ _ (yR f) h.2⟩
theorem Ae {a:Bool}{o:Oper}{r:List Oper}{i:Nat}{c:List (Nat×List Nat×List Nat)}{s:St D}{K:St D->τ}(l:Zv A den)(H:YR n o.dst=true)(U:Wanted ops s.slot o true)
  (X:∀c s,den (nT A T S Γ ops n a r (i+1) c s K)->Jm den T S Γ ops n a r (i+1) c s K)
  (h:den (GY A T S Γ ops a o i c s fun c s=>nT A T S Γ ops n a r (i+1) c s K)):Jm den T S Γ ops n a (o::r) i c s K:=by
 have C:∀d,o.dst=some d->d < n:=fun d e=>by rw[e]at H;simpa[YR,Qcd]using H
 have j:∀f,Does T S Γ s.slot s.blk (s.next+64*i) o.op f->den (stepW A ops a o i c s f fun c s=>nT A T S Γ ops n a r (i+1) c s K)->Jm den T S Γ ops n a (o::r) i c s K:=by
  intro f y h;have R:∀g,nH f.pre->den (nT A T S Γ ops n a r (i+1) g (s.put o.dst f.val f.blks) K)->(a=true->g=(i,dB s.slot s.blk o.op,f.blks.map (·.1))::c/\∀p∈c,abS p.2 (dB s.slot s.blk o.op) (f.blks.map (·.1))->xX ops 3 o p.1=true)->Jm den T S Γ ops n a (o::r) i c s K:=by
   intro g q u B;obtain⟨O,L,G,v,m,V,Q,J,⟨Y,M⟩,N⟩:=X g _ u;rw[xw,Ad,GK]at G;rw[xw]at v;rw[Ad]at m;rw[GK]at V;rw[xw,Ad]at J;refine⟨⟨o.dst,f.val,f.blks⟩::O,L,⟨⟨s.slot,fun _=>Alike.refl _,rfl,C, .inl ⟨U,f,y,q,rfl,rfl⟩⟩,?_⟩,v,m,by grind,Q,fun w=> ?_,?_,fun t P F=> ?_⟩
   ·omega
   ·obtain⟨e,W⟩:=B w;subst e;exact⟨W,J w⟩
   ·exact aoF M
   ·rw[N t P fun o' E=>F o' (by simp[E])];exact aay (F o kM)
  unfold stepW at h;split at h
  ·obtain⟨q,u⟩:=l.opt h
   grind
  ·split at h
   ·exact(l.stuck h).elim
   ·rename_i k;obtain⟨q,u⟩:=l.opt h;exact R _ q u (fun _=>⟨rfl,am7 k⟩)
 unfold GY at h;split at h
 ·rename_i b z x I;obtain⟨v,m⟩:=l.br h;cases k:b with
  | true=>exact j z (.inr ⟨b,z,x,I,by rw[k];rfl⟩) (v k)
  | false=>exact j x (.inr ⟨b,z,x,I,by rw[k];rfl⟩) (m k)
 ·split at h
  ·exact(l.stuck h).elim
  ·rename_i f y;exact j f (.inl y) h
theorem Ag {a:Bool}{o:Oper}{r:List Oper}{i:Nat}{b:List (Nat×List Nat×List Nat)}{s:St D}{K:St D->τ}(G:Zv A den)(v:YR n o.dst=true)(I:Wanted ops s.slot o false)
  (M:∀b s,den (nT A T S Γ ops n a r (i+1) b s K)->Jm den T S Γ ops n a r (i+1) b s K)
  (h:den (Jy A ops a o i b s fun b s=>nT A T S Γ ops n a r (i+1) b s K)):Jm den T S Γ ops n a (o::r) i b s K:=by
 have j:∀d,o.dst=some d->d < n:=fun d e=>by rw[e]at v;simpa[YR,Qcd]using v
 have H:∀c,den (nT A T S Γ ops n a r (i+1) c (s.put o.dst (.one (.lf (.val undef))) []) K)->(a=true->c=(i,dB s.slot s.blk o.op,[])::b/\∀p∈b,abS p.2 (dB s.slot s.blk o.op) []->xX ops 3 o p.1=true)->Jm den T S Γ ops n a (o::r) i b s K:=by
  intro c N g;obtain⟨C,x,u,q,l,J,F,w,⟨O,z⟩,B⟩:=M c _ N;rw[xw,Ad,GK]at u;rw[xw]at q;rw[Ad]at l;rw[GK]at J;rw[xw,Ad]at w;refine⟨⟨o.dst, .one (.lf (.val undef)),[]⟩::C,x,⟨⟨s.slot,fun _=>Alike.refl _,rfl,j, .inr ⟨I,rfl,rfl⟩⟩,?_⟩,q,l,by grind,F,fun f=> ?_,?_,fun t E m=> ?_⟩
  ·omega
  ·obtain⟨e,L⟩:=g f;subst e;exact⟨L,w f⟩
  ·exact aoF z
  ·rw[B t E fun o' k=>m o' (by simp[k])];exact aay (m o kM)
 unfold Jy at h;split at h
 ·grind
 ·split at h
  ·exact(G.stuck h).elim
  ·rename_i y;exact H _ h (fun _=>⟨rfl,am7 y⟩)
theorem aar (f:Zv A den){draw:Bool}{K:St D->τ}:∀(l:List Oper) (i:Nat) (g:List (Nat×List Nat×List Nat)) (s:St D),den (nT A T S Γ ops n draw l i g s K)->Jm den T S Γ ops n draw l i g s K
 | [],i,g,s,h=>⟨[],⟨s.tmps,s.blks,s.next+64*i⟩,trivial,fun _=>Alike.refl _,rfl,rfl,h,fun _=>trivial,⟨[],rfl⟩,fun _ _ _=>rfl⟩
 | o::r,i,g,s,h=>by
  have q:=fun g s=>aar f (draw:=draw) (K:=K) r (i+1) g s
  unfold nT at h;split at h
  ·exact(f.stuck h).elim
  ·rename_i k;split at h
   ·rename_i z;exact Ae f k (by simp[Wanted,z]) q h
   ·rename_i j w z;split at h
    ·exact(f.stuck h).elim
    ·rename_i d E;split at h
     ·rename_i b C;have x:∀c:Bool,b=c->∀t,Alike ((⟨(d, .one (.lf (.val (.bool c))))::s.tmps,s.blks,s.next⟩:St D).slot t) (s.slot t):=by
       rintro c rfl t;show Alike (look _ _ t) _
       rw[wo];by_cases y:t=d
       ·subst y;rw[upd_same,C];exact .inr ⟨b,rfl,rfl⟩
       ·rw[bU _ _ _ _ y];exact Alike.refl _
      have p:∀c:Bool,b=c->Jm den T S Γ ops n draw (o::r) i g (⟨(d, .one (.lf (.val (.bool c))))::s.tmps,s.blks,s.next⟩:St D) K->Jm den T S Γ ops n draw (o::r) i g s K:=by
       rintro c B ⟨F,G,O,J,P,M,R,H,I,Q⟩;refine⟨F,G,RJ _ _ _ _ _ _ (x c B) O,fun t=>(Q9 F _ _ (x c B) t).symm.trans (J t),P,M,R,fun k=>X8 _ _ _ _ _ _ _ (x c B) (H k),I,fun t L N=>(Q t L N).trans ?_⟩;show look _ _ t=look _ _ t
       rw[wo];refine bU _ _ _ _ fun e=> ?_
       grind
      have m:∀c:Bool,b=c->Wanted ops (⟨(d, .one (.lf (.val (.bool c))))::s.tmps,s.blks,s.next⟩:St D).slot o (c==w):=by
       intro c B;simp only[Wanted,z];refine⟨d,E, .inl ⟨c,?_,rfl⟩⟩;show bOf (look _ _ d)=_
       rw[wo,upd_same];rfl
      cases w with
      | true=>
       obtain⟨y,u⟩:=f.br h;cases a:b with
       | true=>exact p true a (Ae f k (m true a) q (y a))
       | false=>exact p false a (Ag f k (m false a) q (u a))
      | false=>
       obtain⟨y,u⟩:=f.br h;cases a:b with
       | true=>exact p true a (Ag f k (m true a) q (y a))
       | false=>exact p false a (Ae f k (m false a) q (u a))
     ·rename_i b C;have m:Wanted ops s.slot o (b==w):=by
       simp only[Wanted,z];exact⟨d,E, .inl ⟨b,by rw[C];rfl,rfl⟩⟩
      split at h
      ·rename_i u;rw[u]at m;exact Ae f k m q h
      ·rename_i u;rw[u]at m;exact Ag f k m q h
     ·rename_i v _ U;split at h
      ·rename_i V;exact Ag f k (by simp only[Wanted,z];grind) q h
      ·exact(f.stuck h).elim
     ·exact(f.stuck h).elim
theorem ayg:∀(l:List Oper) (c:List (Wr D)) (m:List (Nat×List Nat×List Nat)) (b:Nat) (a:Nat->Sl D) (d:Nat->Option (Bk D)),akf ops m b a d l c->
  ∀j e f,l[j]? =some e->c[j]? =some f->(∀p∈m,abS p.2 (dB (rf (fun k=>decide (k < b+j)) b a c) (rF (fun k=>decide (k < b+j)) b d c) e.op) f.keys->xX ops 3 e p.1=true)/\
   ∀i s q,i < j->l[i]? =some s->c[i]? =some q->abS (dB (rf (fun k=>decide (k < b+i)) b a c) (rF (fun k=>decide (k < b+i)) b d c) s.op,q.keys) (dB (rf (fun k=>decide (k < b+j)) b a c) (rF (fun k=>decide (k < b+j)) b d c) e.op) f.keys->xX ops 3 e (b+i)=true
 | [],_,_,_,_,_,_,j,e,f,hj,_=>by simp at hj
 | _::_,[],_,_,_,_,_,j,e,f,_,g=>by simp at g
 | o::r,W::c,m,b,a,d,h,j,e,f,hj,g=>by
  have w:rf (fun k=>decide (k < b+0)) b a (W::c)=a:=by
   funext t;exact Il _ _ _ fun j W' _ _=>by simp
  have f0:rF (fun k=>decide (k < b+0)) b d (W::c)=d:=by
   funext t;exact I5 _ _ _ fun j W' _ _=>by simp
  have v:∀j,rf (fun k=>decide (k < b+(j+1))) b a (W::c)=rf (fun k=>decide (k < b+1+j)) (b+1) (BQ a W) c:=by
   intro j;have n:decide (b < b+(j+1))=true:=by simp
   simp only[rf,n,if_true]
   grind
  have u:∀j,rF (fun k=>decide (k < b+(j+1))) b d (W::c)=rF (fun k=>decide (k < b+1+j)) (b+1) (Dx d W) c:=by
   intro j;have n:decide (b < b+(j+1))=true:=by simp
   simp only[rF,n,if_true]
   grind
  cases j with
  | zero=>
   simp only[Qch,TC]at hj g;subst hj g;rw[w,f0];exact⟨h.1,fun i _ _ A=>by omega⟩
  | succ j=>
   obtain⟨y,E⟩:=ayg r c _ (b+1) _ _ h.2 j e f qb0 (by simpa using g);rw[v j,u j];refine⟨fun p x=>y p (by simp[x]),fun i s q C A B z=> ?_⟩;cases i with
   | zero=>
    simp_all
   | succ i=>
    rw[v i,u i]at z
    grind
theorem ak2 {a:Nat->Sl D}{b:Nat->Option (Bk D)}{d:List (Wr D)}(h:akf ops [] 0 a b ops.toList d):axY a b d ops:=by
 intro i j r o n l f c k e q;obtain⟨_,p⟩:=ayg ops.toList d [] 0 a b h j r n (by simpa using c) e;by_cases g:i < ops.size
 ·have m:ops[i]? =some ops[i]:=by simp[g]
  have:=p i ops[i] o f (by simp[g]) k;simp only[zM]at this;refine this ⟨l,?_⟩;simpa[O9,m,c]using q
 grind
end
end Go.Vc
