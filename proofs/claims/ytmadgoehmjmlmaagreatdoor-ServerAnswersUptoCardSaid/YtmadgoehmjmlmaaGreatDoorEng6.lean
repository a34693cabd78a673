/- Own engine: Vd8, Vd9, Vda, Vdb. -/
import Derived.Test.YtmadgoehmjmlmaaGreatDoorEng5
set_option linter.unusedVariables false
set_option linter.unusedSimpArgs false
namespace Go.Vc
open Go.RowKit
def Rt:Value->Bool
 | .bool _=>false
 | _=>true
structure Wr (D:Type) where
 dst:Option Nat
 val:Sl D
 blks:List (Nat×Option (Bk D))
def Ar {D:Type}(slot:Nat->Sl D)(W:Wr D):Nat->Sl D:=
 match W.dst with
 | some d=>upd slot d W.val
 | none=>slot
def AV {D:Type}(blk:Nat->Option (Bk D))(W:Wr D):Nat->Option (Bk D):=lg blk W.blks
def Wanted {D:Type}(ops:Array Oper)(slot:Nat->Sl D)(o:Oper)(r:Bool):Prop:=
 match o.guard with
 | none=>r=true
 | some (j,want)=>∃d,(ops[j]?).bind (·.dst)=some d/\((∃b,bOf (slot d)=some b/\r=(b==want))\/(∃v,slot d= .one (.lf (.val v))/\Rt v=true/\r=false))
def V6 {D:Type}(T:TypeId->Option Ty)(S:Sh D)(Γ:FuncId->Option (Ct D))(ops:Array Oper)(n fr:Nat)(slot:Nat->Sl D)(blk:Nat->Option (Bk D))(o:Oper)(W:Wr D):Prop:=
 W.dst=o.dst/\(∀d,o.dst=some d->d < n)/\
 (
   (Wanted ops slot o true/\∃out,Does T S Γ slot blk fr o.op out/\mF out.pre/\W.val=out.val/\W.blks=out.blks)\/
   (Wanted ops slot o false/\W.val= .one (.lf (.val undef))/\W.blks=[]))
def Holds {D:Type}(S:Sh D)(w0:Bs)(g0:Nat->Option Value)(N:Nat->Prop)(n:Nat)(slot:Nat->Sl D)(blk:Nat->Option (Bk D))(al:Nat->Prop)(a:Act)(w:World):Prop:=
 ∃g,Hp S w0 N blk g al w/\(∀t,(slot t).Rel S (aT N blk g) w g (a.tmps.getD t undef))/\a.tmps.size=n/\a.defers=[]/\More g0 g
section
variable {D:Type}{P:Program}{S:Sh D}{T:TypeId->Option Ty}{Γ:FuncId->Option (Ct D)}{N:Nat->Prop}{w w':World}{w0:Bs}{g0:Nat->Option Value}{blk:Nat->Option (Bk D)}{al:Nat->Prop}
 {a:Act} {o:Oper} {K:Act->World->Prop} {Q:Exit->Act->World->Prop} {slot:Nat->Sl D} {fr n:Nat} {ops:Array Oper} {W:Wr D}
theorem aqT {d:Option Tmp}{v:Value}{t:Nat}(hd:∀x,d=some x->x < a.tmps.size):(a.put d v).tmps.getD t undef=if d=some t then v else a.tmps.getD t undef:=by
 cases d with
 | none=>simp[Act.put]
 | some d=>
  have:=hd d rfl;simp only[Act.put];by_cases h:d=t
  ·subst h;simp[Array.getD,this]
  ·rw[lL qbq];simp only[Array.getD];by_cases ht:t < a.tmps.size
   ·simp[ht,h]
   ·simp[ht]
theorem PR {g:Nat->Option Value}{M:Nat->Prop}{r:Bool}(hs:∀t,(slot t).Rel S M w g (a.tmps.getD t undef))(h:Wanted ops slot o r):Region.wanted o (yielded ops a.tmps)=r:=by
 unfold Wanted at h;unfold Region.wanted;split at h
 ·rename_i hg;simp only[hg];exact h.symm
 ·rename_i j want hg;simp only[hg];obtain⟨d,hd,h⟩:=h;have hy:∀v,a.tmps.getD d undef=v->Rt v=true->yielded ops a.tmps j=none:=by
   intro v hv hn;simp only[yielded,hd,Option.bind_some];by_cases hlt:d < a.tmps.size
   ·simp only[Array.getD,hlt,dif_pos]at hv;simp only[Qdr hlt];have:a.tmps[d]=v:=hv;rw[this];cases v<;>first | rfl | simp[Rt]at hn
   ·simp[hlt]
  rcases h with⟨b,hb,rfl⟩ | ⟨v,hv,hn,rfl⟩
  ·have:=hs d;have this:=Gw hb this;have hy2:yielded ops a.tmps j=some b:=by
    simp only[yielded,hd,Option.bind_some];by_cases hlt:d < a.tmps.size
    ·simp only[Array.getD,hlt,dif_pos]at this;simp only[Qdr hlt];have h2:a.tmps[d]= .bool b:=this;rw[h2]
    ·simp[Array.getD,hlt,undef]at this
   rw[hy2];cases b<;>cases want<;>rfl
  ·have:=hs d;rw[hv]at this;simp only[Sl.Rel,Sv.Rel,Lf.Rel]at this;rw[hy v this hn];rfl
def Alike (x y:Sl D):Prop:=x=y\/∃b,bOf x=some b/\bOf y=some b
theorem Alike.refl (x:Sl D):Alike x x:= .inl rfl
theorem Alike.symm {x y:Sl D}(h:Alike x y):Alike y x:=by
 rcases h with rfl | ⟨b,h1,h2⟩
 ·exact .inl rfl
 ·exact .inr ⟨b,h2,h1⟩
theorem Alike.trans {x y z:Sl D}(h:Alike x y)(k:Alike y z):Alike x z:=by
 rcases h with rfl | ⟨b,h1,h2⟩
 ·exact k
 ·rcases k with rfl | ⟨c,h3,h4⟩
  ·exact .inr ⟨b,h1,h2⟩
  ·rw[h2]at h3;injection h3 with h3
   subst h3;exact .inr ⟨b,h1,h4⟩
theorem aFd {M:Nat->Prop}{g:Nat->Option Value}{x:Sl D}{b:Bool}(h:bOf x=some b):x.Rel S M w g (.bool b):=by
 unfold bOf at h;split at h
 ·injection h with h;subst h;rfl
 ·injection h with h;subst h;rfl
 ·cases h
theorem Alike.rel {M:Nat->Prop}{g:Nat->Option Value}{x y:Sl D}{v:Value}(h:Alike x y)(hr:x.Rel S M w g v):y.Rel S M w g v:=by
 rcases h with rfl | ⟨b,h1,h2⟩
 ·exact hr
 ·rw[Gw h1 hr];exact aFd h2
theorem Holds.alike {bZ:Nat->Sl D}(h:Holds S w0 g0 N n slot blk al a w)(he:∀t,Alike (slot t) (bZ t)):Holds S w0 g0 N n bZ blk al a w:=by
 obtain⟨g,hp,hs,hr⟩:=h;exact⟨g,hp,fun t=>(he t).rel (hs t),hr⟩
theorem xU {bZ:Nat->Sl D}(he:∀t,Alike (slot t) (bZ t))(t:Nat):Alike (Ar slot W t) (Ar bZ W t):=by
 unfold Ar;cases W.dst with
 | none=>exact he t
 | some d=>
  by_cases ht:t=d
  ·subst ht;show Alike (upd slot t W.val t) (upd bZ t W.val t)
   rw[upd_same,upd_same];exact Alike.refl _
  ·show Alike (upd slot d W.val t) (upd bZ d W.val t)
   rw[bP _ _ _ _ ht,bP _ _ _ _ ht];exact he t
theorem TV {i:Nat}(hTy:∀t ty,T t=some ty->fP P t ty)(hΓ:∀f ct,Γ f=some ct->fV P S f ct)(hS:jf S)(ho:ops[i]? =some o)(h:Holds S w0 g0 N n slot blk al a w)(hfr:∀n,fr<=n->n < fr+64->¬al n)
  (hst:V6 T S Γ ops n fr slot blk o W) (hK:∀a' w',Holds S w0 g0 N n (Ar slot W) (AV blk W) (fun l=>al l\/(fr<=l/\l < fr+64)) a' w'->K a' w'):wpOp P ops Q i K a w:=by
 obtain⟨g,hp,hs,hn,hdf,hm0⟩:=h;obtain⟨hdst,hlt,hst⟩:=hst;have fin:∀v w' g',More g g'->Keeps (aT N blk g) w (aT N (AV blk W) g') w'->Hp S w0 N (AV blk W) g' (fun l=>al l\/(fr<=l/\l < fr+64)) w'->W.val.Rel S (aT N (AV blk W) g') w' g' v->K (a.put o.dst v) w':=by
  intro v w' g' hm hk hp' hv;have hsz:∀x,o.dst=some x->x < a.tmps.size:=fun x hx=>by rw[hn];exact hlt x hx
  refine hK _ _ ⟨g',hp',fun t=> ?_,?_,?_,fun l v h=>hm l v (hm0 l v h)⟩
  ·rw[aqT hsz];by_cases hd:o.dst=some t
   ·rw[mi hd];simp only[Ar,hdst,hd,upd_same];exact hv
   ·rw[lL hd];have:Ar slot W t=slot t:=by
     unfold Ar;rw[hdst];cases he:o.dst with
     | none=>rfl
     | some d=>exact bP _ _ _ _ (fun e=>hd (by rw[he,e]))
    rw[this];exact(hs t).keep hk hm
  ·cases hd:o.dst<;>simp[Act.put,hn]
  ·cases hd:o.dst<;>simp[Act.put,hdf]
 unfold wpOp;simp only[ho];rcases hst with⟨hw,out,hx,hpre,hv,hb⟩ | ⟨hw,hv,hb⟩
 ·rw[PR hs hw,mi rfl];refine .inl (ahu hTy hΓ hS hp hfr hs hx hpre ?_);intro v w' g' hm hk hp' hr;refine fin v w' g' hm ?_ ?_ ?_
  ·simpa[AV,hb]using hk
  ·simpa[AV,hb]using hp'
  ·simpa[AV,hb,hv]using hr
 ·rw[PR hs hw];have hb':AV blk W=blk:=by simp[AV,hb,lg]
  refine fin undef w g (More.refl _) (by rw[hb'];exact Keeps.refl _ _) (by rw[hb'];exact hp.weaken fun _ h=> .inl h) (by rw[hv];rfl)
def Trace (T:TypeId->Option Ty)(S:Sh D)(Γ:FuncId->Option (Ct D))(ops:Array Oper)(n:Nat):Nat->(Nat->Sl D)->(Nat->Option (Bk D))->List Oper->List (Wr D)->Prop
 | _,_,_,[],[]=>True
 | fr,slot,blk,o::r,W::Ws=>(∃bZ,(∀t,Alike (slot t) (bZ t))/\V6 T S Γ ops n fr bZ blk o W)/\Trace T S Γ ops n (fr+64) (Ar slot W) (AV blk W) r Ws
 | _,_,_,_,_=>False
def Du:(Nat->Sl D)->List (Wr D)->(Nat->Sl D)
 | slot,[]=>slot
 | slot,W::Ws=>Du (Ar slot W) Ws
def Hz:(Nat->Option (Bk D))->List (Wr D)->(Nat->Option (Bk D))
 | blk,[]=>blk
 | blk,W::Ws=>Hz (AV blk W) Ws
theorem aeF (hTy:∀t ty,T t=some ty->fP P t ty)(hΓ:∀f ct,Γ f=some ct->fV P S f ct)(hS:jf S):
  ∀(l:List Oper) (Ws:List (Wr D)) (i fr:Nat) (slot:Nat->Sl D) (blk:Nat->Option (Bk D)) (a:Act) (w:World),(∀j,l[j]? =ops[i+j]?)->Trace T S Γ ops n fr slot blk l Ws->Holds S w0 g0 N n slot blk (· < fr) a w->
   (∀a' w',Holds S w0 g0 N n (Du slot Ws) (Hz blk Ws) (· < fr+64*l.length) a' w'->Q .normal a' w')->wpOps P ops Q (List.range' i l.length) a w
 | [],[],i,fr,slot,blk,a,w,_,_,h,hQ=>by simpa[wpOps]using hQ a w (by simpa[Du,Hz]using h)
 | [],_::_,_,_,_,_,_,_,_,ht,_,_=>by simp[Trace]at ht
 | _::_,[],_,_,_,_,_,_,_,ht,_,_=>by simp[Trace]at ht
 | o::l,W::Ws,i,fr,slot,blk,a,w,hl,ht,h,hQ=>by
  rw[yF,List.range'_succ,wpOps_cons];have h0:ops[i]? =some o:=by simpa using(hl 0).symm
  obtain⟨⟨bZ,he,hst⟩,ht2⟩:=ht;refine TV hTy hΓ hS h0 (h.alike he) au hst fun a' w' h'=> ?_;obtain⟨g,hp,hrest⟩:=h'.alike (xU fun t=>(he t).symm);refine aeF hTy hΓ hS l Ws (i+1) (fr+64) _ _ a' w' (fun j=>by have:=hl (j+1);simpa[Qd0,Qep 1 j]using this) ht2 ⟨g,hp.weaken fun l hl=>by omega,hrest⟩ fun a'' w'' h''=>hQ a'' w'' ?_;have e:fr+64*(l.length+1)=fr+64+64*l.length:=by omega
  rw[yF,e];simpa only[Du,Hz]using h''
end
end Go.Vc
namespace Go.Vc
open Go.RowKit
def YT:Op->Bool
 | .load _ _ | .store _ _ _ | .indexAddr _ _ _ | .call _ | .slice _ _ _ _ _ | .buildSlice _ _ _ | .next _ _ | .lookup _ _ _ _ | .mapUpdate _ _ _ _ | .insert _ _ _ _ | .convert _ _ _ | .makeInterface _ _ | .makeFunc _ _ _=>true
 | _=>false
def isFn:Op->Bool
 | .call c=>(match c.callee with
  | .value _=>true
  | _=>false)
 | _=>false
def dL {D:Type}(slot:Nat->Sl D)(blk:Nat->Option (Bk D))(o:Op):List Nat:=
 if isFn o then reach blk 3 (mr [] (o.operands.toList.flatMap fun x=>(aG slot x).refs))else if YT o then o.operands.toList.flatMap fun x=>(aG slot x).refs else[]
def Wr.keys {D:Type}(W:Wr D):List Nat:=W.blks.map (·.1)
def Jk (o:Oper)(i:Nat):Bool:=o.after.toList.any fun e=>Region.binds .any e && Nat.beq e.on i
def wR (ops:Array Oper):Nat->Oper->Nat->Bool
 | 0,o,i=>Jk o i
 | k+1,o,i=>Jk o i || o.after.toList.any fun e=>Region.binds .any e && (match ops[e.on]? with
  | some o'=>wR ops k o' i
  | none=>false)
theorem aiU {ops:Array Oper}{o:Oper}{i:Nat}(h:Jk o i=true):∀k,wR ops k o i=true
 | 0=>h
 | k+1=>by simp[wR,h]
section
variable {D:Type}{P:Program}{S:Sh D}{T:TypeId->Option Ty}{Γ:FuncId->Option (Ct D)}{N:Nat->Prop}{w w':World}{w0:Bs}{blk blk':Nat->Option (Bk D)}{al:Nat->Prop}
 {a:Act} {o:Oper} {K:Act->World->Prop} {Q:Exit->Act->World->Prop} {slot bZ:Nat->Sl D} {fr n:Nat} {ops:Array Oper} {W:Wr D}
theorem aiM {x y:Sl D}(h:Alike x y):x.refs=y.refs:=by
 rcases h with rfl | ⟨b,h1,h2⟩
 ·rfl
 ·have key:∀z:Sl D,bOf z=some b->z.refs=[]:=by
   intro z hz;unfold bOf at hz;split at hz<;>first | rfl | cases hz
  rw[key x h1,key y h2]
theorem FD {op:Op}(h:∀t,Alike (slot t) (bZ t)):dL slot blk op=dL bZ blk op:=by
 have:(fun x=>(aG slot x).refs)=fun x=>(aG bZ x).refs:=by
  funext x;cases x with
  | tmp t=>exact aiM (h t)
  | _=>rfl
 unfold dL;rw[this]
theorem AU:∀(n:Nat) (ids:List Nat) (l:Nat),l∈ids->l∈reach blk n ids
 | 0,_,_,h=>h
 | n+1,ids,l,h=>AU n _ l ((eH _ _ _).2 (.inl h))
theorem Ce:∀(n:Nat) (ids aja:List Nat),(∀l∈ids,l∈aja)->∀l∈reach blk n ids,l∈reach blk n aja
 | 0,_,_,h=>h
 | n+1,ids,aja,h=>by
  refine Ce n _ _ fun l hl=> ?_;rcases(eH _ _ _).1 hl with q | q
  ·exact(eH _ _ _).2 (.inl (h l q))
  ·obtain⟨x,hx,hlx⟩:=wW.1 q;exact(eH _ _ _).2 (.inr (wW.2 ⟨x,h x hx,hlx⟩))
theorem nS {α β:Type}{l:List α}{f f':α->List β}(h:∀x∈l,f x=f' x):l.flatMap f=l.flatMap f':=by
 induction l with
 | nil=>rfl
 | cons x r ih=>rw[Qbu,Qbu,h x qa2,ih fun y hy=>h y qcu]
theorem O8:∀(n:Nat) (ids:List Nat),(∀l∈reach blk n ids,blk l=blk' l)->reach blk n ids=reach blk' n ids
 | 0,_,_=>rfl
 | n+1,ids,h=>by
  have e:(ids.flatMap fun l=>match blk l with
    | some bk=>bk.refs
    | none=>[])=(ids.flatMap fun l=>match blk' l with
    | some bk=>bk.refs
    | none=>[]):=nS fun l hl=>by rw[h l (AU (n+1) ids l hl)]
  have h':∀l∈reach blk n (mr ids (ids.flatMap fun l=>match blk l with
    | some bk=>bk.refs
    | none=>[])),blk l=blk' l:=h
  have r:=O8 n _ h';refine Eq.trans (show reach blk (n+1) ids=_ from r) ?_;rw[e];rfl
theorem KL:∀(ids:List Nat),(∀l∈ids,blk l=blk' l)->uM blk ids=uM blk' ids
 | [],_=>rfl
 | x::r,h=>by
  unfold uM;rw[h x qa2,KL r fun l hl=>h l qci]
theorem MM {ct:Ct D}{args:List (Sl D)}{jA:List Nat}(h:∀l∈reach blk 3 (mr [] (args.flatMap Sl.refs)),blk l=blk' l)(hv:∀l∈jA,blk l=blk' l):BC ct blk fr args jA=BC ct blk' fr args jA:=by
 have e1:=O8 _ _ h;have e2:=KL _ h;have e3:jA.filterMap (jm blk)=jA.filterMap (jm blk'):=by
  clear h e1 e2;induction jA with
  | nil=>rfl
  | cons x r ih=>
   have hx:jm blk x=jm blk' x:=by unfold jm;rw[hv x qa2]
   rw[Qdv,Qdv,hx,ih fun l hl=>hv l qci]
 unfold BC;dsimp only;rw[<-e1,e2,e3]
theorem MK {ty:Ty}:∀(ps:List (Nat×Operand)) (cs:List (Lf D)),(∀p∈ps,aG slot p.2=aG bZ p.2)->IA ty slot ps cs=IA ty bZ ps cs
 | [],_,_=>rfl
 | (f,x)::r,cs,h=>by
  have hx:aG slot x=aG bZ x:=h (f,x) qa2;have ih:=fun cs=>MK (ty:=ty) r cs fun p hp=>h p (by simp[hp])
  simp only[IA,hx,ih]
theorem zL {sz:Nat}:∀(ps:List (Nat×Operand)) (cs:List (Lf D)),(∀p∈ps,aG slot p.2=aG bZ p.2)->zh sz slot ps cs=zh sz bZ ps cs
 | [],_,_=>rfl
 | (f,x)::r,cs,h=>by
  have hx:aG slot x=aG bZ x:=h (f,x) qa2;have ih:=fun cs=>zL (sz:=sz) r cs fun p hp=>h p (by simp[hp])
  simp only[zh,hx,ih]
theorem ae1 {t:TypeId}{x:Sl D}(h:∀l∈x.refs,blk l=blk' l):ET T S blk t x=ET T S blk' t x:=by
 unfold ET;cases T t with
 | none=>rfl
 | some ty=>
  cases x with
  | yD xs=>rfl
  | one x=>
   cases x with
   | agg xs=>rfl
   | lf x=>cases x<;>first | rfl | (have hh:=h _ (zD.2 rfl);simp only[hh])
theorem aad {t:TypeId}{x y:Sl D}(h:∀l∈x.refs,blk l=blk' l):II T S blk t x y=II T S blk' t x y:=by
 unfold II;cases T t with
 | none=>rfl
 | some ty=>
  cases x with
  | yD xs=>rfl
  | one x=>
   cases x with
   | agg xs=>rfl
   | lf x=>
    cases y with
    | yD ys=>cases x<;>rfl
    | one y=>cases x<;>first | rfl | (have hh:=h _ (zD.2 rfl);simp only[hh])
theorem ace {t:TypeId}{x y:Sl D}(h:∀l∈x.refs,blk l=blk' l):Ox T S blk t x y=Ox T S blk' t x y:=by
 unfold Ox;cases T t with
 | none=>rfl
 | some ty=>
  simp only;cases ty.elem with
  | none=>rfl
  | some e=>
   simp only;cases T e with
   | none=>rfl
   | some te=>
    cases x with
    | yD xs=>rfl
    | one x=>
     cases x with
     | agg xs=>rfl
     | lf x=>
      cases y with
      | yD ys=>cases x<;>rfl
      | one y=>
       cases y with
       | agg ys=>cases x<;>rfl
       | lf y=>cases x<;>cases y<;>first | rfl | (have hh:=h _ (zD.2 rfl);simp only[hh])
theorem aiR {ts:Array TypeId}{x:Sl D}(h:∀l∈x.refs,blk l=blk' l):anC S T blk ts x=anC S T blk' ts x:=by
 unfold anC;split
 ·rfl
 ·split
  ·rfl
  ·cases x with
   | yD xs=>rfl
   | one x=>
    cases x with
    | agg xs=>rfl
    | lf x=>
     cases x with
     | own l=>have hh:=h l qbm;simp only[hh]
     | val v=>cases v<;>first | rfl | (rename_i a n c;cases a<;>first | rfl | (cases n<;>first | rfl | (cases c<;>rfl)))
     | _=>rfl
theorem E8 {x:Sl D}(h:∀l∈x.refs,blk l=blk' l):LQ blk x=LQ blk' x:=by
 cases x with
 | yD xs=>rfl
 | one x=>
  cases x with
  | agg xs=>rfl
  | lf x=>
   cases x with
   | own l=>have hh:=h l qbm;simp only[LQ,hh]
   | _=>rfl
theorem XK {ts:Array TypeId}{x y:Sl D}(h:∀l∈x.refs,blk l=blk' l)(h':∀l∈y.refs,blk l=blk' l):Gm T S blk fr ts x y=Gm T S blk' fr ts x y:=by
 unfold Gm;rw[E8 h'];cases x with
 | yD xs=>rfl
 | one x=>
  cases x with
  | agg xs=>rfl
  | lf x=>
   cases x with
   | own l=>have hh:=h l qbm;simp only[hh]
   | val v=>cases v<;>first | rfl | (rename_i a n c;cases a<;>first | rfl | (cases n<;>first | rfl | (cases c<;>rfl)))
   | _=>rfl
theorem aaM {t:TypeId}{x:Sl D}{lo hi:Option (Sl D)}(h:∀l∈x.refs,blk l=blk' l):OT T S blk t x lo hi=OT T S blk' t x lo hi:=by
 unfold OT;split
 ·rfl
 ·split
  ·rfl
  ·split
   ·rfl
   ·rfl
   ·rename_i q;rw[h q qbm]
   ·rfl
theorem adl {ts:Array TypeId}{x y:Sl D}(h:∀l∈x.refs,blk l=blk' l):Y2 T S blk ts x y=Y2 T S blk' ts x y:=by
 unfold Y2;split
 ·split
  ·split
   ·rfl
   ·split
    ·rfl
    ·split
     ·rfl
     ·split
      ·rename_i l d2;rw[h l qbm]
      ·rfl
  ·rfl
 ·rfl
theorem Lh (x:Lf D):x.norm.refs=x.refs:=by
 unfold Lf.norm;split<;>rfl
theorem KE (x:Sv D):x.norm.refs=x.refs:=by
 cases x with
 | lf x=>exact Lh x
 | agg xs=>simp only[Sv.norm,Sv.refs,Qdp];exact nS fun x _=>Lh x
theorem abZ (x:Sl D):x.norm.refs=x.refs:=by
 cases x with
 | one x=>exact KE x
 | yD xs=>simp only[Sl.norm,Sl.refs,Qdp];exact nS fun x _=>KE x
theorem J8 (x:Lf D):∀l∈(x.view blk).refs,l∈x.refs:=by
 cases x with
 | own l=>
  simp only[Lf.view];split
  ·intro l' h;simp[Lf.refs]at h
  ·intro l' h;simp[Lf.refs]at h
  ·intro l' h;simp[Lf.refs]at h
  ·intro l' h;exact h
 | part l i j sz f=>
  simp only[Lf.view];split
  ·split<;>(intro l' h;simp[Lf.refs]at h)
  ·split<;>(intro l' h;simp[Lf.refs]at h)
  ·intro l' h;exact h
 | _=>exact fun l h=>h
theorem JM (x:Sv D):∀l∈(x.view blk).refs,l∈x.refs:=by
 cases x with
 | lf x=>exact J8 x
 | agg xs=>
  intro l hl;simp only[Sv.view,Sv.refs,Qdp]at hl⊢;obtain⟨y,hy,hl⟩:=wW.1 hl;exact wW.2 ⟨y,hy,J8 y l hl⟩
theorem Dh (x:Sl D):∀l∈(x.view blk).refs,l∈x.refs:=by
 cases x with
 | one x=>exact JM x
 | yD xs=>
  intro l hl;simp only[Sl.view,Sl.refs,Qdp]at hl⊢;obtain⟨y,hy,hl⟩:=wW.1 hl;exact wW.2 ⟨y,hy,JM y l hl⟩
theorem Hy {x:Lf D}(h:∀l∈x.refs,blk l=blk' l):x.view blk=x.view blk':=by
 cases x with
 | own l=>simp only[Lf.view];rw[h l qb3]
 | part l i j sz f=>simp only[Lf.view];rw[h l qb3]
 | _=>rfl
theorem H6 {x:Sv D}(h:∀l∈x.refs,blk l=blk' l):x.view blk=x.view blk':=by
 cases x with
 | lf x=>simp only[Sv.view];rw[Hy h]
 | agg xs=>simp only[Sv.view];congr 1;exact Qbs fun y hy=>Hy fun l hl=>h l (wW.2 ⟨y,hy,hl⟩)
theorem zW {x:Sl D}(h:∀l∈x.refs,blk l=blk' l):x.view blk=x.view blk':=by
 cases x with
 | one x=>simp only[Sl.view];rw[H6 h]
 | yD xs=>simp only[Sl.view];congr 1;exact Qbs fun y hy=>H6 fun l hl=>h l (wW.2 ⟨y,hy,hl⟩)
theorem L_ (x:Lf D):∀l∈x.owns,l∈x.refs:=by cases x<;>simp[Lf.owns,Lf.refs]
theorem KZ (x:Sv D):∀l∈x.owns,l∈x.refs:=by
 cases x with
 | lf x=>exact L_ x
 | agg xs=>
  intro l hl;obtain⟨y,hy,hl⟩:=wW.1 hl;exact wW.2 ⟨y,hy,L_ y l hl⟩
theorem CO (x:Sl D):∀l∈x.owns,l∈x.refs:=by
 cases x with
 | one x=>exact KZ x
 | yD xs=>
  intro l hl;obtain⟨y,hy,hl⟩:=wW.1 hl;exact wW.2 ⟨y,hy,KZ y l hl⟩
theorem PM {f:FuncId}{args:List (Sl D)}(h:∀l∈reach blk 3 (mr [] (args.flatMap Sl.refs)),blk l=blk' l):L9 Γ f blk args fr=L9 Γ f blk' args fr:=by
 unfold L9;cases Γ f with
 | none=>rfl
 | some ct=>
  dsimp only;have hn:(args.map Sl.norm).flatMap Sl.refs=args.flatMap Sl.refs:=by rw[Qdp];exact nS fun x _=>abZ x
  generalize args.map Sl.norm=as at hn;rw[<-hn]at h;have hd:∀l∈as.flatMap Sl.refs,blk l=blk' l:=fun l hl=>h l (AU _ _ _ ((eH _ _ _).2 (.inr hl)))
  have hv:as.map (Sl.view blk)=as.map (Sl.view blk'):=Qbs fun x hx=>zW fun l hl=>hd l (wW.2 ⟨x,hx,hl⟩)
  rw[MM (blk:=blk) (blk':=blk') (args:=as) (jA:=[]) h (fun l hl=>by simp at hl)];rw[MM (blk:=blk) (blk':=blk') (args:=as.map (Sl.view blk)) (jA:=mr [] (as.flatMap Sl.owns)) (fun l hl=>h l (Ce 3 _ _ (fun l hl=> ?_) l hl)) (fun l hl=>hd l ?_),hv]
  ·rcases(eH _ _ _).1 hl with q | q
   ·simp at q
   ·obtain⟨x,hx,hlx⟩:=wW.1 q;obtain⟨y,hy,rfl⟩:=zI.1 hx;exact(eH _ _ _).2 (.inr (wW.2 ⟨y,hy,Dh y l hlx⟩))
  ·rcases(eH _ _ _).1 hl with q | q
   ·simp at q
   ·obtain⟨x,hx,hlx⟩:=wW.1 q;exact wW.2 ⟨x,hx,CO x l hlx⟩
theorem Zo {op:Op}(hs:∀x∈op.operands.toList,aG slot x=aG bZ x)(hm:∀l∈dL slot blk op,blk l=blk' l):Bq T S Γ slot blk fr op=Bq T S Γ bZ blk' fr op:=by
 have hm':YT op=true->∀x∈op.operands.toList,∀l∈(aG bZ x).refs,blk l=blk' l:=by
  intro hi x hx l hl;refine hm l ?_;have hin:l∈op.operands.toList.flatMap fun x=>(aG slot x).refs:=wW.2 ⟨x,hx,by rw[hs x hx];exact hl⟩
  unfold dL;split
  ·exact AU _ _ _ ((eH _ _ _).2 (.inr hin))
  ·first | (split;· exact hin;· rename_i q;exact absurd hi q) | simpa[hi]using hin
 cases op with
 | move x=>simp only[Bq];rw[hs x oO]
 | assign x=>simp only[Bq];rw[hs x oO]
 | pick c x y=>simp only[Bq,ajI];rw[hs c oO,hs x oO,hs y oO]
 | alloc t=>rfl
 | box t x=>simp only[Bq];rw[hs x oO]
 | build t ps=>
  simp only[Bq,aaY];split
  ·rw[MK ps.toList _ fun p hp=>hs p.2 qc]
  ·rfl
 | buildSlice t n ps=>
  have:∀p∈ps.toList,aG slot p.2=aG bZ p.2:=fun p hp=>hs p.2 qc
  simp only[Bq,av9];split
  ·rfl
  ·split
   ·rfl
   ·split
    ·rfl
    ·rw[zL ps.toList _ this]
 | load t x=>
  simp only[Bq];rw[hs x oO,ae1 (hm' rfl x oO)]
 | store t x y=>
  simp only[Bq];rw[hs x oO,hs y oO,aad (hm' rfl x oO)]
 | nilCheck x=>simp only[Bq];rw[hs x oO]
 | binOp op t x y yt=>simp only[Bq];rw[hs x oO,hs y oO]
 | unOp op t x=>simp only[Bq];rw[hs x oO]
 | fieldAddr t x f=>simp only[Bq];rw[hs x oO]
 | field t x f=>simp only[Bq];rw[hs x oO]
 | indexAddr t x i=>
  simp only[Bq];rw[hs x oO,hs i oO,ace (hm' rfl x oO)]
 | extract x i=>simp only[Bq];rw[hs x oO]
 | call c=>
  simp only[Bq];have hargs:∀x∈c.args.toList,x∈(Op.call c).operands.toList:=fun x hx=>by
   simp only[Op.operands,Call.operands,Qb8,rW];exact .inr hx
  split
  ·split
   ·rename_i x hx;have hx:x∈(Op.call c).operands.toList:=hargs x qbu;rw[hs x hx,aiR (hm' rfl x hx)]
   ·rfl
  ·split
   ·rename_i x y hx;rw[hs x (hargs x qbu),hs y (hargs y qbu)]
   ·rfl
  ·split
   ·rename_i x y hx;rw[hs x (hargs x qbu),hs y (hargs y qbu)]
   ·rfl
  ·split
   ·rename_i x y hx;have hx1:x∈(Op.call c).operands.toList:=hargs x qbu;have hx2:y∈(Op.call c).operands.toList:=hargs y qbu;rw[hs x hx1,hs y hx2,XK (hm' rfl x hx1) (hm' rfl y hx2)]
   ·rfl
  ·split
   ·rename_i x y hx;have hx1:x∈(Op.call c).operands.toList:=hargs x qbu;have hx2:y∈(Op.call c).operands.toList:=hargs y qbu;rw[hs x hx1,hs y hx2,adl (hm' rfl x hx1)]
   ·rfl
  ·rename_i f hf;have hfm:f∈(Op.call c).operands.toList:=by simp[Op.operands,Call.operands,hf]
   have hfe:=hs f hfm;have:c.args.toList.map (aG slot)=c.args.toList.map (aG bZ):=Qbs fun x hx=>hs x (hargs x hx)
   rw[hfe,this];split
   ·rename_i f' caps hfn;have hcl:∀l∈caps,blk l=blk' l:=fun l hl=>hm' rfl f hfm l (by rw[hfn];exact hl)
    have hc2:caps.all (fun l=>isCells (blk l))=caps.all (fun l=>isCells (blk' l)):=by
     clear hfn;induction caps with
     | nil=>rfl
     | cons x r ih=>rw[Qdz,Qdz,hcl x qa2,ih fun l hl=>hcl l qci]
    rw[hc2];rw[PM (blk:=blk) (blk':=blk') fun l hl=>hm l ?_];have aFE:isFn (Op.call c)=true:=by simp[isFn,hf]
    unfold dL;rw[mi aFE];refine Ce 3 _ _ (fun l hl=> ?_) l hl;rcases(eH _ _ _).1 hl with q | q
    ·simp at q
    ·refine(eH _ _ _).2 (.inr ?_);rw[List.flatMap_append,rW]at q;rcases q with q | q
     ·rw[<-this]at q;obtain⟨y,hy,hly⟩:=wW.1 q;obtain⟨x,hx,rfl⟩:=zI.1 hy;exact wW.2 ⟨x,hargs x hx,hly⟩
     ·obtain⟨y,hy,hly⟩:=wW.1 q;obtain⟨k,hk,rfl⟩:=zI.1 hy;simp[Sl.refs,Sv.refs,Lf.refs]at hly;subst hly;exact wW.2 ⟨f,hfm,by rw[hfe,hfn];exact hk⟩
   ·rfl
  ·rfl
 | makeFunc fn first caps=>
  have hcp:∀(l:List Operand),(∀x∈l,aG slot x=aG bZ x)->Ep slot l=Ep bZ l:=by
   intro l;induction l with
   | nil=>intro _;rfl
   | cons x r ih=>intro h;unfold Ep;rw[h x qa2,ih fun y hy=>h y qcu]
  cases fn with
  | func f=>simp only[Bq];rw[hcp caps.toList fun x hx=>hs x (by simp only[Op.operands,Qb8,rW];exact .inr hx)]
  | _=>rfl
 | makeSlice t x y=>simp only[Bq];rw[hs x oO,hs y oO]
 | index t x y=>simp only[Bq];rw[hs x oO,hs y oO]
 | convert t u x=>simp only[Bq];rw[hs x oO]
 | slice t x lo hi mx=>
  cases mx with
  | some m=>rfl
  | none=>
   have hlo:lo.map (aG slot)=lo.map (aG bZ):=by
    cases lo with
    | none=>rfl
    | some l=>simp only[IR];rw[hs l oO]
   have hhi:hi.map (aG slot)=hi.map (aG bZ):=by
    cases hi with
    | none=>rfl
    | some l=>simp only[IR];rw[hs l oO]
   simp only[Bq];rw[hs x oO,hlo,hhi,aaM (hm' rfl x oO)]
 | _=>rfl
theorem qj:∀{l:List Operand} {t:Nat},t∈qN l ↔ Operand.tmp t∈l
 | [],t=>by simp[qN]
 | x::r,t=>by
  cases x<;>simp[qN,qj (l:=r)]
theorem abk {α:Type}{k:Nat}:∀(cs:List (Nat×α)) (f f':Nat->α),f k=f' k->lg f cs k=lg f' cs k
 | [],_,_,h=>h
 | (k0,v)::cs,f,f',h=>by
  refine abk cs (upd f k0 v) (upd f' k0 v) ?_;by_cases e:k=k0
  ·subst e;rw[upd_same,upd_same]
  ·rw[bP _ _ _ _ e,bP _ _ _ _ e,h]
theorem ahq {op:Op}(hs:∀x∈op.operands.toList,aG slot x=aG bZ x)(hm:∀l∈dL slot blk op,blk l=blk' l):anj T S Γ slot blk fr op=anj T S Γ bZ blk' fr op:=by
 unfold anj;rw[Zo hs hm];split
 ·rfl
 unfold aoQ;cases hc:LC op with
 | false=>simp
 | true=>
  have hf:isFn op=false:=by cases op<;>first | rfl | simp[LC]at hc
  have hi:YT op=true:=by cases op<;>first | rfl | simp[LC]at hc
  have hmr:∀(s:Nat->Sl D) (b:Nat->Option (Bk D)),dL s b op=op.operands.toList.flatMap fun x=>(aG s x).refs:=fun s b=>by unfold dL;rw[hf,hi];rfl
  have ht:∀t∈qN op.operands.toList,slot t=bZ t:=fun t ht=>hs (.tmp t) (qj.1 ht)
  have hb:∀t∈qN op.operands.toList,∀l∈(slot t).refs,blk l=blk' l:=fun t ht l hl=>hm l qcf
  have XT:iP slot op=iP bZ op:=by
   unfold iP;congr 1;exact nS fun t h=>by rw[ht t h]
  have hbl:∀l∈iP slot op,blk l=blk' l:=fun l hl=>by
   rcases(eH _ _ _).1 hl with h | h
   ·simp at h
   ·obtain⟨t,h1,h2⟩:=wW.1 h;exact hb t h1 l (CO _ l h2)
  have aFD:(iP slot op).filterMap (jm blk)=(iP slot op).filterMap (jm blk'):=tY fun l hl=>by unfold jm;rw[hbl l hl]
  have hall:((iP slot op).all fun l=>isRow (blk l))=((iP slot op).all fun l=>isRow (blk' l)):=by
   rw[Qdg,Nv,Nv];constructor
   ·intro h l hl;rw[<-hbl l hl];exact h l hl
   ·intro h l hl;rw[hbl l hl];exact h l hl
  have agf:∀x∈op.operands.toList,aG (Dw (qN op.operands.toList) slot blk) x=aG (Dw (qN op.operands.toList) bZ blk') x:=by
   intro x hx;cases x with
   | tmp t=>
    have htm:=qj.2 hx;simp only[aG,Dw];rw[mi (g_.2 htm),mi (g_.2 htm),<-ht t htm];exact zW fun l hl=>hb t htm l hl
   | _=>rfl
  simp only[Qex];rw[<-XT,<-aFD,<-hall];rw[Zo (blk':=lg blk' ((iP slot op).filterMap (jm blk))) agf];intro l hl;rw[hmr]at hl;refine abk _ _ _ ?_;obtain⟨x,hx,hlx⟩:=wW.1 hl;cases x with
  | tmp t=>
   have htm:=qj.2 hx;simp only[aG,Dw]at hlx;rw[mi (g_.2 htm)]at hlx;exact hb t htm l (Dh _ l hlx)
  | const v=>exact hm l qbn
  | func f=>exact hm l qbn
  | global i=>exact hm l qbn
theorem aca {t:TypeId}{x:Sl D}(h:∀l∈x.refs,blk l=blk' l):Nu T S blk t x=Nu T S blk' t x:=by
 unfold Nu;split
 ·rfl
 ·split
  ·rw[h _ qbm]
  ·rfl
  ·rfl
theorem XJ {t:TypeId}{x y:Sl D}(h:∀l∈x.refs,blk l=blk' l):Ha T S blk t x y=Ha T S blk' t x y:=by
 unfold Ha;split
 ·rfl
 ·split
  ·rw[h _ qbm]
  ·rfl
theorem aax {ts:Array TypeId}{x:Sl D}(h:∀l∈x.refs,blk l=blk' l):OJ T S blk ts x=OJ T S blk' ts x:=by
 unfold OJ;split
 ·split
  ·rfl
  ·split
   ·rfl
   ·split
    ·rfl
    ·split
     ·rw[h _ qbm]
     ·rfl
 ·rfl
theorem adH {op:Op}(hs:∀x∈op.operands.toList,aG slot x=aG bZ x)(hm:∀l∈dL slot blk op,blk l=blk' l):Dv T S slot blk fr op=Dv T S bZ blk' fr op:=by
 have hm':YT op=true->isFn op=false->∀x∈op.operands.toList,∀l∈(aG bZ x).refs,blk l=blk' l:=by
  intro hi hf x hx l hl;refine hm l ?_;unfold dL;rw[hf,hi];exact wW.2 ⟨x,hx,by rw[hs x hx];exact hl⟩
 cases op with
 | load t x=>
  simp only[Dv];rw[hs x oO,aca (hm' rfl rfl x oO)]
 | store t x y=>
  simp only[Dv];rw[hs x oO,hs y oO,XJ (hm' rfl rfl x oO)]
 | indexAddr t x i=>simp only[Dv];rw[hs x oO,hs i oO]
 | index t x i=>simp only[Dv];rw[hs x oO,hs i oO]
 | build t ps=>
  simp only[Dv,Ri];split
  ·rfl
  ·split
   ·rfl
   ·rw[zL ps.toList _ fun p hp=>hs p.2 qc]
 | call c=>
  simp only[Dv];split
  ·rename_i aFB;have hfn:isFn (.call c)=false:=by simp[isFn,aFB]
   split
   ·rename_i x hx;have hxm:x∈(Op.call c).operands.toList:=by
     simp only[Op.operands,Call.operands,Qb8,rW];exact .inr qbu
    rw[hs x hxm,aax (hm' rfl hfn x hxm)]
   ·rfl
  ·rfl
 | makeInterface t x=>simp only[Dv];rw[hs x oO]
 | typeAssert x st t ok=>
  cases ok with
  | true=>simp only[Dv];rw[hs x oO]
  | false=>rfl
 | _=>rfl
theorem ahb {op:Op}(hs:∀x∈op.operands.toList,aG slot x=aG bZ x)(hm:∀l∈dL slot blk op,blk l=blk' l):ann T S Γ slot blk fr op=ann T S Γ bZ blk' fr op:=by
 unfold ann;rw[adH hs hm,ahq hs hm]
theorem aiP {op:Op}(hs:∀x∈op.operands.toList,aG slot x=aG bZ x)(hm:∀l∈dL slot blk op,blk l=blk' l):aus T S Γ slot blk fr op=aus T S Γ bZ blk' fr op:=by
 unfold aus;split
 ·rw[hs _ oO]
 ·exact ahb hs hm
theorem aek {t:TypeId}{x:Sl D}(h:∀l∈x.refs,blk l=blk' l):mapOf S blk t x=mapOf S blk' t x:=by
 unfold mapOf;split
 ·rw[h _ qbm]
 all_goals rfl
theorem apJ {ps:List (Dl D)}:(ps.map Dl.lf).flatMap Lf.refs=[]:=by
 induction ps with
 | nil=>rfl
 | cons p r ih=>rw[DT,Qbu,ih];cases p<;>rfl
theorem anN {ag:Bool}{ps:List (Dl D)}{x:Sl D}(h:anS ag ps=some x):x.refs=[]:=by
 unfold anS at h;split at h
 ·rename_i p;injection h with h
  subst h;cases p<;>rfl
 ·injection h with h
  subst h;exact apJ
 ·cases h
theorem TK {op:Op}(hs:∀x∈op.operands.toList,aG slot x=aG bZ x)(hm:∀l∈dL slot blk op,blk l=blk' l):yJ T S Γ slot blk fr op=yJ T S Γ bZ blk' fr op:=by
 have hm':YT op=true->∀x∈op.operands.toList,∀l∈(aG bZ x).refs,blk l=blk' l:=by
  intro hi x hx l hl;refine hm l ?_;have hin:l∈op.operands.toList.flatMap fun x=>(aG slot x).refs:=wW.2 ⟨x,hx,by rw[hs x hx];exact hl⟩
  unfold dL;split
  ·exact AU _ _ _ ((eH _ _ _).2 (.inr hin))
  ·first | (split;· exact hin;· rename_i q;exact absurd hi q) | simpa[hi]using hin
 cases op with
 | alloc t=>rfl
 | load t x=>
  have hx:=hs x oO;have hb:=hm' rfl x oO;simp only[yJ,abM];rw[hx];split
  ·rfl
  ·split
   ·rename_i l o he;rw[hb l qbd]
   ·rfl
 | store t x y=>
  have hx:=hs x oO;have hb:=hm' rfl x oO;simp only[yJ,QC];rw[hx,hs y oO];split
  ·rename_i ty l o u _ he _;rw[hb l qbd]
  ·rfl
 | indexAddr t x i=>simp only[yJ];rw[hs x oO,hs i oO]
 | index t x i=>simp only[yJ];rw[hs x oO,hs i oO]
 | makeMap t r=>cases r<;>rfl
 | slice t x lo hi mx=>
  cases mx with
  | some m=>
   have hlo:lo.map (aG slot)=lo.map (aG bZ):=by
    cases lo with
    | none=>rfl
    | some l=>simp only[IR];rw[hs l oO]
   have hhi:hi.map (aG slot)=hi.map (aG bZ):=by
    cases hi with
    | none=>rfl
    | some l=>simp only[IR];rw[hs l oO]
   have hx:=hs x oO;have hmx:=hs m oO;have hb:=hm' rfl x oO;simp only[yJ,Sm];rw[hx,hlo,hhi,hmx];split
   ·split
    ·rfl
    ·split
     ·rfl
     ·split
      ·rfl
      ·split
       ·rfl
       ·rename_i q he;rw[hb q qbd]
       ·rfl
   ·rfl
  | none=>
   have hlo:lo.map (aG slot)=lo.map (aG bZ):=by
    cases lo with
    | none=>rfl
    | some l=>simp only[IR];rw[hs l oO]
   have hhi:hi.map (aG slot)=hi.map (aG bZ):=by
    cases hi with
    | none=>rfl
    | some l=>simp only[IR];rw[hs l oO]
   have hx:=hs x oO;have hb:=hm' rfl x oO;simp only[yJ,Qz];rw[hx,hlo,hhi];split
   ·rfl
   ·split
    ·split
     ·split
      ·rfl
      ·split
       ·rename_i q he;rw[hb q qbd]
       ·rfl
     ·rfl
    ·rfl
 | lookup t x i ok=>
  simp only[yJ,Rn];rw[hs x oO,hs i oO,aek (hm' rfl x oO)]
 | mapUpdate t x i v=>
  have hx:=hs x oO;have hb:=hm' rfl x oO;simp only[yJ,Gj];rw[hx,hs i oO,hs v oO];split
  ·rfl
  ·split
   ·rfl
   ·split
    ·split
     ·rename_i l k he _;rw[hb l qbd]
     ·rfl
    ·rfl
 | insert t x i v=>
  have hx:=hs x oO;have hb:=hm' rfl x oO;simp only[yJ,Gj];rw[hx,hs i oO,hs v oO];split
  ·rfl
  ·split
   ·rfl
   ·split
    ·split
     ·rename_i l k he _;rw[hb l qbd]
     ·rfl
    ·rfl
 | convert t d x=>
  have hd:=E8 (blk:=blk) (blk':=blk') (hm' rfl x oO);have e:X8 T S blk t d (aG bZ x)=X8 T S blk' t d (aG bZ x):=by
   unfold X8;split
   ·split
    ·rfl
    ·split
     ·rfl
     ·split
      ·split
       ·rfl
       ·rw[hd]
      ·rfl
   ·rfl
  simp only[yJ];rw[hs x oO,e]
 | makeInterface t x=>simp only[yJ];rw[hs x oO]
 | typeAssert x st t ok=>simp only[yJ];rw[hs x oO]
 | binOp op t x y yt=>simp only[yJ];rw[hs x oO,hs y oO]
 | makeFunc fn first caps=>
  cases fn with
  | func f=>
   simp only[yJ];split
   ·rename_i x h1 h2;rw[hs x (by simp only[Op.operands,Qb8,rW];exact .inl (by rw[h1];simp))]
   ·rfl
  | _=>rfl
 | nilCheck x=>simp only[yJ];rw[hs x oO]
 | call c=>
  have hargs:∀x∈c.args.toList,x∈(Op.call c).operands.toList:=fun x hx=>by
   simp only[Op.operands,Call.operands,Qb8,rW];exact .inr hx
  simp only[yJ];split
  ·rename_i f hf;have hfm:f∈(Op.call c).operands.toList:=by simp[Op.operands,Call.operands,hf]
   have hfe:=hs f hfm;have this:c.args.toList.map (aG slot)=c.args.toList.map (aG bZ):=Qbs fun x hx=>hs x (hargs x hx)
   unfold aau;rw[hfe,this];split
   ·split
    ·rename_i x hx;refine PM fun l hl=>hm l ?_;have aFE:isFn (Op.call c)=true:=by simp[isFn,hf]
     unfold dL;rw[mi aFE];refine Ce 3 _ _ (fun l hl=> ?_) l hl;rcases(eH _ _ _).1 hl with q | q
     ·simp at q
     ·refine(eH _ _ _).2 (.inr ?_);rw[Qbu,anN hx,Qci,<-this]at q;obtain⟨y,hy,hly⟩:=wW.1 q;obtain⟨x,hx,rfl⟩:=zI.1 hy;exact wW.2 ⟨x,hargs x hx,hly⟩
    ·rfl
   ·rfl
  ·split
   ·rename_i x y hx;have hx1:x∈(Op.call c).operands.toList:=hargs x qbu;have hx2:y∈(Op.call c).operands.toList:=hargs y qbu;have hb:=hm' rfl x hx1;rw[hs x hx1,hs y hx2];have e1:Af T S blk c.argTypes (aG bZ x) (aG bZ y)=Af T S blk' c.argTypes (aG bZ x) (aG bZ y):=by
     unfold Af;split
     ·split
      ·split
       ·rfl
       ·split
        ·rfl
        ·split
         ·rfl
         ·split
          ·rfl
          ·rfl
          ·rename_i l he;rw[hb l qbd]
          ·rfl
      ·rfl
     ·rfl
    have e2:AO T S blk fr c.argTypes (aG bZ x) (aG bZ y)=AO T S blk' fr c.argTypes (aG bZ x) (aG bZ y):=by
     unfold AO;split
     ·split
      ·split
       ·rfl
       ·split
        ·rfl
        ·split
         ·split
          ·rfl
          ·split
           ·split
            ·rfl
            ·rename_i l he;rw[hb l qbd]
            ·rfl
           ·rfl
         ·rfl
      ·rfl
     ·rfl
    have hd:=E8 (blk:=blk) (blk':=blk') (hm' rfl y hx2);have e3:AP T S blk fr c.argTypes (aG bZ x) (aG bZ y)=AP T S blk' fr c.argTypes (aG bZ x) (aG bZ y):=by
     unfold AP;rw[hd]
    rw[e1,e2,e3]
   ·rfl
  ·split
   ·rename_i x hx;rw[hs x (hargs x qbu)]
   ·rfl
  ·split
   ·rename_i x hx;have hx1:x∈(Op.call c).operands.toList:=hargs x qbu;have hb:=hm' rfl x hx1;rw[hs x hx1];unfold BK;split
    ·rename_i l he;rw[hb l qbd]
    ·rfl
    ·rfl
   ·rfl
  ·split
   ·rename_i x y hx;have hx1:x∈(Op.call c).operands.toList:=hargs x qbu;have hx2:y∈(Op.call c).operands.toList:=hargs y qbu;have hb:=hm' rfl x hx1;rw[hs x hx1,hs y hx2];unfold C_;split
    ·rename_i l n he _;rw[hb l qbd]
    ·rfl
    ·rfl
   ·rfl
  ·rfl
 | _=>rfl
theorem aaI {op:Op}(hs:∀x∈op.operands.toList,aG slot x=aG bZ x)(hm:∀l∈dL slot blk op,blk l=blk' l):Oj T S Γ slot blk fr op=Oj T S Γ bZ blk' fr op:=by
 unfold Oj;cases hc:FX op with
 | false=>simp
 | true=>
  have hf:isFn op=false:=by cases op<;>first | rfl | simp[FX]at hc
  have hi:YT op=true:=by cases op<;>first | rfl | simp[FX]at hc
  have hmr:∀(s:Nat->Sl D) (b:Nat->Option (Bk D)),dL s b op=op.operands.toList.flatMap fun x=>(aG s x).refs:=fun s b=>by unfold dL;rw[hf,hi];rfl
  have ht:∀t∈qN op.operands.toList,slot t=bZ t:=fun t ht=>hs (.tmp t) (qj.1 ht)
  have hb:∀t∈qN op.operands.toList,∀l∈(slot t).refs,blk l=blk' l:=fun t ht l hl=>hm l qcf
  have XT:iP slot op=iP bZ op:=by
   unfold iP;congr 1;exact nS fun t h=>by rw[ht t h]
  have hbl:∀l∈iP slot op,blk l=blk' l:=fun l hl=>by
   rcases(eH _ _ _).1 hl with h | h
   ·simp at h
   ·obtain⟨t,h1,h2⟩:=wW.1 h;exact hb t h1 l (CO _ l h2)
  have aFD:(iP slot op).filterMap (jm blk)=(iP slot op).filterMap (jm blk'):=tY fun l hl=>by unfold jm;rw[hbl l hl]
  have hall:((iP slot op).all fun l=>isRow (blk l))=((iP slot op).all fun l=>isRow (blk' l)):=by
   rw[Qdg,Nv,Nv];constructor
   ·intro h l hl;rw[<-hbl l hl];exact h l hl
   ·intro h l hl;rw[hbl l hl];exact h l hl
  have agf:∀x∈op.operands.toList,aG (Dw (qN op.operands.toList) slot blk) x=aG (Dw (qN op.operands.toList) bZ blk') x:=by
   intro x hx;cases x with
   | tmp t=>
    have htm:=qj.2 hx;simp only[aG,Dw];rw[mi (g_.2 htm),mi (g_.2 htm),<-ht t htm];exact zW fun l hl=>hb t htm l hl
   | _=>rfl
  simp only[Qex];rw[<-XT,<-aFD,<-hall];rw[TK (blk':=lg blk' ((iP slot op).filterMap (jm blk))) agf];intro l hl;rw[hmr]at hl;refine abk _ _ _ ?_;obtain⟨x,hx,hlx⟩:=wW.1 hl;cases x with
  | tmp t=>
   have htm:=qj.2 hx;simp only[aG,Dw]at hlx;rw[mi (g_.2 htm)]at hlx;exact hb t htm l (Dh _ l hlx)
  | const v=>exact hm l qbn
  | func f=>exact hm l qbn
  | global i=>exact hm l qbn
theorem ahp {op:Op}(hs:∀x∈op.operands.toList,aG slot x=aG bZ x)(hm:∀l∈dL slot blk op,blk l=blk' l):anM T S Γ slot blk fr op=anM T S Γ bZ blk' fr op:=by
 unfold anM;rw[TK hs hm,aaI hs hm,aiP hs hm]
theorem aeM {op:Op}(hs:∀x∈op.operands.toList,aG slot x=aG bZ x)(hm:∀l∈dL slot blk op,blk l=blk' l):VN slot blk op=VN bZ blk' op:=by
 unfold VN;split
 ·rename_i it;have hit:it∈(Op.next it true).operands.toList:=by simp[Op.operands]
  have hb:∀l∈(aG slot it).refs,blk l=blk' l:=fun l hl=>hm l (by
   unfold dL;exact wW.2 ⟨it,hit,hl⟩)
  rw[<-hs it hit];split
  ·rename_i l o he;rw[hb l qbd]
  ·rfl
 ·rfl
theorem ag_ {op:Op}{out:Out D}(hs:∀x∈op.operands.toList,aG slot x=aG bZ x)(hm:∀l∈dL slot blk op,blk l=blk' l)(h:Does T S Γ slot blk fr op out):Does T S Γ bZ blk' fr op out:=by
 unfold Does at h⊢;rw[<-ahp hs hm,<-aeM hs hm];exact h
theorem agn (hs:∀t∈o.looksAt ops,slot t=bZ t)(hm:∀l∈dL slot blk o.op,blk l=blk' l)(h:V6 T S Γ ops n fr slot blk o W):V6 T S Γ ops n fr bZ blk' o W:=by
 have hop:∀x∈o.op.operands.toList,aG slot x=aG bZ x:=by
  intro x hx;cases x with
  | tmp t=>
   refine hs t ?_;simp only[Oper.looksAt,rW,Qde];exact .inl ⟨_,hx,rfl⟩
  | _=>rfl
 have hw:∀r,Wanted ops slot o r->Wanted ops bZ o r:=by
  intro r hr;unfold Wanted at hr⊢;cases hg:o.guard with
  | none=>rw[hg]at hr;exact hr
  | some jw=>
   obtain⟨j,want⟩:=jw;rw[hg]at hr;obtain⟨d,hd,hr⟩:=hr;have hin:slot d=bZ d:=by
    refine hs d ?_;simp only[Oper.looksAt,rW,hg];exact .inr (by simp[hd])
   exact⟨d,hd,by rw[<-hin];exact hr⟩
 obtain⟨h1,h2,h3⟩:=h;refine⟨h1,h2,?_⟩;rcases h3 with⟨hwt,out,hx,hrest⟩ | ⟨hwf,hrest⟩
 ·exact .inl ⟨hw _ hwt,out,ag_ hop hm hx,hrest⟩
 ·exact .inr ⟨hw _ hwf,hrest⟩
def qA (L:Nat->Bool):Nat->(Nat->Sl D)->List (Wr D)->(Nat->Sl D)
 | _,slot,[]=>slot
 | i,slot,W::Ws=>qA L (i+1) (if L i then Ar slot W else slot) Ws
def qO (L:Nat->Bool):Nat->(Nat->Option (Bk D))->List (Wr D)->(Nat->Option (Bk D))
 | _,blk,[]=>blk
 | i,blk,W::Ws=>qO L (i+1) (if L i then AV blk W else blk) Ws
theorem BD {t:Nat}(h:W.dst≠some t):Ar slot W t=slot t:=by
 unfold Ar;cases hd:W.dst with
 | some d=>exact bP _ _ _ _ (fun e=>h (by rw[hd,e]))
 | none=>rfl
theorem Gl {t:Nat}(h:W.dst=some t):Ar slot W t=W.val:=by simp[Ar,h,upd_same]
theorem rU {α:Type}{l:Nat}:∀{kv:List (Nat×α)} {f:Nat->α},l∉kv.map (·.1)->lg f kv l=f l
 | [],f,_=>rfl
 | (k,v)::r,f,h=>by
  simp only[DT,xI,not_or]at h;simp only[lg];rw[rU h.2,bP _ _ _ _ h.1]
theorem abv {α:Type}{l:Nat}:∀{kv:List (Nat×α)} {f f':Nat->α},l∈kv.map (·.1)->lg f kv l=lg f' kv l
 | [],f,f',h=>by simp at h
 | (k,v)::r,f,f',h=>by
  simp only[lg];by_cases hr:l∈r.map (·.1)
  ·exact abv hr
  ·simp only[DT,xI]at h;rcases h with rfl | h
   ·rw[rU hr,rU hr,upd_same,upd_same]
   ·exact absurd h hr
theorem Jt {L L':Nat->Bool}{t:Nat}:∀(Ws:List (Wr D)) (i:Nat) (slot bZ:Nat->Sl D),(∀j W,Ws[j]? =some W->W.dst=some t->L (i+j)=L' (i+j))->slot t=bZ t->qA L i slot Ws t=qA L' i bZ Ws t
 | [],i,slot,bZ,_,h=>h
 | W::Ws,i,slot,bZ,hL,h=>by
  simp only[qA];refine Jt Ws (i+1) _ _ (fun j W' hj hd=>by have:=hL (j+1) W' qb4 hd;rwa [show i+(j+1)=i+1+j by omega]at this) ?_;by_cases hd:W.dst=some t
  ·have:=hL 0 W rfl hd;simp only[Qm]at this;rw[this];split
   ·rw[Gl hd,Gl hd]
   ·exact h
  ·have e1:(if L i then Ar slot W else slot) t=slot t:=by split<;>first | exact BD hd | rfl
   have e2:(if L' i then Ar bZ W else bZ) t=bZ t:=by split<;>first | exact BD hd | rfl
   rw[e1,e2];exact h
theorem Jl {L L':Nat->Bool}{t:Nat}:∀(Ws:List (Wr D)) (i:Nat) (blk blk':Nat->Option (Bk D)),(∀j W,Ws[j]? =some W->t∈W.keys->L (i+j)=L' (i+j))->blk t=blk' t->qO L i blk Ws t=qO L' i blk' Ws t
 | [],i,blk,blk',_,h=>h
 | W::Ws,i,blk,blk',hL,h=>by
  simp only[qO];refine Jl Ws (i+1) _ _ (fun j W' hj hd=>by have:=hL (j+1) W' qb4 hd;rwa [show i+(j+1)=i+1+j by omega]at this) ?_;by_cases hd:t∈W.keys
  ·have:=hL 0 W rfl hd;simp only[Qm]at this;rw[this];split
   ·exact abv hd
   ·exact h
  ·have e1:(if L i then AV blk W else blk) t=blk t:=by split<;>first | exact rU hd | rfl
   have e2:(if L' i then AV blk' W else blk') t=blk' t:=by split<;>first | exact rU hd | rfl
   rw[e1,e2];exact h
theorem Gg {L:Nat->Bool}{t:Nat}(Ws:List (Wr D))(i:Nat)(slot:Nat->Sl D)(h:∀j W,Ws[j]? =some W->W.dst=some t->L (i+j)=false):qA L i slot Ws t=slot t:=by
 induction Ws generalizing i slot with
 | nil=>rfl
 | cons W Ws ih=>
  simp only[qA];rw[ih (i+1) _ fun j W' hj hd=>by have:=h (j+1) W' qb4 hd;rwa [show i+(j+1)=i+1+j by omega]at this];by_cases hd:W.dst=some t
  ·have:=h 0 W rfl hd;simp only[Qm]at this;rw[this];rfl
  ·split<;>first | exact BD hd | rfl
theorem GR {L:Nat->Bool}{t:Nat}(Ws:List (Wr D))(i:Nat)(blk:Nat->Option (Bk D))(h:∀j W,Ws[j]? =some W->t∈W.keys->L (i+j)=false):qO L i blk Ws t=blk t:=by
 induction Ws generalizing i blk with
 | nil=>rfl
 | cons W Ws ih=>
  simp only[qO];rw[ih (i+1) _ fun j W' hj hd=>by have:=h (j+1) W' qb4 hd;rwa [show i+(j+1)=i+1+j by omega]at this];by_cases hd:t∈W.keys
  ·have:=h 0 W rfl hd;simp only[Qm]at this;rw[this];rfl
  ·split<;>first | exact rU hd | rfl
theorem Y5 {L:Nat->Bool}{t:Nat}:∀(Ws:List (Wr D)) (b i:Nat) (slot:Nat->Sl D) (W:Wr D),Ws[i]? =some W->L (b+i)=true->W.dst=some t->(∀j W',i < j->Ws[j]? =some W'->W'.dst=some t->L (b+j)=false)->qA L b slot Ws t=W.val
 | [],b,i,slot,W,h,_,_,_=>by simp at h
 | V::Ws,b,0,slot,W,h,hL,hd,hn=>by
  simp only[Qcl,Nb]at h;subst h;simp only[qA];rw[Gg Ws (b+1) _ fun j W' hj hd'=>by have:=hn (j+1) W' au qb4 hd';rwa [show b+(j+1)=b+1+j by omega]at this];simp only[Qm]at hL;rw[hL];exact Gl hd
 | V::Ws,b,i+1,slot,W,h,hL,hd,hn=>by
  simp only[qA];exact Y5 Ws (b+1) i _ W qbq (by rw[show b+1+i=b+(i+1) by omega];exact hL) hd fun j W' hj hw hd'=>by have:=hn (j+1) W' au (by simpa using hw) hd';rwa [show b+(j+1)=b+1+j by omega]at this
theorem Yb {L:Nat->Bool}{t:Nat}:∀(Ws:List (Wr D)) (b i:Nat) (blk blk':Nat->Option (Bk D)) (W:Wr D),Ws[i]? =some W->L (b+i)=true->t∈W.keys->(∀j W',i < j->Ws[j]? =some W'->t∈W'.keys->L (b+j)=false)->qO L b blk Ws t=AV blk' W t
 | [],b,i,blk,blk',W,h,_,_,_=>by simp at h
 | V::Ws,b,0,blk,blk',W,h,hL,hd,hn=>by
  simp only[Qcl,Nb]at h;subst h;simp only[qO];rw[GR Ws (b+1) _ fun j W' hj hd'=>by have:=hn (j+1) W' au qb4 hd';rwa [show b+(j+1)=b+1+j by omega]at this];simp only[Qm]at hL;rw[hL];exact abv hd
 | V::Ws,b,i+1,blk,blk',W,h,hL,hd,hn=>by
  simp only[qO];exact Yb Ws (b+1) i _ blk' W qbq (by rw[show b+1+i=b+(i+1) by omega];exact hL) hd fun j W' hj hw hd'=>by have:=hn (j+1) W' au (by simpa using hw) hd';rwa [show b+(j+1)=b+1+j by omega]at this
theorem aep {L:Nat->Bool}:∀(Ws:List (Wr D)) (b:Nat) (slot:Nat->Sl D),(∀j,j < Ws.length->L (b+j)=true)->qA L b slot Ws=Du slot Ws
 | [],_,_,_=>rfl
 | W::Ws,b,slot,h=>by
  have h0:=h 0 qa2;simp only[Qm]at h0;simp only[qA,h0,if_true,Du];exact aep Ws (b+1) _ fun j hj=>by have:=h (j+1) qb4;rwa [show b+(j+1)=b+1+j by omega]at this
theorem ady {L:Nat->Bool}:∀(Ws:List (Wr D)) (b:Nat) (blk:Nat->Option (Bk D)),(∀j,j < Ws.length->L (b+j)=true)->qO L b blk Ws=Hz blk Ws
 | [],_,_,_=>rfl
 | W::Ws,b,blk,h=>by
  have h0:=h 0 qa2;simp only[Qm]at h0;simp only[qO,h0,if_true,Hz];exact ady Ws (b+1) _ fun j hj=>by have:=h (j+1) qb4;rwa [show b+(j+1)=b+1+j by omega]at this
theorem TB:∀(l:List Oper) (Ws:List (Wr D)) (b i fr:Nat) (slot:Nat->Sl D) (blk:Nat->Option (Bk D)) (o:Oper),Trace T S Γ ops n fr slot blk l Ws->l[i]? =some o->
  ∃W,Ws[i]? =some W/\∃bZ,(∀t,Alike (qA (fun j=>decide (j < b+i)) b slot Ws t) (bZ t))/\V6 T S Γ ops n (fr+64*i) bZ (qO (fun j=>decide (j < b+i)) b blk Ws) o W
 | [],_,_,i,_,_,_,_,_,h=>by simp at h
 | _::_,[],_,_,_,_,_,_,ht,_=>by simp[Trace]at ht
 | o'::l,W::Ws,b,0,fr,slot,blk,o,ht,h=>by
  simp only[Qcl,Nb]at h;subst h;refine⟨W,rfl,?_⟩;have e1:qA (fun j=>decide (j < b+0)) b slot (W::Ws)=slot:=by
   funext t;exact Gg _ _ _ fun j W' _ _=>by simp
  have e2:qO (fun j=>decide (j < b+0)) b blk (W::Ws)=blk:=by
   funext t;exact GR _ _ _ fun j W' _ _=>by simp
  rw[e1,e2];exact ht.1
 | o'::l,W::Ws,b,i+1,fr,slot,blk,o,ht,h=>by
  obtain⟨W',hW',hst⟩:=TB l Ws (b+1) i (fr+64) _ _ o ht.2 qbq;refine⟨W',by simpa using hW',?_⟩;have hb:decide (b < b+(i+1))=true:=by simp
  simp only[qA,qO,hb,if_true];rw[show b+(i+1)=b+1+i by omega,show fr+64*(i+1)=fr+64+64*i by omega];exact hst
theorem Kq:∀(l:List Oper) (Ws:List (Wr D)) (fr:Nat) (slot:Nat->Sl D) (blk:Nat->Option (Bk D)),Trace T S Γ ops n fr slot blk l Ws->Ws.length=l.length
 | [],[],_,_,_,_=>rfl
 | [],_::_,_,_,_,h=>by simp[Trace]at h
 | _::_,[],_,_,_,h=>by simp[Trace]at h
 | _::l,_::Ws,fr,_,_,h=>by simp[Kq l Ws _ _ _ h.2]
end
end Go.Vc
namespace Go.Vc
open Go.RowKit
def yP (ops:Array Oper):Bool:=
 (List.range ops.size).all fun j=>
  match ops[j]? with
  | none=>true
  | some oj=>(oj.after.toList.all fun e=> !Region.binds .any e || Nat.blt e.on j) && (List.range j).all fun i=>
   match ops[i]? with
   | none=>true
   | some oi=>Oper.apart ops oi oj || Jk oj i
section
variable {D:Type}{P:Program}{S:Sh D}{T:TypeId->Option Ty}{Γ:FuncId->Option (Ct D)}{N:Nat->Prop}{w w':World}{w0:Bs}{g0:Nat->Option Value}{blk blk':Nat->Option (Bk D)}{al:Nat->Prop}
 {a:Act} {o:Oper} {K:Act->World->Prop} {Q:Exit->Act->World->Prop} {slot bZ:Nat->Sl D} {fr n:Nat} {ops:Array Oper} {W:Wr D} {Ws:List (Wr D)}
theorem acB (h:yP ops=true){j:Nat}{oj:Oper}(hj:ops[j]? =some oj):∀e∈oj.after.toList,Region.binds .any e=true->e.on < j:=by
 intro e he hb;have hlt:j < ops.size:=(Qco.1 hj).1;have:=Nv.1 h j (Qcu.2 hlt);simp only[hj,jR]at this;have:=Nv.1 this.1 e he;simp only[hb,Qcn,Bool.false_or]at this;simpa[Hu]using this
theorem Em (h:yP ops=true){i j:Nat}{oi oj:Oper}(hij:i < j)(hi:ops[i]? =some oi)(hj:ops[j]? =some oj):Oper.apart ops oi oj=true\/Jk oj i=true:=by
 have hlt:j < ops.size:=(Qco.1 hj).1;have:=Nv.1 h j (Qcu.2 hlt);simp only[hj,jR]at this;have:=Nv.1 this.2 i (Qcu.2 hij);simp only[hi,Qbx]at this;exact this
def LG (slot:Nat->Sl D)(blk:Nat->Option (Bk D))(Ws:List (Wr D))(ops:Array Oper)(i:Nat):List Nat:=
 match ops[i]? with
 | some o=>dL (qA (fun j=>decide (j < i)) 0 slot Ws) (qO (fun j=>decide (j < i)) 0 blk Ws) o.op
 | none=>[]
def aqK (slot:Nat->Sl D)(blk:Nat->Option (Bk D))(Ws:List (Wr D))(ops:Array Oper):Prop:=
 ∀i j oj Wi Wj l,i < j->ops[j]? =some oj->Ws[i]? =some Wi->Ws[j]? =some Wj->((l∈Wj.keys/\(l∈LG slot blk Ws ops i\/l∈Wi.keys))\/(l∈LG slot blk Ws ops j/\l∈Wi.keys))->wR ops 3 oj i=true
theorem Yz {o:Oper}{i:Nat}(h:Jk o i=true):∃e∈o.after.toList,Region.binds .any e=true/\e.on=i:=by
 simp only[Jk,Qct,jR]at h;obtain⟨e,he,hb,hi⟩:=h;exact⟨e,he,hb,Qa hi⟩
theorem Jr {listed:Array Bool}(hcl:∀i o,ops[i]? =some o->listed.getD i false=true->∀e∈o.after.toList,Region.binds .any e=true->listed.getD e.on false=true):
  ∀(k:Nat) (o:Oper) (i:Nat),(∀e∈o.after.toList,Region.binds .any e=true->listed.getD e.on false=true)->wR ops k o i=true->listed.getD i false=true
 | 0,o,i,hed,h=>by
  obtain⟨e,he,hb,rfl⟩:=Yz h;exact hed e he hb
 | k+1,o,i,hed,h=>by
  simp only[wR,Qbx,Qct,jR]at h;rcases h with h | ⟨e,he,hb,hm⟩
  ·obtain⟨e,he,hb,rfl⟩:=Yz h;exact hed e he hb
  ·split at hm
   ·rename_i o' ho';exact Jr hcl k o' i (hcl e.on o' ho' (hed e he hb)) hm
   ·cases hm
theorem Tf {listed:Array Bool}(hsz:listed.size=ops.size){i:Nat}(h:i∈Region.ready .any ops listed):
  ∃o,ops[i]? =some o/\listed.getD i false=false/\i < ops.size/\∀e∈o.after.toList,Region.binds .any e=true->listed.getD e.on false=true:=by
 simp only[Region.ready,R_,Qcu,jR]at h;obtain⟨hlt,h1,h2⟩:=h;cases ho:ops[i]? with
 | none=>rw[ho]at h2;simp at h2
 | some o=>
  rw[ho]at h2;simp only[IR,Qdc]at h2;refine⟨o,rfl,?_,hlt,fun e he hb=> ?_⟩
  ·have hl:i < listed.size:=by omega
   simpa[Array.getD,hl]using h1
  ·rw[Array.all_eq_true_iff_forall_mem]at h2;have:=h2 e (by simpa using he);simpa[hb]using this
theorem ready_nil {listed:Array Bool}(hsz:listed.size=ops.size)(hd:yP ops=true)(h:Region.ready .any ops listed=[]):∀j,j < ops.size->listed.getD j false=true:=by
 intro j;induction j using Nat.strongRecOn with
 | _ j ih=>
  intro hj;cases hb:listed.getD j false with
  | true=>rfl
  | false=>
   exfalso;have ho:ops[j]? =some ops[j]:=by simp[hj]
   have hin:j∈Region.ready .any ops listed:=by
    simp only[Region.ready,R_,Qcu,jR];refine⟨hj,?_,?_⟩
    ·have hl:j < listed.size:=by omega
     simpa[Array.getD,hl]using hb
    ·rw[ho];simp only[IR,Qdc];rw[Array.all_eq_true_iff_forall_mem];intro e he;cases hbe:Region.binds .any e with
     | false=>rfl
     | true=>
      have:=acB hd ho e (by simpa using he) hbe;simpa using ih e.on this au
   rw[h]at hin;simp at hin
theorem ayt (hTy:∀t ty,T t=some ty->fP P t ty)(hΓ:∀f ct,Γ f=some ct->fV P S f ct)(hS:jf S)(hd:yP ops=true)(htr:Trace T S Γ ops n fr slot blk ops.toList Ws)(hmem:aqK slot blk Ws ops)
  (hQ:∀a w,Holds S w0 g0 N n (Du slot Ws) (Hz blk Ws) (· < fr+64*ops.size) a w->Q .normal a w):
  ∀(fuel:Nat) (listed:Array Bool) (a:Act) (w:World),listed.size=ops.size->(∀i o,ops[i]? =some o->listed.getD i false=true->∀e∈o.after.toList,Region.binds .any e=true->listed.getD e.on false=true)->
   listed.toList.count false<=fuel->Holds S w0 g0 N n (qA (fun j=>listed.getD j false) 0 slot Ws) (qO (fun j=>listed.getD j false) 0 blk Ws) (fun l=>l < fr\/∃j,listed.getD j false=true/\fr+64*j<=l/\l < fr+64*j+64) a w->
   wpAny P .any ops Q fuel listed a w:=by
 have hlen:Ws.length=ops.size:=by simpa using Kq _ _ _ _ _ htr
 have hWs:∀(j:Nat) (Wj:Wr D),Ws[j]? =some Wj->∃oj:Oper,ops[j]? =some oj/\Wj.dst=oj.dst:=by
  intro j Wj hj;have hlt:j < ops.size:=by have:=(Qa6.1 hj).1;omega
  obtain⟨W',hW',_,_,hst⟩:=TB ops.toList Ws 0 j fr slot blk ops[j] htr (by simp[hlt]);rw[hj]at hW';injection hW' with hW'
  subst hW';exact⟨ops[j],by simp[hlt],hst.1⟩
 have fin:∀(listed:Array Bool) (a:Act) (w:World),listed.size=ops.size->Region.ready .any ops listed=[]->Holds S w0 g0 N n (qA (fun j=>listed.getD j false) 0 slot Ws) (qO (fun j=>listed.getD j false) 0 blk Ws) (fun l=>l < fr\/∃j,listed.getD j false=true/\fr+64*j<=l/\l < fr+64*j+64) a w->Q .normal a w:=by
  intro listed a w hsz hr h;have hall:=ready_nil hsz hd hr;rw[aep Ws 0 slot fun j hj=>by simpa using hall j au,ady Ws 0 blk fun j hj=>by simpa using hall j au]at h;obtain⟨g,hp,hrest⟩:=h;refine hQ a w ⟨g,hp.weaken ?_,hrest⟩;rintro l (hl | ⟨j,hj,h1,h2⟩)
  ·omega
  ·have:j < listed.size:=by
    by_cases hjl:j < listed.size
    ·exact hjl
    ·simp[Array.getD,hjl]at hj
   omega
 intro fuel;induction fuel with
 | zero=>
  intro listed a w hsz hcl hcnt h;have hr:Region.ready .any ops listed=[]:=by
   cases hx:Region.ready .any ops listed with
   | nil=>rfl
   | cons i rs=>
    exfalso;obtain⟨o,ho,hf,hlt,_⟩:=Tf hsz (show i∈Region.ready .any ops listed by rw[hx];simp);have hl:i < listed.size:=by omega
    have aIS:false∈listed.toList:=by
     have:listed[i]=false:=by simpa[Array.getD,hl]using hf
     rw[<-this];simp
    have:=List.count_pos_iff.2 aIS;omega
  exact⟨hr,fin listed a w hsz hr h⟩
 | succ fuel ih=>
  intro listed a w hsz hcl hcnt h;refine⟨fun hr=>fin listed a w hsz hr h,fun i hi=> ?_⟩;obtain⟨oi,hoi,hli,hilt,hed⟩:=Tf hsz hi;obtain⟨Wi,hWi,aBL,heI,hst⟩:=TB ops.toList Ws 0 i fr slot blk oi htr (by simpa using hoi);simp only[DU]at hst heI;have hil:i < listed.size:=by omega
  have order:∀j Wj oj,Ws[j]? =some Wj->ops[j]? =some oj->(j < i->wR ops 3 oi j=true)->(i < j->wR ops 3 oj i=true)->listed.getD j false=decide (j < i):=by
   intro j Wj oj hj hoj h1 h2;rcases Nat.lt_trichotomy j i with hji | rfl | hji
   ·rw[Jr hcl 3 oi j hed (h1 hji)];simp[hji]
   ·rw[hli];simp
   ·have hn:¬j < i:=by omega
    simp only[hn,decide_false];cases hb:listed.getD j false with
    | false=>rfl
    | true=>
     have:=Jr hcl 3 oj i (hcl j oj hoj hb) (h2 hji);rw[hli]at this;cases this
  have avJ:∀(j:Nat) (Wj:Wr D) (oj:Oper) (t:Nat),Ws[j]? =some Wj->ops[j]? =some oj->Wj.dst=some t->oj.dst=some t:=by
   intro j Wj oj t hj hoj hdst;obtain⟨o',ho',hst'⟩:=hWs j Wj hj;rw[hoj]at ho';injection ho' with ho'
   subst ho';rw[<-hst'];exact hdst
  have opAt:∀j Wj,Ws[j]? =some Wj->∃oj,ops[j]? =some oj:=fun j Wj hj=>by obtain⟨o',ho',_⟩:=hWs j Wj hj;exact⟨o',ho'⟩
  have agf:∀t∈oi.looksAt ops,qA (fun j=>decide (j < i)) 0 slot Ws t=qA (fun j=>listed.getD j false) 0 slot Ws t:=by
   intro t ht;refine Jt Ws 0 slot slot (fun j Wj hj hdst=> ?_) rfl;obtain⟨oj,hoj⟩:=opAt j Wj hj;have hdj:=avJ j Wj oj t hj hoj hdst;simp only[DU];refine(order j Wj oj hj hoj (fun hji=> ?_) (fun hij=> ?_)).symm
   ·rcases Em hd hji hoj hoi with hap | he
    ·exact absurd ht ((Oper.apart_spec hap).1 t hdj)
    ·exact aiU he 3
   ·rcases Em hd hij hoi hoj with hap | he
    ·exact absurd ht ((Oper.apart_spec hap).2.2 t hdj)
    ·exact aiU he 3
  have hrd:LG slot blk Ws ops i=dL (qA (fun j=>decide (j < i)) 0 slot Ws) (qO (fun j=>decide (j < i)) 0 blk Ws) oi.op:=by simp[LG,hoi]
  have hblk:∀l∈dL (qA (fun j=>decide (j < i)) 0 slot Ws) (qO (fun j=>decide (j < i)) 0 blk Ws) oi.op,qO (fun j=>decide (j < i)) 0 blk Ws l=qO (fun j=>listed.getD j false) 0 blk Ws l:=by
   intro l hl;refine Jl Ws 0 blk blk (fun j Wj hj hk=> ?_) rfl;obtain⟨oj,hoj⟩:=opAt j Wj hj;simp only[DU];exact(order j Wj oj hj hoj (fun hji=>hmem j i oi Wj Wi l hji hoi hj hWi (.inr ⟨by rw[hrd];exact hl,hk⟩)) (fun hij=>hmem i j oj Wi Wj l hij hoj hWi hj (.inl ⟨hk, .inl (by rw[hrd];exact hl)⟩))).symm
  have hst':=agn (bZ:=fun t=>if t∈oi.looksAt ops then aBL t else qA (fun j=>listed.getD j false) 0 slot Ws t) (fun t ht=>by simp only[ht,if_true]) (fun l hl=>hblk l (by rw[FD heI];exact hl)) hst;have heL:∀t,Alike (qA (fun j=>listed.getD j false) 0 slot Ws t) (if t∈oi.looksAt ops then aBL t else qA (fun j=>listed.getD j false) 0 slot Ws t):=by
   intro t;by_cases ht:t∈oi.looksAt ops
   ·rw[mi ht,<-agf t ht];exact heI t
   ·rw[lL ht];exact Alike.refl _
  refine TV hTy hΓ hS hoi (h.alike heL) ?_ hst' fun a' w' h'=> ?_
  ·rintro m hm1 hm2 (hlt | ⟨j,hj,he⟩)
   ·omega
   ·have:j=i:=by omega
    subst this;rw[hli]at hj;cases hj
  ·
   have h':=h'.alike (xU (W:=Wi) fun t=>(heL t).symm);have hget:∀j,(listed.setIfInBounds i true).getD j false=(if j=i then true else listed.getD j false):=by
    intro j;by_cases hji:j=i
    ·subst hji;simp[Array.getD,hil]
    ·simp only[hji,if_false,Array.getD];by_cases hjl:j < listed.size
     ·have hij:¬i=j:=fun e=>hji e.symm
      simp[hjl,hij]
     ·simp[hjl]
   have e1:Ar (qA (fun j=>listed.getD j false) 0 slot Ws) Wi=qA (fun j=>(listed.setIfInBounds i true).getD j false) 0 slot Ws:=by
    funext t;by_cases hdst:Wi.dst=some t
    ·rw[Gl hdst];refine(Y5 Ws 0 i slot Wi hWi (by simp[hget]) hdst fun j Wj hij hj hdj=> ?_).symm;obtain⟨oj,hoj⟩:=opAt j Wj hj;simp only[DU,hget,show j≠i by omega,if_false];have:=order j Wj oj hj hoj (fun h=>by omega) (fun _=>by
      rcases Em hd hij hoi hoj with hap | he
      ·exact absurd (avJ j Wj oj t hj hoj hdj) ((Oper.apart_spec hap).2.1 t (avJ i Wi oi t hWi hoi hdst))
      ·exact aiU he 3)
     rw[this];simp;omega
    ·rw[BD hdst];refine Jt Ws 0 slot slot (fun j Wj hj hdj=> ?_) rfl;have hji:j≠i:=by
      rintro rfl;rw[hWi]at hj;injection hj with hj
      subst hj;exact hdst hdj
     simp[hget,hji]
   have e2:AV (qO (fun j=>listed.getD j false) 0 blk Ws) Wi=qO (fun j=>(listed.setIfInBounds i true).getD j false) 0 blk Ws:=by
    funext t;by_cases hk:t∈Wi.keys
    ·refine(Yb Ws 0 i blk _ Wi hWi (by simp[hget]) hk fun j Wj hij hj hkj=> ?_).symm;obtain⟨oj,hoj⟩:=opAt j Wj hj;simp only[DU,hget,show j≠i by omega,if_false];have:=order j Wj oj hj hoj (fun h=>by omega) (fun _=>hmem i j oj Wi Wj t hij hoj hWi hj (.inl ⟨hkj, .inr hk⟩));rw[this];simp;omega
    ·rw[show AV (qO (fun j=>listed.getD j false) 0 blk Ws) Wi t=qO (fun j=>listed.getD j false) 0 blk Ws t from rU hk];refine Jl Ws 0 blk blk (fun j Wj hj hkj=> ?_) rfl;have hji:j≠i:=by
      rintro rfl;rw[hWi]at hj;injection hj with hj
      subst hj;exact hk hkj
     simp[hget,hji]
   rw[e1,e2]at h';refine ih _ a' w' (by simp[hsz]) ?_ ?_ ?_
   ·intro j o ho hj e he hb;rw[hget]at hj⊢;by_cases hji:j=i
    ·subst hji;rw[hoi]at ho;injection ho with ho
     subst ho;have:=hed e he hb;split<;>simp_all
    ·rw[lL hji]at hj;have:=hcl j o ho hj e he hb;split<;>simp_all
   ·have hx:listed.toList[i]'(by simpa using hil)=false:=by simpa[Array.getD,hil]using hli
    have hc:(listed.setIfInBounds i true).toList.count false=listed.toList.count false - 1:=by
     rw[Array.toList_setIfInBounds,List.count_set (by simpa using hil)];simp[hx]
    omega
   ·obtain⟨g,hp,hrest⟩:=h';refine⟨g,hp.weaken ?_,hrest⟩;rintro l ((hl | ⟨j,hj,hr⟩) | hr)
    ·exact .inl hl
    ·exact .inr ⟨j,by rw[hget];split<;>simp_all,hr⟩
    ·exact .inr ⟨i,by simp[hget],hr⟩
theorem afk {id:Nat}(hm:P.follows .mixedOrders=true)(hTy:∀t ty,T t=some ty->fP P t ty)(hΓ:∀f ct,Γ f=some ct->fV P S f ct)(hS:jf S)(hd:yP ops=true)(htr:Trace T S Γ ops n fr slot blk ops.toList Ws)(hmem:aqK slot blk Ws ops)
  (h:Holds S w0 g0 N n slot blk (· < fr) a w) (hQ:∀a w,Holds S w0 g0 N n (Du slot Ws) (Hz blk Ws) (· < fr+64*ops.size) a w->Q .normal a w):(Code.region id ops true).wp P Q a w:=by
 refine wp_region_any hm (ayt hTy hΓ hS hd htr hmem hQ ops.size _ a _ qa2 ?_ qa2 ?_)
 ·intro i o _ hi;exfalso;by_cases hlt:i < ops.size
  ·simp[Array.getD,hlt]at hi
  ·simp[Array.getD,hlt]at hi
 ·have hL:∀j,(Array.replicate ops.size false).getD j false=false:=by
   intro j;by_cases hlt:j < ops.size<;>simp[Array.getD,hlt]
  have e1:qA (fun j=>(Array.replicate ops.size false).getD j false) 0 slot Ws=slot:=by
   funext t;exact Gg _ _ _ fun j W _ _=>hL _
  have e2:qO (fun j=>(Array.replicate ops.size false).getD j false) 0 blk Ws=blk:=by
   funext t;exact GR _ _ _ fun j W _ _=>hL _
  rw[e1,e2];obtain⟨g,hp,hs,hn,hdf,hm0⟩:=h;have hB:Below w.heap.size w {w with drawn:=w.drawn+1}:=⟨rfl,rfl,rfl,l9 _,fun _ _=>rfl⟩;obtain⟨hp',hk⟩:=hp.grow hB;exact⟨g,hp'.weaken fun l hl=> .inl hl,fun t=>(hs t).keep hk (More.refl _),hn,hdf,hm0⟩
end
end Go.Vc
namespace Go.Vc
open Go.RowKit
structure Alg (τ:Type 1) where
 stuck:τ
 ob:DP->τ->τ
 br:Bool->τ->τ->τ
structure WN {τ:Type 1}(A:Alg τ)(den:τ->Prop):Prop where
 stuck:¬den A.stuck
 ob:∀{p k},den (A.ob p k)->p.p/\den k
 br:∀{b t e},den (A.br b t e)->(b=true->den t)/\(b=false->den e)
def Alg.opt {τ:Type 1}(A:Alg τ)(p:Option DP)(k:τ):τ:=
 match p with
 | none=>k
 | some p=>A.ob p k
theorem WN.opt {τ:Type 1}{A:Alg τ}{den:τ->Prop}(hA:WN A den){p:Option DP}{k:τ}(h:den (A.opt p k)):mF p/\den k:=by
 cases p with
 | none=>exact⟨trivial,h⟩
 | some p=>exact hA.ob h
def look {α:Type}(d:α):List (Nat×α)->Nat->α
 | [],_=>d
 | (k,v)::r,n=>if Nat.beq n k then v else look d r n
theorem xu {α:Type}(d:α)(k:Nat)(v:α)(r:List (Nat×α)):look d ((k,v)::r)=upd (look d r) k v:=by
 funext n;simp only[look,upd];by_cases h:n=k
 ·simp[h]
 ·have:¬(n.beq k=true):=fun e=>h (Qa e)
  simp[h,this]
theorem afr {α:Type}(d:α):∀(bs l:List (Nat×α)),look d (bs.reverse++l)=lg (look d l) bs
 | [],l=>rfl
 | (k,v)::bs,l=>by
  rw[List.reverse_cons,Oy,List.singleton_append,afr d bs,xu];rfl
structure St (D:Type) where
 tmps:List (Nat×Sl D)
 blks:List (Nat×Option (Bk D))
 next:Nat
def St.slot {D:Type}(s:St D):Nat->Sl D:=look (.one (.lf .any)) s.tmps
def St.blk {D:Type}(s:St D):Nat->Option (Bk D):=look none s.blks
def St.put {D:Type}(s:St D)(dst:Option Nat)(v:Sl D)(bs:List (Nat×Option (Bk D))):St D:=
 match dst with
 | some d=>⟨(d,v)::s.tmps,bs.reverse++s.blks,s.next⟩
 | none=>⟨s.tmps,bs.reverse++s.blks,s.next⟩
theorem AB {D:Type}(s:St D)(dst:Option Nat)(v:Sl D)(bs:List (Nat×Option (Bk D))):(s.put dst v bs).slot=Ar s.slot ⟨dst,v,bs⟩:=by
 cases dst with
 | none=>rfl
 | some d=>exact xu _ _ _ _
theorem Gv {D:Type}(s:St D)(dst:Option Nat)(v:Sl D)(bs:List (Nat×Option (Bk D))):(s.put dst v bs).blk=AV s.blk ⟨dst,v,bs⟩:=by
 cases dst<;>exact afr _ _ _
theorem xH {D:Type}(s:St D)(dst:Option Nat)(v:Sl D)(bs:List (Nat×Option (Bk D))):(s.put dst v bs).next=s.next:=by
 cases dst<;>rfl
theorem ame {D:Type}{s:St D}{dst:Option Nat}{v:Sl D}{bs pre x:List (Nat×Option (Bk D))}(h:x=pre++(s.put dst v bs).blks):∃pre',x=pre'++s.blks:=by
 cases dst<;>exact⟨pre++bs.reverse,by rw[h];simp[St.put]⟩
theorem Zu {D:Type}{s:St D}{dst:Option Nat}{v:Sl D}{bs:List (Nat×Option (Bk D))}{t:Nat}(h:dst≠some t):(s.put dst v bs).slot t=s.slot t:=by
 cases dst with
 | none=>rfl
 | some d=>
  show look _ _ t=look _ _ t
  rw[show(s.put (some d) v bs).tmps=(d,v)::s.tmps from rfl,xu];exact bP _ _ _ _ fun e=>h (by rw[e])
def meets (a b:List Nat):Bool:=a.any fun x=>b.any fun y=>Nat.beq x y
def ayK (ops:Array Oper)(acc:List (Nat×List Nat×List Nat))(o:Oper)(rb wb:List Nat):Bool:=
 acc.any fun p=>(meets wb p.2.1 || meets wb p.2.2 || meets rb p.2.2) && !wR ops 3 o p.1
def afn (n:Nat):Option Nat->Bool
 | none=>true
 | some d=>Nat.blt d n
section
variable {D:Type}{τ:Type 1}
def stepW (A:Alg τ)(ops:Array Oper)(draw:Bool)(o:Oper)(i:Nat)(acc:List (Nat×List Nat×List Nat))(s:St D)(out:Out D)(k:List (Nat×List Nat×List Nat)->St D->τ):τ:=
 match draw with
 | false=>A.opt out.pre (k acc (s.put o.dst out.val out.blks))
 | true=>
  if ayK ops acc o (dL s.slot s.blk o.op) (out.blks.map (·.1))then A.stuck
  else A.opt out.pre (k ((i,dL s.slot s.blk o.op,out.blks.map (·.1))::acc) (s.put o.dst out.val out.blks))
def Yl (A:Alg τ)(T:TypeId->Option Ty)(S:Sh D)(Γ:FuncId->Option (Ct D))(ops:Array Oper)(draw:Bool)(o:Oper)(i:Nat)(acc:List (Nat×List Nat×List Nat))(s:St D)(k:List (Nat×List Nat×List Nat)->St D->τ):τ:=
 match VN s.slot s.blk o.op with
 | some (b,o1,o2)=>A.br b (stepW A ops draw o i acc s o1 k) (stepW A ops draw o i acc s o2 k)
 | none=>
  match anM T S Γ s.slot s.blk (s.next+64*i) o.op with
  | none=>A.stuck
  | some out=>stepW A ops draw o i acc s out k
def XZ (A:Alg τ)(ops:Array Oper)(draw:Bool)(o:Oper)(i:Nat)(acc:List (Nat×List Nat×List Nat))(s:St D)(k:List (Nat×List Nat×List Nat)->St D->τ):τ:=
 match draw with
 | false=>k acc (s.put o.dst (.one (.lf (.val undef))) [])
 | true=>
  if ayK ops acc o (dL s.slot s.blk o.op) []then A.stuck
  else k ((i,dL s.slot s.blk o.op,[])::acc) (s.put o.dst (.one (.lf (.val undef))) [])
def oK (A:Alg τ)(T:TypeId->Option Ty)(S:Sh D)(Γ:FuncId->Option (Ct D))(ops:Array Oper)(n:Nat)(draw:Bool):List Oper->Nat->List (Nat×List Nat×List Nat)->St D->(St D->τ)->τ
 | [],i,_,s,K=>K ⟨s.tmps,s.blks,s.next+64*i⟩
 | o::r,i,acc,s,K=>
  match afn n o.dst with
  | false=>A.stuck
  | true=>
   match o.guard with
   | none=>Yl A T S Γ ops draw o i acc s fun acc s=>oK A T S Γ ops n draw r (i+1) acc s K
   | some (j,want)=>
    match(ops[j]?).bind (·.dst)with
    | none=>A.stuck
    | some d=>
     match s.slot d with
     | .one (.lf (.bool b))=>
      match want with
      | true=>A.br b (Yl A T S Γ ops draw o i acc ⟨(d, .one (.lf (.val (.bool true))))::s.tmps,s.blks,s.next⟩ fun acc s=>oK A T S Γ ops n draw r (i+1) acc s K)
        (XZ A ops draw o i acc ⟨(d, .one (.lf (.val (.bool false))))::s.tmps,s.blks,s.next⟩ fun acc s=>oK A T S Γ ops n draw r (i+1) acc s K)
      | false=>A.br b (XZ A ops draw o i acc ⟨(d, .one (.lf (.val (.bool true))))::s.tmps,s.blks,s.next⟩ fun acc s=>oK A T S Γ ops n draw r (i+1) acc s K)
        (Yl A T S Γ ops draw o i acc ⟨(d, .one (.lf (.val (.bool false))))::s.tmps,s.blks,s.next⟩ fun acc s=>oK A T S Γ ops n draw r (i+1) acc s K)
     | .one (.lf (.val (.bool b)))=>
      match b==want with
      | true=>Yl A T S Γ ops draw o i acc s fun acc s=>oK A T S Γ ops n draw r (i+1) acc s K
      | false=>XZ A ops draw o i acc s fun acc s=>oK A T S Γ ops n draw r (i+1) acc s K
     | .one (.lf (.val v))=>
      match Rt v with
      | true=>XZ A ops draw o i acc s fun acc s=>oK A T S Γ ops n draw r (i+1) acc s K
      | false=>A.stuck
     | _=>A.stuck
end
section
variable {D:Type}{P:Program}{S:Sh D}{T:TypeId->Option Ty}{Γ:FuncId->Option (Ct D)}{N:Nat->Prop}{w w':World}{w0:Bs}{n:Nat}{ops:Array Oper}{τ:Type 1}{A:Alg τ}{den:τ->Prop}
def YO (p:List Nat×List Nat)(rb wb:List Nat):Prop:=∃l,(l∈wb/\(l∈p.1\/l∈p.2))\/(l∈rb/\l∈p.2)
theorem VH {a b:List Nat}{l:Nat}(ha:l∈a)(hb:l∈b):meets a b=true:=by
 simp only[meets,Qct];exact⟨l,ha,l,hb,by simp⟩
theorem alk {acc:List (Nat×List Nat×List Nat)}{o:Oper}{rb wb:List Nat}(h:¬ayK ops acc o rb wb=true):∀p∈acc,YO p.2 rb wb->wR ops 3 o p.1=true:=by
 intro p hp ⟨l,hc⟩;cases he:wR ops 3 o p.1 with
 | true=>rfl
 | false=>
  exfalso;apply h;simp only[ayK,Qct,jR,Qbx];refine⟨p,hp,?_,by simp[he]⟩;rcases hc with⟨hw,h1 | h2⟩ | ⟨hr,h2⟩
  ·exact .inl (.inl (VH hw h1))
  ·exact .inl (.inr (VH hw h2))
  ·exact .inr (VH hr h2)
def ag9 (ops:Array Oper):List (Nat×List Nat×List Nat)->Nat->(Nat->Sl D)->(Nat->Option (Bk D))->List Oper->List (Wr D)->Prop
 | _,_,_,_,[],_=>True
 | _,_,_,_,_::_,[]=>True
 | acc,i,slot,blk,o::r,W::Ws=>(∀p∈acc,YO p.2 (dL slot blk o.op) W.keys->wR ops 3 o p.1=true)/\ag9 ops ((i,dL slot blk o.op,W.keys)::acc) (i+1) (Ar slot W) (AV blk W) r Ws
def HY (den:τ->Prop)(T:TypeId->Option Ty)(S:Sh D)(Γ:FuncId->Option (Ct D))(ops:Array Oper)(n:Nat)(draw:Bool)(l:List Oper)(i:Nat)(acc:List (Nat×List Nat×List Nat))(s:St D)(K:St D->τ):Prop:=
 ∃Ws s',Trace T S Γ ops n (s.next+64*i) s.slot s.blk l Ws/\(∀t,Alike (Du s.slot Ws t) (s'.slot t))/\s'.blk=Hz s.blk Ws/\s'.next=s.next+64*(i+l.length)/\den (K s')/\(draw=true->ag9 ops acc i s.slot s.blk l Ws)/\
  (∃pre,s'.blks=pre++s.blks)/\∀t,(∀o∈ops.toList,o.dst≠some t)->(∀o∈l,o.dst≠some t)->s'.slot t=s.slot t
theorem PG:∀(l:List Oper) (Ws:List (Wr D)) (fr:Nat) (slot bZ:Nat->Sl D) (blk:Nat->Option (Bk D)),(∀t,Alike (slot t) (bZ t))->Trace T S Γ ops n fr slot blk l Ws->Trace T S Γ ops n fr bZ blk l Ws
 | [],[],_,_,_,_,_,_=>trivial
 | [],_::_,_,_,_,_,_,h=>by simp[Trace]at h
 | _::_,[],_,_,_,_,_,h=>by simp[Trace]at h
 | o::l,W::Ws,fr,slot,bZ,blk,he,⟨⟨s1,h1,hst⟩,hr⟩=>⟨⟨s1,fun t=>(he t).symm.trans (h1 t),hst⟩,PG l Ws (fr+64) _ _ _ (xU he) hr⟩
theorem Pq:∀(Ws:List (Wr D)) (slot bZ:Nat->Sl D),(∀t,Alike (slot t) (bZ t))->∀t,Alike (Du slot Ws t) (Du bZ Ws t)
 | [],_,_,h,t=>h t
 | W::Ws,_,_,h,t=>Pq Ws _ _ (xU h) t
theorem V4:∀(l:List Oper) (Ws:List (Wr D)) (acc:List (Nat×List Nat×List Nat)) (i:Nat) (slot bZ:Nat->Sl D) (blk:Nat->Option (Bk D)),(∀t,Alike (slot t) (bZ t))->ag9 ops acc i slot blk l Ws->ag9 ops acc i bZ blk l Ws
 | [],_,_,_,_,_,_,_,_=>trivial
 | _::_,[],_,_,_,_,_,_,_=>trivial
 | o::l,W::Ws,acc,i,slot,bZ,blk,he,h=>by
  have e:=FD (op:=o.op) (blk:=blk) he;simp only[ag9]at h⊢;rw[e]at h;exact⟨h.1,V4 l Ws _ _ _ _ _ (xU he) h.2⟩
theorem zB {draw:Bool}{o:Oper}{r:List Oper}{i:Nat}{acc:List (Nat×List Nat×List Nat)}{s:St D}{K:St D->τ}(hA:WN A den)(hd:afn n o.dst=true)(hw:Wanted ops s.slot o true)
  (ih:∀acc s,den (oK A T S Γ ops n draw r (i+1) acc s K)->HY den T S Γ ops n draw r (i+1) acc s K)
  (h:den (Yl A T S Γ ops draw o i acc s fun acc s=>oK A T S Γ ops n draw r (i+1) acc s K)):HY den T S Γ ops n draw (o::r) i acc s K:=by
 have hlt:∀d,o.dst=some d->d < n:=fun d e=>by rw[e]at hd;simpa[afn,Hu]using hd
 have each:∀out,Does T S Γ s.slot s.blk (s.next+64*i) o.op out->den (stepW A ops draw o i acc s out fun acc s=>oK A T S Γ ops n draw r (i+1) acc s K)->HY den T S Γ ops n draw (o::r) i acc s K:=by
  intro out hx h;have go:∀acc',mF out.pre->den (oK A T S Γ ops n draw r (i+1) acc' (s.put o.dst out.val out.blks) K)->(draw=true->acc'=(i,dL s.slot s.blk o.op,out.blks.map (·.1))::acc/\∀p∈acc,YO p.2 (dL s.slot s.blk o.op) (out.blks.map (·.1))->wR ops 3 o p.1=true)->HY den T S Γ ops n draw (o::r) i acc s K:=by
   intro acc' hp hr hacc;obtain⟨Ws,s',htr,h1,h2,h3,h4,h5,⟨pre,h6⟩,h7⟩:=ih acc' _ hr;rw[AB,Gv,xH]at htr;rw[AB]at h1;rw[Gv]at h2;rw[xH]at h3;rw[AB,Gv]at h5;refine⟨⟨o.dst,out.val,out.blks⟩::Ws,s',⟨⟨s.slot,fun _=>Alike.refl _,rfl,hlt, .inl ⟨hw,out,hx,hp,rfl,rfl⟩⟩,?_⟩,h1,h2,by rw[h3];simp;omega,h4,fun hdr=> ?_,?_,fun t q1 q2=> ?_⟩
   ·rw[show s.next+64*i+64=s.next+64*(i+1) by omega];exact htr
   ·obtain⟨e,hc⟩:=hacc hdr;subst e;exact⟨hc,h5 hdr⟩
   ·exact ame h6
   ·rw[h7 t q1 fun o' ho'=>q2 o' (by simp[ho'])];exact Zu (q2 o qa2)
  unfold stepW at h;split at h
  ·obtain⟨hp,hr⟩:=hA.opt h;exact go acc hp hr (fun e=>by cases e)
  ·split at h
   ·exact(hA.stuck h).elim
   ·rename_i hb;obtain⟨hp,hr⟩:=hA.opt h;exact go _ hp hr (fun _=>⟨rfl,alk hb⟩)
 unfold Yl at h;split at h
 ·rename_i b o1 o2 hn;obtain⟨h1,h2⟩:=hA.br h;cases hb:b with
  | true=>exact each o1 (.inr ⟨b,o1,o2,hn,by rw[hb];rfl⟩) (h1 hb)
  | false=>exact each o2 (.inr ⟨b,o1,o2,hn,by rw[hb];rfl⟩) (h2 hb)
 ·split at h
  ·exact(hA.stuck h).elim
  ·rename_i out hx;exact each out (.inl hx) h
theorem zA {draw:Bool}{o:Oper}{r:List Oper}{i:Nat}{acc:List (Nat×List Nat×List Nat)}{s:St D}{K:St D->τ}(hA:WN A den)(hd:afn n o.dst=true)(hw:Wanted ops s.slot o false)
  (ih:∀acc s,den (oK A T S Γ ops n draw r (i+1) acc s K)->HY den T S Γ ops n draw r (i+1) acc s K)
  (h:den (XZ A ops draw o i acc s fun acc s=>oK A T S Γ ops n draw r (i+1) acc s K)):HY den T S Γ ops n draw (o::r) i acc s K:=by
 have hlt:∀d,o.dst=some d->d < n:=fun d e=>by rw[e]at hd;simpa[afn,Hu]using hd
 have go:∀acc',den (oK A T S Γ ops n draw r (i+1) acc' (s.put o.dst (.one (.lf (.val undef))) []) K)->(draw=true->acc'=(i,dL s.slot s.blk o.op,[])::acc/\∀p∈acc,YO p.2 (dL s.slot s.blk o.op) []->wR ops 3 o p.1=true)->HY den T S Γ ops n draw (o::r) i acc s K:=by
  intro acc' hr hacc;obtain⟨Ws,s',htr,h1,h2,h3,h4,h5,⟨pre,h6⟩,h7⟩:=ih acc' _ hr;rw[AB,Gv,xH]at htr;rw[AB]at h1;rw[Gv]at h2;rw[xH]at h3;rw[AB,Gv]at h5;refine⟨⟨o.dst, .one (.lf (.val undef)),[]⟩::Ws,s',⟨⟨s.slot,fun _=>Alike.refl _,rfl,hlt, .inr ⟨hw,rfl,rfl⟩⟩,?_⟩,h1,h2,by rw[h3];simp;omega,h4,fun hdr=> ?_,?_,fun t q1 q2=> ?_⟩
  ·rw[show s.next+64*i+64=s.next+64*(i+1) by omega];exact htr
  ·obtain⟨e,hc⟩:=hacc hdr;subst e;exact⟨hc,h5 hdr⟩
  ·exact ame h6
  ·rw[h7 t q1 fun o' ho'=>q2 o' (by simp[ho'])];exact Zu (q2 o qa2)
 unfold XZ at h;split at h
 ·exact go acc h (fun e=>by cases e)
 ·split at h
  ·exact(hA.stuck h).elim
  ·rename_i hb;exact go _ h (fun _=>⟨rfl,alk hb⟩)
theorem ZL (hA:WN A den){draw:Bool}{K:St D->τ}:∀(l:List Oper) (i:Nat) (acc:List (Nat×List Nat×List Nat)) (s:St D),den (oK A T S Γ ops n draw l i acc s K)->HY den T S Γ ops n draw l i acc s K
 | [],i,acc,s,h=>⟨[],⟨s.tmps,s.blks,s.next+64*i⟩,trivial,fun _=>Alike.refl _,rfl,rfl,h,fun _=>trivial,⟨[],rfl⟩,fun _ _ _=>rfl⟩
 | o::r,i,acc,s,h=>by
  have ih:=fun acc s=>ZL hA (draw:=draw) (K:=K) r (i+1) acc s
  unfold oK at h;split at h
  ·exact(hA.stuck h).elim
  ·rename_i hd;split at h
   ·rename_i hg;exact zB hA hd (by simp[Wanted,hg]) ih h
   ·rename_i j want hg;split at h
    ·exact(hA.stuck h).elim
    ·rename_i d hj;split at h
     ·rename_i b hb;have same:∀c:Bool,b=c->∀t,Alike ((⟨(d, .one (.lf (.val (.bool c))))::s.tmps,s.blks,s.next⟩:St D).slot t) (s.slot t):=by
       rintro c rfl t;show Alike (look _ _ t) _
       rw[xu];by_cases ht:t=d
       ·subst ht;rw[upd_same,hb];exact .inr ⟨b,rfl,rfl⟩
       ·rw[bP _ _ _ _ ht];exact Alike.refl _
      have lift:∀c:Bool,b=c->HY den T S Γ ops n draw (o::r) i acc (⟨(d, .one (.lf (.val (.bool c))))::s.tmps,s.blks,s.next⟩:St D) K->HY den T S Γ ops n draw (o::r) i acc s K:=by
       rintro c hc ⟨Ws,s',h1,h2,h3,h4,h5,h6,h7,h8⟩;refine⟨Ws,s',PG _ _ _ _ _ _ (same c hc) h1,fun t=>(Pq Ws _ _ (same c hc) t).symm.trans (h2 t),h3,h4,h5,fun hd=>V4 _ _ _ _ _ _ _ (same c hc) (h6 hd),h7,fun t q1 q2=>(h8 t q1 q2).trans ?_⟩;show look _ _ t=look _ _ t
       rw[xu];refine bP _ _ _ _ fun e=> ?_;subst e;cases hoj:ops[j]? with
       | none=>rw[hoj]at hj;cases hj
       | some oj=>
        rw[hoj]at hj;exact q1 oj (by have:=Qea hoj;simpa using this) hj
      have wt:∀c:Bool,b=c->Wanted ops (⟨(d, .one (.lf (.val (.bool c))))::s.tmps,s.blks,s.next⟩:St D).slot o (c==want):=by
       intro c hc;simp only[Wanted,hg];refine⟨d,hj, .inl ⟨c,?_,rfl⟩⟩;show bOf (look _ _ d)=_
       rw[xu,upd_same];rfl
      cases want with
      | true=>
       obtain⟨ht,he⟩:=hA.br h;cases hbv:b with
       | true=>exact lift true hbv (zB hA hd (wt true hbv) ih (ht hbv))
       | false=>exact lift false hbv (zA hA hd (wt false hbv) ih (he hbv))
      | false=>
       obtain⟨ht,he⟩:=hA.br h;cases hbv:b with
       | true=>exact lift true hbv (zA hA hd (wt true hbv) ih (ht hbv))
       | false=>exact lift false hbv (zB hA hd (wt false hbv) ih (he hbv))
     ·rename_i b hb;have wt:Wanted ops s.slot o (b==want):=by
       simp only[Wanted,hg];exact⟨d,hj, .inl ⟨b,by rw[hb];rfl,rfl⟩⟩
      split at h
      ·rename_i he;rw[he]at wt;exact zB hA hd wt ih h
      ·rename_i he;rw[he]at wt;exact zA hA hd wt ih h
     ·rename_i v _ hv;split at h
      ·rename_i hn;exact zA hA hd (by simp only[Wanted,hg];exact⟨d,hj, .inr ⟨v,hv,hn,trivial⟩⟩) ih h
      ·exact(hA.stuck h).elim
     ·exact(hA.stuck h).elim
theorem arp:∀(l:List Oper) (Ws:List (Wr D)) (acc:List (Nat×List Nat×List Nat)) (b:Nat) (slot:Nat->Sl D) (blk:Nat->Option (Bk D)),ag9 ops acc b slot blk l Ws->
  ∀j oj Wj,l[j]? =some oj->Ws[j]? =some Wj->(∀p∈acc,YO p.2 (dL (qA (fun k=>decide (k < b+j)) b slot Ws) (qO (fun k=>decide (k < b+j)) b blk Ws) oj.op) Wj.keys->wR ops 3 oj p.1=true)/\
   ∀i oi Wi,i < j->l[i]? =some oi->Ws[i]? =some Wi->YO (dL (qA (fun k=>decide (k < b+i)) b slot Ws) (qO (fun k=>decide (k < b+i)) b blk Ws) oi.op,Wi.keys) (dL (qA (fun k=>decide (k < b+j)) b slot Ws) (qO (fun k=>decide (k < b+j)) b blk Ws) oj.op) Wj.keys->wR ops 3 oj (b+i)=true
 | [],_,_,_,_,_,_,j,oj,Wj,hj,_=>by simp at hj
 | _::_,[],_,_,_,_,_,j,oj,Wj,_,hW=>by simp at hW
 | o::r,W::Ws,acc,b,slot,blk,h,j,oj,Wj,hj,hW=>by
  have e0:qA (fun k=>decide (k < b+0)) b slot (W::Ws)=slot:=by
   funext t;exact Gg _ _ _ fun j W' _ _=>by simp
  have f0:qO (fun k=>decide (k < b+0)) b blk (W::Ws)=blk:=by
   funext t;exact GR _ _ _ fun j W' _ _=>by simp
  have es:∀j,qA (fun k=>decide (k < b+(j+1))) b slot (W::Ws)=qA (fun k=>decide (k < b+1+j)) (b+1) (Ar slot W) Ws:=by
   intro j;have hb:decide (b < b+(j+1))=true:=by simp
   simp only[qA,hb,if_true];rw[show b+(j+1)=b+1+j by omega]
  have fs:∀j,qO (fun k=>decide (k < b+(j+1))) b blk (W::Ws)=qO (fun k=>decide (k < b+1+j)) (b+1) (AV blk W) Ws:=by
   intro j;have hb:decide (b < b+(j+1))=true:=by simp
   simp only[qO,hb,if_true];rw[show b+(j+1)=b+1+j by omega]
  cases j with
  | zero=>
   simp only[Qcl,Nb]at hj hW;subst hj hW;rw[e0,f0];exact⟨h.1,fun i _ _ hi=>by omega⟩
  | succ j=>
   obtain⟨h1,h2⟩:=arp r Ws _ (b+1) _ _ h.2 j oj Wj qb4 (by simpa using hW);rw[es j,fs j];refine⟨fun p hp=>h1 p (by simp[hp]),fun i oi Wi hij hi hWi hc=> ?_⟩;cases i with
   | zero=>
    simp only[Qcl,Nb]at hi hWi;subst hi hWi;rw[e0,f0]at hc;exact h1 (b,dL slot blk o.op,W.keys) qa2 hc
   | succ i=>
    rw[es i,fs i]at hc;have:=h2 i oi Wi au qcl (by simpa using hWi) hc;rwa [show b+1+i=b+(i+1) by omega]at this
theorem ahz {slot:Nat->Sl D}{blk:Nat->Option (Bk D)}{Ws:List (Wr D)}(h:ag9 ops [] 0 slot blk ops.toList Ws):aqK slot blk Ws ops:=by
 intro i j oj Wi Wj l hij hoj hWi hWj hc;obtain⟨_,h2⟩:=arp ops.toList Ws [] 0 slot blk h j oj Wj (by simpa using hoj) hWj;by_cases hi:i < ops.size
 ·have hoi:ops[i]? =some ops[i]:=by simp[hi]
  have:=h2 i ops[i] Wi hij (by simp[hi]) hWi;simp only[DU]at this;refine this ⟨l,?_⟩;simpa[LG,hoi,hoj]using hc
 ·have hj:j < ops.size:=(Qco.1 hoj).1;omega
end
end Go.Vc
