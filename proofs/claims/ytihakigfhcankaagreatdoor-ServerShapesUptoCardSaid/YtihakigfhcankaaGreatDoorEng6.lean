/- Own engine: Vd8, Vd9, Vda, Vdb. -/
import Derived.Test.YtihakigfhcankaaGreatDoorEng5
set_option linter.unusedVariables false
set_option linter.unusedSimpArgs false
namespace Go.Vc
open Go.RowKit
def QZ:Value->Bool
 | .bool _=>false
 | _=>true
structure Wr (D:Type) where
 dst:Option Nat
 val:Sl D
 blks:List (Nat×Option (Bk D))
def zC {D:Type}(slot:Nat->Sl D)(W:Wr D):Nat->Sl D:=
 match W.dst with
 | some d=>upd slot d W.val
 | none=>slot
def zM {D:Type}(blk:Nat->Option (Bk D))(W:Wr D):Nat->Option (Bk D):=lG blk W.blks
def Wanted {D:Type}(ops:Array Oper)(slot:Nat->Sl D)(o:Oper)(r:Bool):Prop:=
 match o.guard with
 | none=>r=true
 | some (j,want)=>∃d,(ops[j]?).bind (·.dst)=some d/\((∃b,bOf (slot d)=some b/\r=(b==want))\/(∃v,slot d= .one (.lf (.val v))/\QZ v=true/\r=false))
def TA {D:Type}(T:TypeId->Option Ty)(S:Sh D)(Γ:FuncId->Option (Ct D))(ops:Array Oper)(n fr:Nat)(slot:Nat->Sl D)(blk:Nat->Option (Bk D))(o:Oper)(W:Wr D):Prop:=
 W.dst=o.dst/\(∀d,o.dst=some d->d < n)/\
 (
   (Wanted ops slot o true/\∃out,Does T S Γ slot blk fr o.op out/\lZ out.pre/\W.val=out.val/\W.blks=out.blks)\/
   (Wanted ops slot o false/\W.val= .one (.lf (.val undef))/\W.blks=[]))
def Holds {D:Type}(S:Sh D)(w0:Bs)(g0:Nat->Option Value)(N:Nat->Prop)(n:Nat)(slot:Nat->Sl D)(blk:Nat->Option (Bk D))(al:Nat->Prop)(a:Act)(w:World):Prop:=
 ∃g,Hp S w0 N blk g al w/\(∀t,(slot t).Rel S (aW N blk g) w g (a.tmps.getD t undef))/\a.tmps.size=n/\a.defers=[]/\More g0 g
section
variable {D:Type}{P:Program}{S:Sh D}{T:TypeId->Option Ty}{Γ:FuncId->Option (Ct D)}{N:Nat->Prop}{w w':World}{w0:Bs}{g0:Nat->Option Value}{blk:Nat->Option (Bk D)}{al:Nat->Prop}
 {a:Act} {o:Oper} {K:Act->World->Prop} {Q:Exit->Act->World->Prop} {slot:Nat->Sl D} {fr n:Nat} {ops:Array Oper} {W:Wr D}
theorem at6 {d:Option Tmp}{v:Value}{t:Nat}(hd:∀x,d=some x->x < a.tmps.size):(a.put d v).tmps.getD t undef=if d=some t then v else a.tmps.getD t undef:=by
 cases d with
 | none=>simp[Act.put]
 | some d=>
  have:=hd d rfl;simp only[Act.put];by_cases h:d=t
  ·subst h;simp[Array.getD,this]
  ·rw[qC qbq];simp only[Array.getD];by_cases ht:t < a.tmps.size
   ·simp[ht,h]
   ·simp[ht]
theorem Oj {g:Nat->Option Value}{M:Nat->Prop}{r:Bool}(hs:∀t,(slot t).Rel S M w g (a.tmps.getD t undef))(h:Wanted ops slot o r):Region.wanted o (yielded ops a.tmps)=r:=by
 unfold Wanted at h;unfold Region.wanted;split at h
 ·rename_i hg;simp only[hg];exact h.symm
 ·rename_i j want hg;simp only[hg];obtain⟨d,hd,h⟩:=h;have hy:∀v,a.tmps.getD d undef=v->QZ v=true->yielded ops a.tmps j=none:=by
   intro v hv hn;simp only[yielded,hd,Option.bind_some];by_cases hlt:d < a.tmps.size
   ·simp only[Array.getD,hlt,dif_pos]at hv;simp only[Qdo hlt];have:a.tmps[d]=v:=hv;rw[this];cases v<;>first | rfl | simp[QZ]at hn
   ·simp[hlt]
  rcases h with⟨b,hb,rfl⟩ | ⟨v,hv,hn,rfl⟩
  ·have:=hs d;have this:=FM hb this;have hy2:yielded ops a.tmps j=some b:=by
    simp only[yielded,hd,Option.bind_some];by_cases hlt:d < a.tmps.size
    ·simp only[Array.getD,hlt,dif_pos]at this;simp only[Qdo hlt];have h2:a.tmps[d]= .bool b:=this;rw[h2]
    ·simp[Array.getD,hlt,undef]at this
   rw[hy2];cases b<;>cases want<;>rfl
  ·have:=hs d;rw[hv]at this;simp only[Sl.Rel,Sv.Rel,Lf.Rel]at this;rw[hy v this hn];rfl
def Alike (x y:Sl D):Prop:=x=y\/∃b,bOf x=some b/\bOf y=some b
theorem Alike.refl (x:Sl D):Alike x x:= .inl rfl
theorem Alike.symm {x y:Sl D}(h:Alike x y):Alike y x:=by
 rcases h with rfl | ⟨b,h1,h2⟩
 ·exact .inl rfl
 ·exact .inr ⟨b,h2,h1⟩
theorem Alike.trans {x y z:Sl D}(h:Alike x y)(k:Alike y z):Alike x z:=by
 rcases h with rfl | ⟨b,h1,h2⟩
 ·exact k
 ·rcases k with rfl | ⟨c,h3,h4⟩
  ·exact .inr ⟨b,h1,h2⟩
  ·rw[h2]at h3;injection h3 with h3
   subst h3;exact .inr ⟨b,h1,h4⟩
theorem aCn {M:Nat->Prop}{g:Nat->Option Value}{x:Sl D}{b:Bool}(h:bOf x=some b):x.Rel S M w g (.bool b):=by
 unfold bOf at h;split at h
 ·injection h with h;subst h;rfl
 ·injection h with h;subst h;rfl
 ·cases h
theorem Alike.rel {M:Nat->Prop}{g:Nat->Option Value}{x y:Sl D}{v:Value}(h:Alike x y)(hr:x.Rel S M w g v):y.Rel S M w g v:=by
 rcases h with rfl | ⟨b,h1,h2⟩
 ·exact hr
 ·rw[FM h1 hr];exact aCn h2
theorem Holds.alike {bW:Nat->Sl D}(h:Holds S w0 g0 N n slot blk al a w)(he:∀t,Alike (slot t) (bW t)):Holds S w0 g0 N n bW blk al a w:=by
 obtain⟨g,hp,hs,hr⟩:=h;exact⟨g,hp,fun t=>(he t).rel (hs t),hr⟩
theorem wM {bW:Nat->Sl D}(he:∀t,Alike (slot t) (bW t))(t:Nat):Alike (zC slot W t) (zC bW W t):=by
 unfold zC;cases W.dst with
 | none=>exact he t
 | some d=>
  by_cases ht:t=d
  ·subst ht;show Alike (upd slot t W.val t) (upd bW t W.val t)
   rw[upd_same,upd_same];exact Alike.refl _
  ·show Alike (upd slot d W.val t) (upd bW d W.val t)
   rw[bK _ _ _ _ ht,bK _ _ _ _ ht];exact he t
theorem Un {i:Nat}(hTy:∀t ty,T t=some ty->fU P t ty)(hΓ:∀f ct,Γ f=some ct->fV P S f ct)(hS:jd S)(ho:ops[i]? =some o)(h:Holds S w0 g0 N n slot blk al a w)(hfr:∀n,fr<=n->n < fr+64->¬al n)
  (hst:TA T S Γ ops n fr slot blk o W) (hK:∀a' w',Holds S w0 g0 N n (zC slot W) (zM blk W) (fun l=>al l\/(fr<=l/\l < fr+64)) a' w'->K a' w'):wpOp P ops Q i K a w:=by
 obtain⟨g,hp,hs,hn,hdf,hm0⟩:=h;obtain⟨hdst,hlt,hst⟩:=hst;have fin:∀v w' g',More g g'->Keeps (aW N blk g) w (aW N (zM blk W) g') w'->Hp S w0 N (zM blk W) g' (fun l=>al l\/(fr<=l/\l < fr+64)) w'->W.val.Rel S (aW N (zM blk W) g') w' g' v->K (a.put o.dst v) w':=by
  intro v w' g' hm hk hp' hv;have hsz:∀x,o.dst=some x->x < a.tmps.size:=fun x hx=>by rw[hn];exact hlt x hx
  refine hK _ _ ⟨g',hp',fun t=> ?_,?_,?_,fun l v h=>hm l v (hm0 l v h)⟩
  ·rw[at6 hsz];by_cases hd:o.dst=some t
   ·rw[Qb hd];simp only[zC,hdst,hd,upd_same];exact hv
   ·rw[qC hd];have:zC slot W t=slot t:=by
     unfold zC;rw[hdst];cases he:o.dst with
     | none=>rfl
     | some d=>exact bK _ _ _ _ (fun e=>hd (by rw[he,e]))
    rw[this];exact(hs t).keep hk hm
  ·cases hd:o.dst<;>simp[Act.put,hn]
  ·cases hd:o.dst<;>simp[Act.put,hdf]
 unfold wpOp;simp only[ho];rcases hst with⟨hw,out,hx,hpre,hv,hb⟩ | ⟨hw,hv,hb⟩
 ·rw[Oj hs hw,Qb rfl];refine .inl (af2 hTy hΓ hS hp hfr hs hx hpre ?_);intro v w' g' hm hk hp' hr;refine fin v w' g' hm ?_ ?_ ?_
  ·simpa[zM,hb]using hk
  ·simpa[zM,hb]using hp'
  ·simpa[zM,hb,hv]using hr
 ·rw[Oj hs hw];have hb':zM blk W=blk:=by simp[zM,hb,lG]
  refine fin undef w g (More.refl _) (by rw[hb'];exact Keeps.refl _ _) (by rw[hb'];exact hp.weaken fun _ h=> .inl h) (by rw[hv];rfl)
def Trace (T:TypeId->Option Ty)(S:Sh D)(Γ:FuncId->Option (Ct D))(ops:Array Oper)(n:Nat):Nat->(Nat->Sl D)->(Nat->Option (Bk D))->List Oper->List (Wr D)->Prop
 | _,_,_,[],[]=>True
 | fr,slot,blk,o::r,W::Ws=>(∃bW,(∀t,Alike (slot t) (bW t))/\TA T S Γ ops n fr bW blk o W)/\Trace T S Γ ops n (fr+64) (zC slot W) (zM blk W) r Ws
 | _,_,_,_,_=>False
def BX:(Nat->Sl D)->List (Wr D)->(Nat->Sl D)
 | slot,[]=>slot
 | slot,W::Ws=>BX (zC slot W) Ws
def FX:(Nat->Option (Bk D))->List (Wr D)->(Nat->Option (Bk D))
 | blk,[]=>blk
 | blk,W::Ws=>FX (zM blk W) Ws
theorem adf (hTy:∀t ty,T t=some ty->fU P t ty)(hΓ:∀f ct,Γ f=some ct->fV P S f ct)(hS:jd S):
  ∀(l:List Oper) (Ws:List (Wr D)) (i fr:Nat) (slot:Nat->Sl D) (blk:Nat->Option (Bk D)) (a:Act) (w:World),(∀j,l[j]? =ops[i+j]?)->Trace T S Γ ops n fr slot blk l Ws->Holds S w0 g0 N n slot blk (· < fr) a w->
   (∀a' w',Holds S w0 g0 N n (BX slot Ws) (FX blk Ws) (· < fr+64*l.length) a' w'->Q .normal a' w')->wpOps P ops Q (List.range' i l.length) a w
 | [],[],i,fr,slot,blk,a,w,_,_,h,hQ=>by simpa[wpOps]using hQ a w (by simpa[BX,FX]using h)
 | [],_::_,_,_,_,_,_,_,_,ht,_,_=>by simp[Trace]at ht
 | _::_,[],_,_,_,_,_,_,_,ht,_,_=>by simp[Trace]at ht
 | o::l,W::Ws,i,fr,slot,blk,a,w,hl,ht,h,hQ=>by
  rw[xH,List.range'_succ,wpOps_cons];have h0:ops[i]? =some o:=by simpa using(hl 0).symm
  obtain⟨⟨bW,he,hst⟩,ht2⟩:=ht;refine Un hTy hΓ hS h0 (h.alike he) au hst fun a' w' h'=> ?_;obtain⟨g,hp,hrest⟩:=h'.alike (wM fun t=>(he t).symm);refine adf hTy hΓ hS l Ws (i+1) (fr+64) _ _ a' w' (fun j=>by have:=hl (j+1);simpa[Qc4,Qdm 1 j]using this) ht2 ⟨g,hp.weaken fun l hl=>by omega,hrest⟩ fun a'' w'' h''=>hQ a'' w'' ?_;have e:fr+64*(l.length+1)=fr+64+64*l.length:=by omega
  rw[xH,e];simpa only[BX,FX]using h''
end
end Go.Vc
namespace Go.Vc
open Go.RowKit
def Y1:Op->Bool
 | .load _ _ | .store _ _ _ | .indexAddr _ _ _ | .call _ | .slice _ _ _ _ _ | .buildSlice _ _ _ | .next _ _ | .lookup _ _ _ _ | .mapUpdate _ _ _ _ | .insert _ _ _ _ | .convert _ _ _ | .makeInterface _ _ | .makeFunc _ _ _=>true
 | _=>false
def isFn:Op->Bool
 | .call c=>(match c.callee with
  | .value _=>true
  | _=>false)
 | _=>false
def dL {D:Type}(slot:Nat->Sl D)(blk:Nat->Option (Bk D))(o:Op):List Nat:=
 if isFn o then reach blk 3 (lX [] (o.operands.toList.flatMap fun x=>(aH slot x).refs))else if Y1 o then o.operands.toList.flatMap fun x=>(aH slot x).refs else[]
def Wr.keys {D:Type}(W:Wr D):List Nat:=W.blks.map (·.1)
def Hz (o:Oper)(i:Nat):Bool:=o.after.toList.any fun e=>Region.binds .any e && Nat.beq e.on i
def vM (ops:Array Oper):Nat->Oper->Nat->Bool
 | 0,o,i=>Hz o i
 | k+1,o,i=>Hz o i || o.after.toList.any fun e=>Region.binds .any e && (match ops[e.on]? with
  | some o'=>vM ops k o' i
  | none=>false)
theorem agm {ops:Array Oper}{o:Oper}{i:Nat}(h:Hz o i=true):∀k,vM ops k o i=true
 | 0=>h
 | k+1=>by simp[vM,h]
section
variable {D:Type}{P:Program}{S:Sh D}{T:TypeId->Option Ty}{Γ:FuncId->Option (Ct D)}{N:Nat->Prop}{w w':World}{w0:Bs}{blk blk':Nat->Option (Bk D)}{al:Nat->Prop}
 {a:Act} {o:Oper} {K:Act->World->Prop} {Q:Exit->Act->World->Prop} {slot bW:Nat->Sl D} {fr n:Nat} {ops:Array Oper} {W:Wr D}
theorem afO {x y:Sl D}(h:Alike x y):x.refs=y.refs:=by
 rcases h with rfl | ⟨b,h1,h2⟩
 ·rfl
 ·have key:∀z:Sl D,bOf z=some b->z.refs=[]:=by
   intro z hz;unfold bOf at hz;split at hz<;>first | rfl | cases hz
  rw[key x h1,key y h2]
theorem CW {op:Op}(h:∀t,Alike (slot t) (bW t)):dL slot blk op=dL bW blk op:=by
 have:(fun x=>(aH slot x).refs)=fun x=>(aH bW x).refs:=by
  funext x;cases x with
  | tmp t=>exact afO (h t)
  | _=>rfl
 unfold dL;rw[this]
theorem zy:∀(n:Nat) (ids:List Nat) (l:Nat),l∈ids->l∈reach blk n ids
 | 0,_,_,h=>h
 | n+1,ids,l,h=>zy n _ l ((eU _ _ _).2 (.inl h))
theorem Bl:∀(n:Nat) (ids ah4:List Nat),(∀l∈ids,l∈ah4)->∀l∈reach blk n ids,l∈reach blk n ah4
 | 0,_,_,h=>h
 | n+1,ids,ah4,h=>by
  refine Bl n _ _ fun l hl=> ?_;rcases(eU _ _ _).1 hl with q | q
  ·exact(eU _ _ _).2 (.inl (h l q))
  ·obtain⟨x,hx,hlx⟩:=vZ.1 q;exact(eU _ _ _).2 (.inr (vZ.2 ⟨x,h x hx,hlx⟩))
theorem nH {α β:Type}{l:List α}{f f':α->List β}(h:∀x∈l,f x=f' x):l.flatMap f=l.flatMap f':=by
 induction l with
 | nil=>rfl
 | cons x r ih=>rw[Qbp,Qbp,h x oJ,ih fun y hy=>h y qcu]
theorem OE:∀(n:Nat) (ids:List Nat),(∀l∈reach blk n ids,blk l=blk' l)->reach blk n ids=reach blk' n ids
 | 0,_,_=>rfl
 | n+1,ids,h=>by
  have e:(ids.flatMap fun l=>match blk l with
    | some bk=>bk.refs
    | none=>[])=(ids.flatMap fun l=>match blk' l with
    | some bk=>bk.refs
    | none=>[]):=nH fun l hl=>by rw[h l (zy (n+1) ids l hl)]
  have h':∀l∈reach blk n (lX ids (ids.flatMap fun l=>match blk l with
    | some bk=>bk.refs
    | none=>[])),blk l=blk' l:=h
  have r:=OE n _ h';refine Eq.trans (show reach blk (n+1) ids=_ from r) ?_;rw[e];rfl
theorem JJ:∀(ids:List Nat),(∀l∈ids,blk l=blk' l)->uh blk ids=uh blk' ids
 | [],_=>rfl
 | x::r,h=>by
  unfold uh;rw[h x oJ,JJ r fun l hl=>h l qci]
theorem IB {ct:Ct D}{args:List (Sl D)}{jr:List Nat}(h:∀l∈reach blk 3 (lX [] (args.flatMap Sl.refs)),blk l=blk' l)(hv:∀l∈jr,blk l=blk' l):AX ct blk fr args jr=AX ct blk' fr args jr:=by
 have e1:=OE _ _ h;have e2:=JJ _ h;have e3:jr.filterMap (jl blk)=jr.filterMap (jl blk'):=by
  clear h e1 e2;induction jr with
  | nil=>rfl
  | cons x r ih=>
   have hx:jl blk x=jl blk' x:=by unfold jl;rw[hv x oJ]
   rw[Qds,Qds,hx,ih fun l hl=>hv l qci]
 unfold AX;dsimp only;rw[<-e1,e2,e3]
theorem JX {ty:Ty}:∀(ps:List (Nat×Operand)) (cs:List (Lf D)),(∀p∈ps,aH slot p.2=aH bW p.2)->H_ ty slot ps cs=H_ ty bW ps cs
 | [],_,_=>rfl
 | (f,x)::r,cs,h=>by
  have hx:aH slot x=aH bW x:=h (f,x) oJ;have ih:=fun cs=>JX (ty:=ty) r cs fun p hp=>h p (by simp[hp])
  simp only[H_,hx,ih]
theorem yP {sz:Nat}:∀(ps:List (Nat×Operand)) (cs:List (Lf D)),(∀p∈ps,aH slot p.2=aH bW p.2)->xR sz slot ps cs=xR sz bW ps cs
 | [],_,_=>rfl
 | (f,x)::r,cs,h=>by
  have hx:aH slot x=aH bW x:=h (f,x) oJ;have ih:=fun cs=>yP (sz:=sz) r cs fun p hp=>h p (by simp[hp])
  simp only[xR,hx,ih]
theorem adG {t:TypeId}{x:Sl D}(h:∀l∈x.refs,blk l=blk' l):CO T S blk t x=CO T S blk' t x:=by
 unfold CO;cases T t with
 | none=>rfl
 | some ty=>
  cases x with
  | xx xs=>rfl
  | one x=>
   cases x with
   | agg xs=>rfl
   | lf x=>cases x<;>first | rfl | (have hh:=h _ (Aj.2 rfl);simp only[hh])
theorem Zn {t:TypeId}{x y:Sl D}(h:∀l∈x.refs,blk l=blk' l):Ia T S blk t x y=Ia T S blk' t x y:=by
 unfold Ia;cases T t with
 | none=>rfl
 | some ty=>
  cases x with
  | xx xs=>rfl
  | one x=>
   cases x with
   | agg xs=>rfl
   | lf x=>
    cases y with
    | xx ys=>cases x<;>rfl
    | one y=>cases x<;>first | rfl | (have hh:=h _ (Aj.2 rfl);simp only[hh])
theorem aad {t:TypeId}{x y:Sl D}(h:∀l∈x.refs,blk l=blk' l):LX T S blk t x y=LX T S blk' t x y:=by
 unfold LX;cases T t with
 | none=>rfl
 | some ty=>
  simp only;cases ty.elem with
  | none=>rfl
  | some e=>
   simp only;cases T e with
   | none=>rfl
   | some te=>
    cases x with
    | xx xs=>rfl
    | one x=>
     cases x with
     | agg xs=>rfl
     | lf x=>
      cases y with
      | xx ys=>cases x<;>rfl
      | one y=>
       cases y with
       | agg ys=>cases x<;>rfl
       | lf y=>cases x<;>cases y<;>first | rfl | (have hh:=h _ (Aj.2 rfl);simp only[hh])
theorem aha {ts:Array TypeId}{x:Sl D}(h:∀l∈x.refs,blk l=blk' l):ams S T blk ts x=ams S T blk' ts x:=by
 unfold ams;split
 ·rfl
 ·split
  ·rfl
  ·cases x with
   | xx xs=>rfl
   | one x=>
    cases x with
    | agg xs=>rfl
    | lf x=>
     cases x with
     | own l=>have hh:=h l qbl;simp only[hh]
     | val v=>cases v<;>first | rfl | (rename_i a n c;cases a<;>first | rfl | (cases n<;>first | rfl | (cases c<;>rfl)))
     | _=>rfl
theorem Di {x:Sl D}(h:∀l∈x.refs,blk l=blk' l):Jd blk x=Jd blk' x:=by
 cases x with
 | xx xs=>rfl
 | one x=>
  cases x with
  | agg xs=>rfl
  | lf x=>
   cases x with
   | own l=>have hh:=h l qbl;simp only[Jd,hh]
   | _=>rfl
theorem WC {ts:Array TypeId}{x y:Sl D}(h:∀l∈x.refs,blk l=blk' l)(h':∀l∈y.refs,blk l=blk' l):Ff T S blk fr ts x y=Ff T S blk' fr ts x y:=by
 unfold Ff;rw[Di h'];cases x with
 | xx xs=>rfl
 | one x=>
  cases x with
  | agg xs=>rfl
  | lf x=>
   cases x with
   | own l=>have hh:=h l qbl;simp only[hh]
   | val v=>cases v<;>first | rfl | (rename_i a n c;cases a<;>first | rfl | (cases n<;>first | rfl | (cases c<;>rfl)))
   | _=>rfl
theorem ZB {t:TypeId}{x:Sl D}{lo hi:Option (Sl D)}(h:∀l∈x.refs,blk l=blk' l):MK T S blk t x lo hi=MK T S blk' t x lo hi:=by
 unfold MK;split
 ·rfl
 ·split
  ·rfl
  ·split
   ·rfl
   ·rfl
   ·rename_i q;rw[h q qbl]
   ·rfl
theorem acp {ts:Array TypeId}{x y:Sl D}(h:∀l∈x.refs,blk l=blk' l):X5 T S blk ts x y=X5 T S blk' ts x y:=by
 unfold X5;split
 ·split
  ·split
   ·rfl
   ·split
    ·rfl
    ·split
     ·rfl
     ·split
      ·rename_i l d2;rw[h l qbl]
      ·rfl
  ·rfl
 ·rfl
theorem Jp (x:Lf D):x.norm.refs=x.refs:=by
 unfold Lf.norm;split<;>rfl
theorem Jj (x:Sv D):x.norm.refs=x.refs:=by
 cases x with
 | lf x=>exact Jp x
 | agg xs=>simp only[Sv.norm,Sv.refs,Qdl];exact nH fun x _=>Jp x
theorem Y_ (x:Sl D):x.norm.refs=x.refs:=by
 cases x with
 | one x=>exact Jj x
 | xx xs=>simp only[Sl.norm,Sl.refs,Qdl];exact nH fun x _=>Jj x
theorem KL (x:Lf D):∀l∈(x.view blk).refs,l∈x.refs:=by
 cases x with
 | own l=>
  simp only[Lf.view];split
  ·intro l' h;simp[Lf.refs]at h
  ·intro l' h;simp[Lf.refs]at h
  ·intro l' h;simp[Lf.refs]at h
  ·intro l' h;exact h
 | part l i j sz f=>
  simp only[Lf.view];split
  ·split<;>(intro l' h;simp[Lf.refs]at h)
  ·split<;>(intro l' h;simp[Lf.refs]at h)
  ·intro l' h;exact h
 | _=>exact fun l h=>h
theorem Jv (x:Sv D):∀l∈(x.view blk).refs,l∈x.refs:=by
 cases x with
 | lf x=>exact KL x
 | agg xs=>
  intro l hl;simp only[Sv.view,Sv.refs,Qdl]at hl⊢;obtain⟨y,hy,hl⟩:=vZ.1 hl;exact vZ.2 ⟨y,hy,KL y l hl⟩
theorem Ar (x:Sl D):∀l∈(x.view blk).refs,l∈x.refs:=by
 cases x with
 | one x=>exact Jv x
 | xx xs=>
  intro l hl;simp only[Sl.view,Sl.refs,Qdl]at hl⊢;obtain⟨y,hy,hl⟩:=vZ.1 hl;exact vZ.2 ⟨y,hy,Jv y l hl⟩
theorem F5 {x:Lf D}(h:∀l∈x.refs,blk l=blk' l):x.view blk=x.view blk':=by
 cases x with
 | own l=>simp only[Lf.view];rw[h l qb3]
 | part l i j sz f=>simp only[Lf.view];rw[h l qb3]
 | _=>rfl
theorem Gm {x:Sv D}(h:∀l∈x.refs,blk l=blk' l):x.view blk=x.view blk':=by
 cases x with
 | lf x=>simp only[Sv.view];rw[F5 h]
 | agg xs=>simp only[Sv.view];congr 1;exact Qbn fun y hy=>F5 fun l hl=>h l (vZ.2 ⟨y,hy,hl⟩)
theorem y_ {x:Sl D}(h:∀l∈x.refs,blk l=blk' l):x.view blk=x.view blk':=by
 cases x with
 | one x=>simp only[Sl.view];rw[Gm h]
 | xx xs=>simp only[Sl.view];congr 1;exact Qbn fun y hy=>Gm fun l hl=>h l (vZ.2 ⟨y,hy,hl⟩)
theorem JY (x:Lf D):∀l∈x.owns,l∈x.refs:=by cases x<;>simp[Lf.owns,Lf.refs]
theorem Iz (x:Sv D):∀l∈x.owns,l∈x.refs:=by
 cases x with
 | lf x=>exact JY x
 | agg xs=>
  intro l hl;obtain⟨y,hy,hl⟩:=vZ.1 hl;exact vZ.2 ⟨y,hy,JY y l hl⟩
theorem AZ (x:Sl D):∀l∈x.owns,l∈x.refs:=by
 cases x with
 | one x=>exact Iz x
 | xx xs=>
  intro l hl;obtain⟨y,hy,hl⟩:=vZ.1 hl;exact vZ.2 ⟨y,hy,Iz y l hl⟩
theorem Oq {f:FuncId}{args:List (Sl D)}(h:∀l∈reach blk 3 (lX [] (args.flatMap Sl.refs)),blk l=blk' l):JH Γ f blk args fr=JH Γ f blk' args fr:=by
 unfold JH;cases Γ f with
 | none=>rfl
 | some ct=>
  dsimp only;have hn:(args.map Sl.norm).flatMap Sl.refs=args.flatMap Sl.refs:=by rw[Qdl];exact nH fun x _=>Y_ x
  generalize args.map Sl.norm=as at hn;rw[<-hn]at h;have hd:∀l∈as.flatMap Sl.refs,blk l=blk' l:=fun l hl=>h l (zy _ _ _ ((eU _ _ _).2 (.inr hl)))
  have hv:as.map (Sl.view blk)=as.map (Sl.view blk'):=Qbn fun x hx=>y_ fun l hl=>hd l (vZ.2 ⟨x,hx,hl⟩)
  rw[IB (blk:=blk) (blk':=blk') (args:=as) (jr:=[]) h (fun l hl=>by simp at hl)];rw[IB (blk:=blk) (blk':=blk') (args:=as.map (Sl.view blk)) (jr:=lX [] (as.flatMap Sl.owns)) (fun l hl=>h l (Bl 3 _ _ (fun l hl=> ?_) l hl)) (fun l hl=>hd l ?_),hv]
  ·rcases(eU _ _ _).1 hl with q | q
   ·simp at q
   ·obtain⟨x,hx,hlx⟩:=vZ.1 q;obtain⟨y,hy,rfl⟩:=Ik.1 hx;exact(eU _ _ _).2 (.inr (vZ.2 ⟨y,hy,Ar y l hlx⟩))
  ·rcases(eU _ _ _).1 hl with q | q
   ·simp at q
   ·obtain⟨x,hx,hlx⟩:=vZ.1 q;exact vZ.2 ⟨x,hx,AZ x l hlx⟩
theorem YN {op:Op}(hs:∀x∈op.operands.toList,aH slot x=aH bW x)(hm:∀l∈dL slot blk op,blk l=blk' l):BD T S Γ slot blk fr op=BD T S Γ bW blk' fr op:=by
 have hm':Y1 op=true->∀x∈op.operands.toList,∀l∈(aH bW x).refs,blk l=blk' l:=by
  intro hi x hx l hl;refine hm l ?_;have hin:l∈op.operands.toList.flatMap fun x=>(aH slot x).refs:=vZ.2 ⟨x,hx,by rw[hs x hx];exact hl⟩
  unfold dL;split
  ·exact zy _ _ _ ((eU _ _ _).2 (.inr hin))
  ·first | (split;· exact hin;· rename_i q;exact absurd hi q) | simpa[hi]using hin
 cases op with
 | move x=>simp only[BD];rw[hs x oD]
 | assign x=>simp only[BD];rw[hs x oD]
 | pick c x y=>simp only[BD,ajq];rw[hs c oD,hs x oD,hs y oD]
 | alloc t=>rfl
 | box t x=>simp only[BD];rw[hs x oD]
 | build t ps=>
  simp only[BD,Zm];split
  ·rw[JX ps.toList _ fun p hp=>hs p.2 qc]
  ·rfl
 | buildSlice t n ps=>
  have:∀p∈ps.toList,aH slot p.2=aH bW p.2:=fun p hp=>hs p.2 qc
  simp only[BD,axN];split
  ·rfl
  ·split
   ·rfl
   ·split
    ·rfl
    ·rw[yP ps.toList _ this]
 | load t x=>
  simp only[BD];rw[hs x oD,adG (hm' rfl x oD)]
 | store t x y=>
  simp only[BD];rw[hs x oD,hs y oD,Zn (hm' rfl x oD)]
 | nilCheck x=>simp only[BD];rw[hs x oD]
 | binOp op t x y yt=>simp only[BD];rw[hs x oD,hs y oD]
 | unOp op t x=>simp only[BD];rw[hs x oD]
 | fieldAddr t x f=>simp only[BD];rw[hs x oD]
 | field t x f=>simp only[BD];rw[hs x oD]
 | indexAddr t x i=>
  simp only[BD];rw[hs x oD,hs i oD,aad (hm' rfl x oD)]
 | extract x i=>simp only[BD];rw[hs x oD]
 | call c=>
  simp only[BD];have hargs:∀x∈c.args.toList,x∈(Op.call c).operands.toList:=fun x hx=>by
   simp only[Op.operands,Call.operands,Qb3,tY];exact .inr hx
  split
  ·split
   ·rename_i x hx;have hx:x∈(Op.call c).operands.toList:=hargs x qbu;rw[hs x hx,aha (hm' rfl x hx)]
   ·rfl
  ·split
   ·rename_i x y hx;rw[hs x (hargs x qbu),hs y (hargs y qbu)]
   ·rfl
  ·split
   ·rename_i x y hx;rw[hs x (hargs x qbu),hs y (hargs y qbu)]
   ·rfl
  ·split
   ·rename_i x y hx;have hx1:x∈(Op.call c).operands.toList:=hargs x qbu;have hx2:y∈(Op.call c).operands.toList:=hargs y qbu;rw[hs x hx1,hs y hx2,WC (hm' rfl x hx1) (hm' rfl y hx2)]
   ·rfl
  ·split
   ·rename_i x y hx;have hx1:x∈(Op.call c).operands.toList:=hargs x qbu;have hx2:y∈(Op.call c).operands.toList:=hargs y qbu;rw[hs x hx1,hs y hx2,acp (hm' rfl x hx1)]
   ·rfl
  ·rename_i f hf;have hfm:f∈(Op.call c).operands.toList:=by simp[Op.operands,Call.operands,hf]
   have hfe:=hs f hfm;have:c.args.toList.map (aH slot)=c.args.toList.map (aH bW):=Qbn fun x hx=>hs x (hargs x hx)
   rw[hfe,this];split
   ·rename_i f' caps hfn;have hcl:∀l∈caps,blk l=blk' l:=fun l hl=>hm' rfl f hfm l (by rw[hfn];exact hl)
    have hc2:caps.all (fun l=>isCells (blk l))=caps.all (fun l=>isCells (blk' l)):=by
     clear hfn;induction caps with
     | nil=>rfl
     | cons x r ih=>rw[Qcx,Qcx,hcl x oJ,ih fun l hl=>hcl l qci]
    rw[hc2];rw[Oq (blk:=blk) (blk':=blk') fun l hl=>hm l ?_];have aEa:isFn (Op.call c)=true:=by simp[isFn,hf]
    unfold dL;rw[Qb aEa];refine Bl 3 _ _ (fun l hl=> ?_) l hl;rcases(eU _ _ _).1 hl with q | q
    ·simp at q
    ·refine(eU _ _ _).2 (.inr ?_);rw[List.flatMap_append,tY]at q;rcases q with q | q
     ·rw[<-this]at q;obtain⟨y,hy,hly⟩:=vZ.1 q;obtain⟨x,hx,rfl⟩:=Ik.1 hy;exact vZ.2 ⟨x,hargs x hx,hly⟩
     ·obtain⟨y,hy,hly⟩:=vZ.1 q;obtain⟨k,hk,rfl⟩:=Ik.1 hy;simp[Sl.refs,Sv.refs,Lf.refs]at hly;subst hly;exact vZ.2 ⟨f,hfm,by rw[hfe,hfn];exact hk⟩
   ·rfl
  ·rfl
 | makeFunc fn first caps=>
  have hcp:∀(l:List Operand),(∀x∈l,aH slot x=aH bW x)->DU slot l=DU bW l:=by
   intro l;induction l with
   | nil=>intro _;rfl
   | cons x r ih=>intro h;unfold DU;rw[h x oJ,ih fun y hy=>h y qcu]
  cases fn with
  | func f=>simp only[BD];rw[hcp caps.toList fun x hx=>hs x (by simp only[Op.operands,Qb3,tY];exact .inr hx)]
  | _=>rfl
 | makeSlice t x y=>simp only[BD];rw[hs x oD,hs y oD]
 | index t x y=>simp only[BD];rw[hs x oD,hs y oD]
 | convert t u x=>simp only[BD];rw[hs x oD]
 | slice t x lo hi mx=>
  cases mx with
  | some m=>rfl
  | none=>
   have hlo:lo.map (aH slot)=lo.map (aH bW):=by
    cases lo with
    | none=>rfl
    | some l=>simp only[GZ];rw[hs l oD]
   have hhi:hi.map (aH slot)=hi.map (aH bW):=by
    cases hi with
    | none=>rfl
    | some l=>simp only[GZ];rw[hs l oD]
   simp only[BD];rw[hs x oD,hlo,hhi,ZB (hm' rfl x oD)]
 | _=>rfl
theorem pW:∀{l:List Operand} {t:Nat},t∈qx l ↔ Operand.tmp t∈l
 | [],t=>by simp[qx]
 | x::r,t=>by
  cases x<;>simp[qx,pW (l:=r)]
theorem Zk {α:Type}{k:Nat}:∀(cs:List (Nat×α)) (f f':Nat->α),f k=f' k->lG f cs k=lG f' cs k
 | [],_,_,h=>h
 | (k0,v)::cs,f,f',h=>by
  refine Zk cs (upd f k0 v) (upd f' k0 v) ?_;by_cases e:k=k0
  ·subst e;rw[upd_same,upd_same]
  ·rw[bK _ _ _ _ e,bK _ _ _ _ e,h]
theorem agB {op:Op}(hs:∀x∈op.operands.toList,aH slot x=aH bW x)(hm:∀l∈dL slot blk op,blk l=blk' l):amv T S Γ slot blk fr op=amv T S Γ bW blk' fr op:=by
 unfold amv;rw[YN hs hm];split
 ·rfl
 unfold arV;cases hc:JS op with
 | false=>simp
 | true=>
  have hf:isFn op=false:=by cases op<;>first | rfl | simp[JS]at hc
  have hi:Y1 op=true:=by cases op<;>first | rfl | simp[JS]at hc
  have hmr:∀(s:Nat->Sl D) (b:Nat->Option (Bk D)),dL s b op=op.operands.toList.flatMap fun x=>(aH s x).refs:=fun s b=>by unfold dL;rw[hf,hi];rfl
  have ht:∀t∈qx op.operands.toList,slot t=bW t:=fun t ht=>hs (.tmp t) (pW.1 ht)
  have hb:∀t∈qx op.operands.toList,∀l∈(slot t).refs,blk l=blk' l:=fun t ht l hl=>hm l qcf
  have W_:iK slot op=iK bW op:=by
   unfold iK;congr 1;exact nH fun t h=>by rw[ht t h]
  have hbl:∀l∈iK slot op,blk l=blk' l:=fun l hl=>by
   rcases(eU _ _ _).1 hl with h | h
   ·simp at h
   ·obtain⟨t,h1,h2⟩:=vZ.1 h;exact hb t h1 l (AZ _ l h2)
  have aD_:(iK slot op).filterMap (jl blk)=(iK slot op).filterMap (jl blk'):=sK fun l hl=>by unfold jl;rw[hbl l hl]
  have hall:((iK slot op).all fun l=>isRow (blk l))=((iK slot op).all fun l=>isRow (blk' l)):=by
   rw[Qb5,MX,MX];constructor
   ·intro h l hl;rw[<-hbl l hl];exact h l hl
   ·intro h l hl;rw[hbl l hl];exact h l hl
  have afb:∀x∈op.operands.toList,aH (Ce (qx op.operands.toList) slot blk) x=aH (Ce (qx op.operands.toList) bW blk') x:=by
   intro x hx;cases x with
   | tmp t=>
    have htm:=pW.2 hx;simp only[aH,Ce];rw[Qb (gX.2 htm),Qb (gX.2 htm),<-ht t htm];exact y_ fun l hl=>hb t htm l hl
   | _=>rfl
  simp only[Qcw];rw[<-W_,<-aD_,<-hall];rw[YN (blk':=lG blk' ((iK slot op).filterMap (jl blk))) afb];intro l hl;rw[hmr]at hl;refine Zk _ _ _ ?_;obtain⟨x,hx,hlx⟩:=vZ.1 hl;cases x with
  | tmp t=>
   have htm:=pW.2 hx;simp only[aH,Ce]at hlx;rw[Qb (gX.2 htm)]at hlx;exact hb t htm l (Ar _ l hlx)
  | const v=>exact hm l qbm
  | func f=>exact hm l qbm
  | global i=>exact hm l qbm
theorem abg {t:TypeId}{x:Sl D}(h:∀l∈x.refs,blk l=blk' l):Lt T S blk t x=Lt T S blk' t x:=by
 unfold Lt;split
 ·rfl
 ·split
  ·rw[h _ qbl]
  ·rfl
  ·rfl
theorem Wn {t:TypeId}{x y:Sl D}(h:∀l∈x.refs,blk l=blk' l):Ew T S blk t x y=Ew T S blk' t x y:=by
 unfold Ew;split
 ·rfl
 ·split
  ·rw[h _ qbl]
  ·rfl
theorem Zv {ts:Array TypeId}{x:Sl D}(h:∀l∈x.refs,blk l=blk' l):Me T S blk ts x=Me T S blk' ts x:=by
 unfold Me;split
 ·split
  ·rfl
  ·split
   ·rfl
   ·split
    ·rfl
    ·split
     ·rw[h _ qbl]
     ·rfl
 ·rfl
theorem adp {op:Op}(hs:∀x∈op.operands.toList,aH slot x=aH bW x)(hm:∀l∈dL slot blk op,blk l=blk' l):Cb T S slot blk fr op=Cb T S bW blk' fr op:=by
 have hm':Y1 op=true->isFn op=false->∀x∈op.operands.toList,∀l∈(aH bW x).refs,blk l=blk' l:=by
  intro hi hf x hx l hl;refine hm l ?_;unfold dL;rw[hf,hi];exact vZ.2 ⟨x,hx,by rw[hs x hx];exact hl⟩
 cases op with
 | load t x=>
  simp only[Cb];rw[hs x oD,abg (hm' rfl rfl x oD)]
 | store t x y=>
  simp only[Cb];rw[hs x oD,hs y oD,Wn (hm' rfl rfl x oD)]
 | indexAddr t x i=>simp only[Cb];rw[hs x oD,hs i oD]
 | index t x i=>simp only[Cb];rw[hs x oD,hs i oD]
 | build t ps=>
  simp only[Cb,QK];split
  ·rfl
  ·split
   ·rfl
   ·rw[yP ps.toList _ fun p hp=>hs p.2 qc]
 | call c=>
  simp only[Cb];split
  ·rename_i aD8;have hfn:isFn (.call c)=false:=by simp[isFn,aD8]
   split
   ·rename_i x hx;have hxm:x∈(Op.call c).operands.toList:=by
     simp only[Op.operands,Call.operands,Qb3,tY];exact .inr qbu
    rw[hs x hxm,Zv (hm' rfl hfn x hxm)]
   ·rfl
  ·rfl
 | makeInterface t x=>simp only[Cb];rw[hs x oD]
 | typeAssert x st t ok=>
  cases ok with
  | true=>simp only[Cb];rw[hs x oD]
  | false=>rfl
 | _=>rfl
theorem af_ {op:Op}(hs:∀x∈op.operands.toList,aH slot x=aH bW x)(hm:∀l∈dL slot blk op,blk l=blk' l):amr T S Γ slot blk fr op=amr T S Γ bW blk' fr op:=by
 unfold amr;rw[adp hs hm,agB hs hm]
theorem afA {op:Op}(hs:∀x∈op.operands.toList,aH slot x=aH bW x)(hm:∀l∈dL slot blk op,blk l=blk' l):aql T S Γ slot blk fr op=aql T S Γ bW blk' fr op:=by
 unfold aql;split
 ·rw[hs _ oD]
 ·exact af_ hs hm
theorem adC {t:TypeId}{x:Sl D}(h:∀l∈x.refs,blk l=blk' l):mapOf S blk t x=mapOf S blk' t x:=by
 unfold mapOf;split
 ·rw[h _ qbl]
 all_goals rfl
theorem arI {ps:List (Dl D)}:(ps.map Dl.lf).flatMap Lf.refs=[]:=by
 induction ps with
 | nil=>rfl
 | cons p r ih=>rw[F_,Qbp,ih];cases p<;>rfl
theorem alc {ag:Bool}{ps:List (Dl D)}{x:Sl D}(h:amo ag ps=some x):x.refs=[]:=by
 unfold amo at h;split at h
 ·rename_i p;injection h with h
  subst h;cases p<;>rfl
 ·injection h with h
  subst h;exact arI
 ·cases h
theorem SV {op:Op}(hs:∀x∈op.operands.toList,aH slot x=aH bW x)(hm:∀l∈dL slot blk op,blk l=blk' l):xB T S Γ slot blk fr op=xB T S Γ bW blk' fr op:=by
 have hm':Y1 op=true->∀x∈op.operands.toList,∀l∈(aH bW x).refs,blk l=blk' l:=by
  intro hi x hx l hl;refine hm l ?_;have hin:l∈op.operands.toList.flatMap fun x=>(aH slot x).refs:=vZ.2 ⟨x,hx,by rw[hs x hx];exact hl⟩
  unfold dL;split
  ·exact zy _ _ _ ((eU _ _ _).2 (.inr hin))
  ·first | (split;· exact hin;· rename_i q;exact absurd hi q) | simpa[hi]using hin
 cases op with
 | alloc t=>rfl
 | load t x=>
  have hx:=hs x oD;have hb:=hm' rfl x oD;simp only[xB,aaS];rw[hx];split
  ·rfl
  ·split
   ·rename_i l o he;rw[hb l qbc]
   ·rfl
 | store t x y=>
  have hx:=hs x oD;have hb:=hm' rfl x oD;simp only[xB,PU];rw[hx,hs y oD];split
  ·rename_i ty l o u _ he _;rw[hb l qbc]
  ·rfl
 | indexAddr t x i=>simp only[xB];rw[hs x oD,hs i oD]
 | index t x i=>simp only[xB];rw[hs x oD,hs i oD]
 | makeMap t r=>cases r<;>rfl
 | slice t x lo hi mx=>
  cases mx with
  | some m=>
   have hlo:lo.map (aH slot)=lo.map (aH bW):=by
    cases lo with
    | none=>rfl
    | some l=>simp only[GZ];rw[hs l oD]
   have hhi:hi.map (aH slot)=hi.map (aH bW):=by
    cases hi with
    | none=>rfl
    | some l=>simp only[GZ];rw[hs l oD]
   have hx:=hs x oD;have hmx:=hs m oD;have hb:=hm' rfl x oD;simp only[xB,QD];rw[hx,hlo,hhi,hmx];split
   ·split
    ·rfl
    ·split
     ·rfl
     ·split
      ·rfl
      ·split
       ·rfl
       ·rename_i q he;rw[hb q qbc]
       ·rfl
   ·rfl
  | none=>
   have hlo:lo.map (aH slot)=lo.map (aH bW):=by
    cases lo with
    | none=>rfl
    | some l=>simp only[GZ];rw[hs l oD]
   have hhi:hi.map (aH slot)=hi.map (aH bW):=by
    cases hi with
    | none=>rfl
    | some l=>simp only[GZ];rw[hs l oD]
   have hx:=hs x oD;have hb:=hm' rfl x oD;simp only[xB,PL];rw[hx,hlo,hhi];split
   ·rfl
   ·split
    ·split
     ·split
      ·rfl
      ·split
       ·rename_i q he;rw[hb q qbc]
       ·rfl
     ·rfl
    ·rfl
 | lookup t x i ok=>
  simp only[xB,QE];rw[hs x oD,hs i oD,adC (hm' rfl x oD)]
 | mapUpdate t x i v=>
  have hx:=hs x oD;have hb:=hm' rfl x oD;simp only[xB,Fg];rw[hx,hs i oD,hs v oD];split
  ·rfl
  ·split
   ·rfl
   ·split
    ·split
     ·rename_i l k he _;rw[hb l qbc]
     ·rfl
    ·rfl
 | insert t x i v=>
  have hx:=hs x oD;have hb:=hm' rfl x oD;simp only[xB,Fg];rw[hx,hs i oD,hs v oD];split
  ·rfl
  ·split
   ·rfl
   ·split
    ·split
     ·rename_i l k he _;rw[hb l qbc]
     ·rfl
    ·rfl
 | convert t d x=>
  have hd:=Di (blk:=blk) (blk':=blk') (hm' rfl x oD);have e:Yr T S blk t d (aH bW x)=Yr T S blk' t d (aH bW x):=by
   unfold Yr;split
   ·split
    ·rfl
    ·split
     ·rfl
     ·split
      ·split
       ·rfl
       ·rw[hd]
      ·rfl
   ·rfl
  simp only[xB];rw[hs x oD,e]
 | makeInterface t x=>simp only[xB];rw[hs x oD]
 | typeAssert x st t ok=>simp only[xB];rw[hs x oD]
 | binOp op t x y yt=>simp only[xB];rw[hs x oD,hs y oD]
 | makeFunc fn first caps=>
  cases fn with
  | func f=>
   simp only[xB];split
   ·rename_i x h1 h2;rw[hs x (by simp only[Op.operands,Qb3,tY];exact .inl (by rw[h1];simp))]
   ·rfl
  | _=>rfl
 | nilCheck x=>simp only[xB];rw[hs x oD]
 | call c=>
  have hargs:∀x∈c.args.toList,x∈(Op.call c).operands.toList:=fun x hx=>by
   simp only[Op.operands,Call.operands,Qb3,tY];exact .inr hx
  simp only[xB];split
  ·rename_i f hf;have hfm:f∈(Op.call c).operands.toList:=by simp[Op.operands,Call.operands,hf]
   have hfe:=hs f hfm;have this:c.args.toList.map (aH slot)=c.args.toList.map (aH bW):=Qbn fun x hx=>hs x (hargs x hx)
   unfold Zy;rw[hfe,this];split
   ·split
    ·rename_i x hx;refine Oq fun l hl=>hm l ?_;have aEa:isFn (Op.call c)=true:=by simp[isFn,hf]
     unfold dL;rw[Qb aEa];refine Bl 3 _ _ (fun l hl=> ?_) l hl;rcases(eU _ _ _).1 hl with q | q
     ·simp at q
     ·refine(eU _ _ _).2 (.inr ?_);rw[Qbp,alc hx,Qcc,<-this]at q;obtain⟨y,hy,hly⟩:=vZ.1 q;obtain⟨x,hx,rfl⟩:=Ik.1 hy;exact vZ.2 ⟨x,hargs x hx,hly⟩
    ·rfl
   ·rfl
  ·split
   ·rename_i x y hx;have hx1:x∈(Op.call c).operands.toList:=hargs x qbu;have hx2:y∈(Op.call c).operands.toList:=hargs y qbu;have hb:=hm' rfl x hx1;rw[hs x hx1,hs y hx2];have e1:zX T S blk c.argTypes (aH bW x) (aH bW y)=zX T S blk' c.argTypes (aH bW x) (aH bW y):=by
     unfold zX;split
     ·split
      ·split
       ·rfl
       ·split
        ·rfl
        ·split
         ·rfl
         ·split
          ·rfl
          ·rfl
          ·rename_i l he;rw[hb l qbc]
          ·rfl
      ·rfl
     ·rfl
    have e2:zq T S blk fr c.argTypes (aH bW x) (aH bW y)=zq T S blk' fr c.argTypes (aH bW x) (aH bW y):=by
     unfold zq;split
     ·split
      ·split
       ·rfl
       ·split
        ·rfl
        ·split
         ·split
          ·rfl
          ·split
           ·split
            ·rfl
            ·rename_i l he;rw[hb l qbc]
            ·rfl
           ·rfl
         ·rfl
      ·rfl
     ·rfl
    have hd:=Di (blk:=blk) (blk':=blk') (hm' rfl y hx2);have e3:zQ T S blk fr c.argTypes (aH bW x) (aH bW y)=zQ T S blk' fr c.argTypes (aH bW x) (aH bW y):=by
     unfold zQ;rw[hd]
    rw[e1,e2,e3]
   ·rfl
  ·split
   ·rename_i x hx;rw[hs x (hargs x qbu)]
   ·rfl
  ·split
   ·rename_i x hx;have hx1:x∈(Op.call c).operands.toList:=hargs x qbu;have hb:=hm' rfl x hx1;rw[hs x hx1];unfold AA;split
    ·rename_i l he;rw[hb l qbc]
    ·rfl
    ·rfl
   ·rfl
  ·split
   ·rename_i x y hx;have hx1:x∈(Op.call c).operands.toList:=hargs x qbu;have hx2:y∈(Op.call c).operands.toList:=hargs y qbu;have hb:=hm' rfl x hx1;rw[hs x hx1,hs y hx2];unfold BK;split
    ·rename_i l n he _;rw[hb l qbc]
    ·rfl
    ·rfl
   ·rfl
  ·rfl
 | _=>rfl
theorem ZI {op:Op}(hs:∀x∈op.operands.toList,aH slot x=aH bW x)(hm:∀l∈dL slot blk op,blk l=blk' l):Nq T S Γ slot blk fr op=Nq T S Γ bW blk' fr op:=by
 unfold Nq;cases hc:EP op with
 | false=>simp
 | true=>
  have hf:isFn op=false:=by cases op<;>first | rfl | simp[EP]at hc
  have hi:Y1 op=true:=by cases op<;>first | rfl | simp[EP]at hc
  have hmr:∀(s:Nat->Sl D) (b:Nat->Option (Bk D)),dL s b op=op.operands.toList.flatMap fun x=>(aH s x).refs:=fun s b=>by unfold dL;rw[hf,hi];rfl
  have ht:∀t∈qx op.operands.toList,slot t=bW t:=fun t ht=>hs (.tmp t) (pW.1 ht)
  have hb:∀t∈qx op.operands.toList,∀l∈(slot t).refs,blk l=blk' l:=fun t ht l hl=>hm l qcf
  have W_:iK slot op=iK bW op:=by
   unfold iK;congr 1;exact nH fun t h=>by rw[ht t h]
  have hbl:∀l∈iK slot op,blk l=blk' l:=fun l hl=>by
   rcases(eU _ _ _).1 hl with h | h
   ·simp at h
   ·obtain⟨t,h1,h2⟩:=vZ.1 h;exact hb t h1 l (AZ _ l h2)
  have aD_:(iK slot op).filterMap (jl blk)=(iK slot op).filterMap (jl blk'):=sK fun l hl=>by unfold jl;rw[hbl l hl]
  have hall:((iK slot op).all fun l=>isRow (blk l))=((iK slot op).all fun l=>isRow (blk' l)):=by
   rw[Qb5,MX,MX];constructor
   ·intro h l hl;rw[<-hbl l hl];exact h l hl
   ·intro h l hl;rw[hbl l hl];exact h l hl
  have afb:∀x∈op.operands.toList,aH (Ce (qx op.operands.toList) slot blk) x=aH (Ce (qx op.operands.toList) bW blk') x:=by
   intro x hx;cases x with
   | tmp t=>
    have htm:=pW.2 hx;simp only[aH,Ce];rw[Qb (gX.2 htm),Qb (gX.2 htm),<-ht t htm];exact y_ fun l hl=>hb t htm l hl
   | _=>rfl
  simp only[Qcw];rw[<-W_,<-aD_,<-hall];rw[SV (blk':=lG blk' ((iK slot op).filterMap (jl blk))) afb];intro l hl;rw[hmr]at hl;refine Zk _ _ _ ?_;obtain⟨x,hx,hlx⟩:=vZ.1 hl;cases x with
  | tmp t=>
   have htm:=pW.2 hx;simp only[aH,Ce]at hlx;rw[Qb (gX.2 htm)]at hlx;exact hb t htm l (Ar _ l hlx)
  | const v=>exact hm l qbm
  | func f=>exact hm l qbm
  | global i=>exact hm l qbm
theorem agk {op:Op}(hs:∀x∈op.operands.toList,aH slot x=aH bW x)(hm:∀l∈dL slot blk op,blk l=blk' l):amG T S Γ slot blk fr op=amG T S Γ bW blk' fr op:=by
 unfold amG;rw[SV hs hm,ZI hs hm,afA hs hm]
theorem aes {op:Op}(hs:∀x∈op.operands.toList,aH slot x=aH bW x)(hm:∀l∈dL slot blk op,blk l=blk' l):U9 slot blk op=U9 bW blk' op:=by
 unfold U9;split
 ·rename_i it;have hit:it∈(Op.next it true).operands.toList:=by simp[Op.operands]
  have hb:∀l∈(aH slot it).refs,blk l=blk' l:=fun l hl=>hm l (by
   unfold dL;exact vZ.2 ⟨it,hit,hl⟩)
  rw[<-hs it hit];split
  ·rename_i l o he;rw[hb l qbc]
  ·rfl
 ·rfl
theorem af5 {op:Op}{out:Out D}(hs:∀x∈op.operands.toList,aH slot x=aH bW x)(hm:∀l∈dL slot blk op,blk l=blk' l)(h:Does T S Γ slot blk fr op out):Does T S Γ bW blk' fr op out:=by
 unfold Does at h⊢;rw[<-agk hs hm,<-aes hs hm];exact h
theorem agP (hs:∀t∈o.looksAt ops,slot t=bW t)(hm:∀l∈dL slot blk o.op,blk l=blk' l)(h:TA T S Γ ops n fr slot blk o W):TA T S Γ ops n fr bW blk' o W:=by
 have hop:∀x∈o.op.operands.toList,aH slot x=aH bW x:=by
  intro x hx;cases x with
  | tmp t=>
   refine hs t ?_;simp only[Oper.looksAt,tY,Qdd];exact .inl ⟨_,hx,rfl⟩
  | _=>rfl
 have hw:∀r,Wanted ops slot o r->Wanted ops bW o r:=by
  intro r hr;unfold Wanted at hr⊢;cases hg:o.guard with
  | none=>rw[hg]at hr;exact hr
  | some jw=>
   obtain⟨j,want⟩:=jw;rw[hg]at hr;obtain⟨d,hd,hr⟩:=hr;have hin:slot d=bW d:=by
    refine hs d ?_;simp only[Oper.looksAt,tY,hg];exact .inr (by simp[hd])
   exact⟨d,hd,by rw[<-hin];exact hr⟩
 obtain⟨h1,h2,h3⟩:=h;refine⟨h1,h2,?_⟩;rcases h3 with⟨hwt,out,hx,hrest⟩ | ⟨hwf,hrest⟩
 ·exact .inl ⟨hw _ hwt,out,af5 hop hm hx,hrest⟩
 ·exact .inr ⟨hw _ hwf,hrest⟩
def qi (L:Nat->Bool):Nat->(Nat->Sl D)->List (Wr D)->(Nat->Sl D)
 | _,slot,[]=>slot
 | i,slot,W::Ws=>qi L (i+1) (if L i then zC slot W else slot) Ws
def qy (L:Nat->Bool):Nat->(Nat->Option (Bk D))->List (Wr D)->(Nat->Option (Bk D))
 | _,blk,[]=>blk
 | i,blk,W::Ws=>qy L (i+1) (if L i then zM blk W else blk) Ws
theorem AY {t:Nat}(h:W.dst≠some t):zC slot W t=slot t:=by
 unfold zC;cases hd:W.dst with
 | some d=>exact bK _ _ _ _ (fun e=>h (by rw[hd,e]))
 | none=>rfl
theorem Ei {t:Nat}(h:W.dst=some t):zC slot W t=W.val:=by simp[zC,h,upd_same]
theorem ry {α:Type}{l:Nat}:∀{kv:List (Nat×α)} {f:Nat->α},l∉kv.map (·.1)->lG f kv l=f l
 | [],f,_=>rfl
 | (k,v)::r,f,h=>by
  simp only[F_,yR,not_or]at h;simp only[lG];rw[ry h.2,bK _ _ _ _ h.1]
theorem ZN {α:Type}{l:Nat}:∀{kv:List (Nat×α)} {f f':Nat->α},l∈kv.map (·.1)->lG f kv l=lG f' kv l
 | [],f,f',h=>by simp at h
 | (k,v)::r,f,f',h=>by
  simp only[lG];by_cases hr:l∈r.map (·.1)
  ·exact ZN hr
  ·simp only[F_,yR]at h;rcases h with rfl | h
   ·rw[ry hr,ry hr,upd_same,upd_same]
   ·exact absurd h hr
theorem Hr {L L':Nat->Bool}{t:Nat}:∀(Ws:List (Wr D)) (i:Nat) (slot bW:Nat->Sl D),(∀j W,Ws[j]? =some W->W.dst=some t->L (i+j)=L' (i+j))->slot t=bW t->qi L i slot Ws t=qi L' i bW Ws t
 | [],i,slot,bW,_,h=>h
 | W::Ws,i,slot,bW,hL,h=>by
  simp only[qi];refine Hr Ws (i+1) _ _ (fun j W' hj hd=>by have:=hL (j+1) W' qb7 hd;rwa [show i+(j+1)=i+1+j by omega]at this) ?_;by_cases hd:W.dst=some t
  ·have:=hL 0 W rfl hd;simp only[MB]at this;rw[this];split
   ·rw[Ei hd,Ei hd]
   ·exact h
  ·have e1:(if L i then zC slot W else slot) t=slot t:=by split<;>first | exact AY hd | rfl
   have e2:(if L' i then zC bW W else bW) t=bW t:=by split<;>first | exact AY hd | rfl
   rw[e1,e2];exact h
theorem Hl {L L':Nat->Bool}{t:Nat}:∀(Ws:List (Wr D)) (i:Nat) (blk blk':Nat->Option (Bk D)),(∀j W,Ws[j]? =some W->t∈W.keys->L (i+j)=L' (i+j))->blk t=blk' t->qy L i blk Ws t=qy L' i blk' Ws t
 | [],i,blk,blk',_,h=>h
 | W::Ws,i,blk,blk',hL,h=>by
  simp only[qy];refine Hl Ws (i+1) _ _ (fun j W' hj hd=>by have:=hL (j+1) W' qb7 hd;rwa [show i+(j+1)=i+1+j by omega]at this) ?_;by_cases hd:t∈W.keys
  ·have:=hL 0 W rfl hd;simp only[MB]at this;rw[this];split
   ·exact ZN hd
   ·exact h
  ·have e1:(if L i then zM blk W else blk) t=blk t:=by split<;>first | exact ry hd | rfl
   have e2:(if L' i then zM blk' W else blk') t=blk' t:=by split<;>first | exact ry hd | rfl
   rw[e1,e2];exact h
theorem FH {L:Nat->Bool}{t:Nat}(Ws:List (Wr D))(i:Nat)(slot:Nat->Sl D)(h:∀j W,Ws[j]? =some W->W.dst=some t->L (i+j)=false):qi L i slot Ws t=slot t:=by
 induction Ws generalizing i slot with
 | nil=>rfl
 | cons W Ws ih=>
  simp only[qi];rw[ih (i+1) _ fun j W' hj hd=>by have:=h (j+1) W' qb7 hd;rwa [show i+(j+1)=i+1+j by omega]at this];by_cases hd:W.dst=some t
  ·have:=h 0 W rfl hd;simp only[MB]at this;rw[this];rfl
  ·split<;>first | exact AY hd | rfl
theorem ER {L:Nat->Bool}{t:Nat}(Ws:List (Wr D))(i:Nat)(blk:Nat->Option (Bk D))(h:∀j W,Ws[j]? =some W->t∈W.keys->L (i+j)=false):qy L i blk Ws t=blk t:=by
 induction Ws generalizing i blk with
 | nil=>rfl
 | cons W Ws ih=>
  simp only[qy];rw[ih (i+1) _ fun j W' hj hd=>by have:=h (j+1) W' qb7 hd;rwa [show i+(j+1)=i+1+j by omega]at this];by_cases hd:t∈W.keys
  ·have:=h 0 W rfl hd;simp only[MB]at this;rw[this];rfl
  ·split<;>first | exact ry hd | rfl
theorem XV {L:Nat->Bool}{t:Nat}:∀(Ws:List (Wr D)) (b i:Nat) (slot:Nat->Sl D) (W:Wr D),Ws[i]? =some W->L (b+i)=true->W.dst=some t->(∀j W',i < j->Ws[j]? =some W'->W'.dst=some t->L (b+j)=false)->qi L b slot Ws t=W.val
 | [],b,i,slot,W,h,_,_,_=>by simp at h
 | V::Ws,b,0,slot,W,h,hL,hd,hn=>by
  simp only[Qch,KZ]at h;subst h;simp only[qi];rw[FH Ws (b+1) _ fun j W' hj hd'=>by have:=hn (j+1) W' au qb7 hd';rwa [show b+(j+1)=b+1+j by omega]at this];simp only[MB]at hL;rw[hL];exact Ei hd
 | V::Ws,b,i+1,slot,W,h,hL,hd,hn=>by
  simp only[qi];exact XV Ws (b+1) i _ W qbq (by rw[show b+1+i=b+(i+1) by omega];exact hL) hd fun j W' hj hw hd'=>by have:=hn (j+1) W' au (by simpa using hw) hd';rwa [show b+(j+1)=b+1+j by omega]at this
theorem YH {L:Nat->Bool}{t:Nat}:∀(Ws:List (Wr D)) (b i:Nat) (blk blk':Nat->Option (Bk D)) (W:Wr D),Ws[i]? =some W->L (b+i)=true->t∈W.keys->(∀j W',i < j->Ws[j]? =some W'->t∈W'.keys->L (b+j)=false)->qy L b blk Ws t=zM blk' W t
 | [],b,i,blk,blk',W,h,_,_,_=>by simp at h
 | V::Ws,b,0,blk,blk',W,h,hL,hd,hn=>by
  simp only[Qch,KZ]at h;subst h;simp only[qy];rw[ER Ws (b+1) _ fun j W' hj hd'=>by have:=hn (j+1) W' au qb7 hd';rwa [show b+(j+1)=b+1+j by omega]at this];simp only[MB]at hL;rw[hL];exact ZN hd
 | V::Ws,b,i+1,blk,blk',W,h,hL,hd,hn=>by
  simp only[qy];exact YH Ws (b+1) i _ blk' W qbq (by rw[show b+1+i=b+(i+1) by omega];exact hL) hd fun j W' hj hw hd'=>by have:=hn (j+1) W' au (by simpa using hw) hd';rwa [show b+(j+1)=b+1+j by omega]at this
theorem acT {L:Nat->Bool}:∀(Ws:List (Wr D)) (b:Nat) (slot:Nat->Sl D),(∀j,j < Ws.length->L (b+j)=true)->qi L b slot Ws=BX slot Ws
 | [],_,_,_=>rfl
 | W::Ws,b,slot,h=>by
  have h0:=h 0 oJ;simp only[MB]at h0;simp only[qi,h0,if_true,BX];exact acT Ws (b+1) _ fun j hj=>by have:=h (j+1) qb7;rwa [show b+(j+1)=b+1+j by omega]at this
theorem adX {L:Nat->Bool}:∀(Ws:List (Wr D)) (b:Nat) (blk:Nat->Option (Bk D)),(∀j,j < Ws.length->L (b+j)=true)->qy L b blk Ws=FX blk Ws
 | [],_,_,_=>rfl
 | W::Ws,b,blk,h=>by
  have h0:=h 0 oJ;simp only[MB]at h0;simp only[qy,h0,if_true,FX];exact adX Ws (b+1) _ fun j hj=>by have:=h (j+1) qb7;rwa [show b+(j+1)=b+1+j by omega]at this
theorem Rk:∀(l:List Oper) (Ws:List (Wr D)) (b i fr:Nat) (slot:Nat->Sl D) (blk:Nat->Option (Bk D)) (o:Oper),Trace T S Γ ops n fr slot blk l Ws->l[i]? =some o->
  ∃W,Ws[i]? =some W/\∃bW,(∀t,Alike (qi (fun j=>decide (j < b+i)) b slot Ws t) (bW t))/\TA T S Γ ops n (fr+64*i) bW (qy (fun j=>decide (j < b+i)) b blk Ws) o W
 | [],_,_,i,_,_,_,_,_,h=>by simp at h
 | _::_,[],_,_,_,_,_,_,ht,_=>by simp[Trace]at ht
 | o'::l,W::Ws,b,0,fr,slot,blk,o,ht,h=>by
  simp only[Qch,KZ]at h;subst h;refine⟨W,rfl,?_⟩;have e1:qi (fun j=>decide (j < b+0)) b slot (W::Ws)=slot:=by
   funext t;exact FH _ _ _ fun j W' _ _=>by simp
  have e2:qy (fun j=>decide (j < b+0)) b blk (W::Ws)=blk:=by
   funext t;exact ER _ _ _ fun j W' _ _=>by simp
  rw[e1,e2];exact ht.1
 | o'::l,W::Ws,b,i+1,fr,slot,blk,o,ht,h=>by
  obtain⟨W',hW',hst⟩:=Rk l Ws (b+1) i (fr+64) _ _ o ht.2 qbq;refine⟨W',by simpa using hW',?_⟩;have hb:decide (b < b+(i+1))=true:=by simp
  simp only[qi,qy,hb,if_true];rw[show b+(i+1)=b+1+i by omega,show fr+64*(i+1)=fr+64+64*i by omega];exact hst
theorem Jg:∀(l:List Oper) (Ws:List (Wr D)) (fr:Nat) (slot:Nat->Sl D) (blk:Nat->Option (Bk D)),Trace T S Γ ops n fr slot blk l Ws->Ws.length=l.length
 | [],[],_,_,_,_=>rfl
 | [],_::_,_,_,_,h=>by simp[Trace]at h
 | _::_,[],_,_,_,h=>by simp[Trace]at h
 | _::l,_::Ws,fr,_,_,h=>by simp[Jg l Ws _ _ _ h.2]
end
end Go.Vc
namespace Go.Vc
open Go.RowKit
def xM (ops:Array Oper):Bool:=
 (List.range ops.size).all fun j=>
  match ops[j]? with
  | none=>true
  | some oj=>(oj.after.toList.all fun e=> !Region.binds .any e || Nat.blt e.on j) && (List.range j).all fun i=>
   match ops[i]? with
   | none=>true
   | some oi=>Oper.apart ops oi oj || Hz oj i
section
variable {D:Type}{P:Program}{S:Sh D}{T:TypeId->Option Ty}{Γ:FuncId->Option (Ct D)}{N:Nat->Prop}{w w':World}{w0:Bs}{g0:Nat->Option Value}{blk blk':Nat->Option (Bk D)}{al:Nat->Prop}
 {a:Act} {o:Oper} {K:Act->World->Prop} {Q:Exit->Act->World->Prop} {slot bW:Nat->Sl D} {fr n:Nat} {ops:Array Oper} {W:Wr D} {Ws:List (Wr D)}
theorem abn (h:xM ops=true){j:Nat}{oj:Oper}(hj:ops[j]? =some oj):∀e∈oj.after.toList,Region.binds .any e=true->e.on < j:=by
 intro e he hb;have hlt:j < ops.size:=(Qcj.1 hj).1;have:=MX.1 h j (Qcs.2 hlt);simp only[hj,jY]at this;have:=MX.1 this.1 e he;simp only[hb,Qby,Bool.false_or]at this;simpa[Gf]using this
theorem DL (h:xM ops=true){i j:Nat}{oi oj:Oper}(hij:i < j)(hi:ops[i]? =some oi)(hj:ops[j]? =some oj):Oper.apart ops oi oj=true\/Hz oj i=true:=by
 have hlt:j < ops.size:=(Qcj.1 hj).1;have:=MX.1 h j (Qcs.2 hlt);simp only[hj,jY]at this;have:=MX.1 this.2 i (Qcs.2 hij);simp only[hi,Qbt]at this;exact this
def KF (slot:Nat->Sl D)(blk:Nat->Option (Bk D))(Ws:List (Wr D))(ops:Array Oper)(i:Nat):List Nat:=
 match ops[i]? with
 | some o=>dL (qi (fun j=>decide (j < i)) 0 slot Ws) (qy (fun j=>decide (j < i)) 0 blk Ws) o.op
 | none=>[]
def atd (slot:Nat->Sl D)(blk:Nat->Option (Bk D))(Ws:List (Wr D))(ops:Array Oper):Prop:=
 ∀i j oj Wi Wj l,i < j->ops[j]? =some oj->Ws[i]? =some Wi->Ws[j]? =some Wj->((l∈Wj.keys/\(l∈KF slot blk Ws ops i\/l∈Wi.keys))\/(l∈KF slot blk Ws ops j/\l∈Wi.keys))->vM ops 3 oj i=true
theorem Yv {o:Oper}{i:Nat}(h:Hz o i=true):∃e∈o.after.toList,Region.binds .any e=true/\e.on=i:=by
 simp only[Hz,Qcr,jY]at h;obtain⟨e,he,hb,hi⟩:=h;exact⟨e,he,hb,Qa hi⟩
theorem Ib {listed:Array Bool}(hcl:∀i o,ops[i]? =some o->listed.getD i false=true->∀e∈o.after.toList,Region.binds .any e=true->listed.getD e.on false=true):
  ∀(k:Nat) (o:Oper) (i:Nat),(∀e∈o.after.toList,Region.binds .any e=true->listed.getD e.on false=true)->vM ops k o i=true->listed.getD i false=true
 | 0,o,i,hed,h=>by
  obtain⟨e,he,hb,rfl⟩:=Yv h;exact hed e he hb
 | k+1,o,i,hed,h=>by
  simp only[vM,Qbt,Qcr,jY]at h;rcases h with h | ⟨e,he,hb,hm⟩
  ·obtain⟨e,he,hb,rfl⟩:=Yv h;exact hed e he hb
  ·split at hm
   ·rename_i o' ho';exact Ib hcl k o' i (hcl e.on o' ho' (hed e he hb)) hm
   ·cases hm
theorem Ur {listed:Array Bool}(hsz:listed.size=ops.size){i:Nat}(h:i∈Region.ready .any ops listed):
  ∃o,ops[i]? =some o/\listed.getD i false=false/\i < ops.size/\∀e∈o.after.toList,Region.binds .any e=true->listed.getD e.on false=true:=by
 simp only[Region.ready,Qbx,Qcs,jY]at h;obtain⟨hlt,h1,h2⟩:=h;cases ho:ops[i]? with
 | none=>rw[ho]at h2;simp at h2
 | some o=>
  rw[ho]at h2;simp only[GZ,Qc9]at h2;refine⟨o,rfl,?_,hlt,fun e he hb=> ?_⟩
  ·have hl:i < listed.size:=by omega
   simpa[Array.getD,hl]using h1
  ·rw[Array.all_eq_true_iff_forall_mem]at h2;have:=h2 e (by simpa using he);simpa[hb]using this
theorem ready_nil {listed:Array Bool}(hsz:listed.size=ops.size)(hd:xM ops=true)(h:Region.ready .any ops listed=[]):∀j,j < ops.size->listed.getD j false=true:=by
 intro j;induction j using Nat.strongRecOn with
 | _ j ih=>
  intro hj;cases hb:listed.getD j false with
  | true=>rfl
  | false=>
   exfalso;have ho:ops[j]? =some ops[j]:=by simp[hj]
   have hin:j∈Region.ready .any ops listed:=by
    simp only[Region.ready,Qbx,Qcs,jY];refine⟨hj,?_,?_⟩
    ·have hl:j < listed.size:=by omega
     simpa[Array.getD,hl]using hb
    ·rw[ho];simp only[GZ,Qc9];rw[Array.all_eq_true_iff_forall_mem];intro e he;cases hbe:Region.binds .any e with
     | false=>rfl
     | true=>
      have:=abn hd ho e (by simpa using he) hbe;simpa using ih e.on this au
   rw[h]at hin;simp at hin
theorem auU (hTy:∀t ty,T t=some ty->fU P t ty)(hΓ:∀f ct,Γ f=some ct->fV P S f ct)(hS:jd S)(hd:xM ops=true)(htr:Trace T S Γ ops n fr slot blk ops.toList Ws)(hmem:atd slot blk Ws ops)
  (hQ:∀a w,Holds S w0 g0 N n (BX slot Ws) (FX blk Ws) (· < fr+64*ops.size) a w->Q .normal a w):
  ∀(fuel:Nat) (listed:Array Bool) (a:Act) (w:World),listed.size=ops.size->(∀i o,ops[i]? =some o->listed.getD i false=true->∀e∈o.after.toList,Region.binds .any e=true->listed.getD e.on false=true)->
   listed.toList.count false<=fuel->Holds S w0 g0 N n (qi (fun j=>listed.getD j false) 0 slot Ws) (qy (fun j=>listed.getD j false) 0 blk Ws) (fun l=>l < fr\/∃j,listed.getD j false=true/\fr+64*j<=l/\l < fr+64*j+64) a w->
   wpAny P .any ops Q fuel listed a w:=by
 have hlen:Ws.length=ops.size:=by simpa using Jg _ _ _ _ _ htr
 have hWs:∀(j:Nat) (Wj:Wr D),Ws[j]? =some Wj->∃oj:Oper,ops[j]? =some oj/\Wj.dst=oj.dst:=by
  intro j Wj hj;have hlt:j < ops.size:=by have:=(Qaz.1 hj).1;omega
  obtain⟨W',hW',_,_,hst⟩:=Rk ops.toList Ws 0 j fr slot blk ops[j] htr (by simp[hlt]);rw[hj]at hW';injection hW' with hW'
  subst hW';exact⟨ops[j],by simp[hlt],hst.1⟩
 have fin:∀(listed:Array Bool) (a:Act) (w:World),listed.size=ops.size->Region.ready .any ops listed=[]->Holds S w0 g0 N n (qi (fun j=>listed.getD j false) 0 slot Ws) (qy (fun j=>listed.getD j false) 0 blk Ws) (fun l=>l < fr\/∃j,listed.getD j false=true/\fr+64*j<=l/\l < fr+64*j+64) a w->Q .normal a w:=by
  intro listed a w hsz hr h;have hall:=ready_nil hsz hd hr;rw[acT Ws 0 slot fun j hj=>by simpa using hall j au,adX Ws 0 blk fun j hj=>by simpa using hall j au]at h;obtain⟨g,hp,hrest⟩:=h;refine hQ a w ⟨g,hp.weaken ?_,hrest⟩;rintro l (hl | ⟨j,hj,h1,h2⟩)
  ·omega
  ·have:j < listed.size:=by
    by_cases hjl:j < listed.size
    ·exact hjl
    ·simp[Array.getD,hjl]at hj
   omega
 intro fuel;induction fuel with
 | zero=>
  intro listed a w hsz hcl hcnt h;have hr:Region.ready .any ops listed=[]:=by
   cases hx:Region.ready .any ops listed with
   | nil=>rfl
   | cons i rs=>
    exfalso;obtain⟨o,ho,hf,hlt,_⟩:=Ur hsz (show i∈Region.ready .any ops listed by rw[hx];simp);have hl:i < listed.size:=by omega
    have aHq:false∈listed.toList:=by
     have:listed[i]=false:=by simpa[Array.getD,hl]using hf
     rw[<-this];simp
    have:=List.count_pos_iff.2 aHq;omega
  exact⟨hr,fin listed a w hsz hr h⟩
 | succ fuel ih=>
  intro listed a w hsz hcl hcnt h;refine⟨fun hr=>fin listed a w hsz hr h,fun i hi=> ?_⟩;obtain⟨oi,hoi,hli,hilt,hed⟩:=Ur hsz hi;obtain⟨Wi,hWi,aAn,heI,hst⟩:=Rk ops.toList Ws 0 i fr slot blk oi htr (by simpa using hoi);simp only[BZ]at hst heI;have hil:i < listed.size:=by omega
  have order:∀j Wj oj,Ws[j]? =some Wj->ops[j]? =some oj->(j < i->vM ops 3 oi j=true)->(i < j->vM ops 3 oj i=true)->listed.getD j false=decide (j < i):=by
   intro j Wj oj hj hoj h1 h2;rcases Nat.lt_trichotomy j i with hji | rfl | hji
   ·rw[Ib hcl 3 oi j hed (h1 hji)];simp[hji]
   ·rw[hli];simp
   ·have hn:¬j < i:=by omega
    simp only[hn,decide_false];cases hb:listed.getD j false with
    | false=>rfl
    | true=>
     have:=Ib hcl 3 oj i (hcl j oj hoj hb) (h2 hji);rw[hli]at this;cases this
  have auz:∀(j:Nat) (Wj:Wr D) (oj:Oper) (t:Nat),Ws[j]? =some Wj->ops[j]? =some oj->Wj.dst=some t->oj.dst=some t:=by
   intro j Wj oj t hj hoj hdst;obtain⟨o',ho',hst'⟩:=hWs j Wj hj;rw[hoj]at ho';injection ho' with ho'
   subst ho';rw[<-hst'];exact hdst
  have opAt:∀j Wj,Ws[j]? =some Wj->∃oj,ops[j]? =some oj:=fun j Wj hj=>by obtain⟨o',ho',_⟩:=hWs j Wj hj;exact⟨o',ho'⟩
  have afb:∀t∈oi.looksAt ops,qi (fun j=>decide (j < i)) 0 slot Ws t=qi (fun j=>listed.getD j false) 0 slot Ws t:=by
   intro t ht;refine Hr Ws 0 slot slot (fun j Wj hj hdst=> ?_) rfl;obtain⟨oj,hoj⟩:=opAt j Wj hj;have hdj:=auz j Wj oj t hj hoj hdst;simp only[BZ];refine(order j Wj oj hj hoj (fun hji=> ?_) (fun hij=> ?_)).symm
   ·rcases DL hd hji hoj hoi with hap | he
    ·exact absurd ht ((Oper.apart_spec hap).1 t hdj)
    ·exact agm he 3
   ·rcases DL hd hij hoi hoj with hap | he
    ·exact absurd ht ((Oper.apart_spec hap).2.2 t hdj)
    ·exact agm he 3
  have hrd:KF slot blk Ws ops i=dL (qi (fun j=>decide (j < i)) 0 slot Ws) (qy (fun j=>decide (j < i)) 0 blk Ws) oi.op:=by simp[KF,hoi]
  have hblk:∀l∈dL (qi (fun j=>decide (j < i)) 0 slot Ws) (qy (fun j=>decide (j < i)) 0 blk Ws) oi.op,qy (fun j=>decide (j < i)) 0 blk Ws l=qy (fun j=>listed.getD j false) 0 blk Ws l:=by
   intro l hl;refine Hl Ws 0 blk blk (fun j Wj hj hk=> ?_) rfl;obtain⟨oj,hoj⟩:=opAt j Wj hj;simp only[BZ];exact(order j Wj oj hj hoj (fun hji=>hmem j i oi Wj Wi l hji hoi hj hWi (.inr ⟨by rw[hrd];exact hl,hk⟩)) (fun hij=>hmem i j oj Wi Wj l hij hoj hWi hj (.inl ⟨hk, .inl (by rw[hrd];exact hl)⟩))).symm
  have hst':=agP (bW:=fun t=>if t∈oi.looksAt ops then aAn t else qi (fun j=>listed.getD j false) 0 slot Ws t) (fun t ht=>by simp only[ht,if_true]) (fun l hl=>hblk l (by rw[CW heI];exact hl)) hst;have heL:∀t,Alike (qi (fun j=>listed.getD j false) 0 slot Ws t) (if t∈oi.looksAt ops then aAn t else qi (fun j=>listed.getD j false) 0 slot Ws t):=by
   intro t;by_cases ht:t∈oi.looksAt ops
   ·rw[Qb ht,<-afb t ht];exact heI t
   ·rw[qC ht];exact Alike.refl _
  refine Un hTy hΓ hS hoi (h.alike heL) ?_ hst' fun a' w' h'=> ?_
  ·rintro m hm1 hm2 (hlt | ⟨j,hj,he⟩)
   ·omega
   ·have:j=i:=by omega
    subst this;rw[hli]at hj;cases hj
  ·
   have h':=h'.alike (wM (W:=Wi) fun t=>(heL t).symm);have hget:∀j,(listed.setIfInBounds i true).getD j false=(if j=i then true else listed.getD j false):=by
    intro j;by_cases hji:j=i
    ·subst hji;simp[Array.getD,hil]
    ·simp only[hji,if_false,Array.getD];by_cases hjl:j < listed.size
     ·have hij:¬i=j:=fun e=>hji e.symm
      simp[hjl,hij]
     ·simp[hjl]
   have e1:zC (qi (fun j=>listed.getD j false) 0 slot Ws) Wi=qi (fun j=>(listed.setIfInBounds i true).getD j false) 0 slot Ws:=by
    funext t;by_cases hdst:Wi.dst=some t
    ·rw[Ei hdst];refine(XV Ws 0 i slot Wi hWi (by simp[hget]) hdst fun j Wj hij hj hdj=> ?_).symm;obtain⟨oj,hoj⟩:=opAt j Wj hj;simp only[BZ,hget,show j≠i by omega,if_false];have:=order j Wj oj hj hoj (fun h=>by omega) (fun _=>by
      rcases DL hd hij hoi hoj with hap | he
      ·exact absurd (auz j Wj oj t hj hoj hdj) ((Oper.apart_spec hap).2.1 t (auz i Wi oi t hWi hoi hdst))
      ·exact agm he 3)
     rw[this];simp;omega
    ·rw[AY hdst];refine Hr Ws 0 slot slot (fun j Wj hj hdj=> ?_) rfl;have hji:j≠i:=by
      rintro rfl;rw[hWi]at hj;injection hj with hj
      subst hj;exact hdst hdj
     simp[hget,hji]
   have e2:zM (qy (fun j=>listed.getD j false) 0 blk Ws) Wi=qy (fun j=>(listed.setIfInBounds i true).getD j false) 0 blk Ws:=by
    funext t;by_cases hk:t∈Wi.keys
    ·refine(YH Ws 0 i blk _ Wi hWi (by simp[hget]) hk fun j Wj hij hj hkj=> ?_).symm;obtain⟨oj,hoj⟩:=opAt j Wj hj;simp only[BZ,hget,show j≠i by omega,if_false];have:=order j Wj oj hj hoj (fun h=>by omega) (fun _=>hmem i j oj Wi Wj t hij hoj hWi hj (.inl ⟨hkj, .inr hk⟩));rw[this];simp;omega
    ·rw[show zM (qy (fun j=>listed.getD j false) 0 blk Ws) Wi t=qy (fun j=>listed.getD j false) 0 blk Ws t from ry hk];refine Hl Ws 0 blk blk (fun j Wj hj hkj=> ?_) rfl;have hji:j≠i:=by
      rintro rfl;rw[hWi]at hj;injection hj with hj
      subst hj;exact hk hkj
     simp[hget,hji]
   rw[e1,e2]at h';refine ih _ a' w' (by simp[hsz]) ?_ ?_ ?_
   ·intro j o ho hj e he hb;rw[hget]at hj⊢;by_cases hji:j=i
    ·subst hji;rw[hoi]at ho;injection ho with ho
     subst ho;have:=hed e he hb;split<;>simp_all
    ·rw[qC hji]at hj;have:=hcl j o ho hj e he hb;split<;>simp_all
   ·have hx:listed.toList[i]'(by simpa using hil)=false:=by simpa[Array.getD,hil]using hli
    have hc:(listed.setIfInBounds i true).toList.count false=listed.toList.count false - 1:=by
     rw[Array.toList_setIfInBounds,List.count_set (by simpa using hil)];simp[hx]
    omega
   ·obtain⟨g,hp,hrest⟩:=h';refine⟨g,hp.weaken ?_,hrest⟩;rintro l ((hl | ⟨j,hj,hr⟩) | hr)
    ·exact .inl hl
    ·exact .inr ⟨j,by rw[hget];split<;>simp_all,hr⟩
    ·exact .inr ⟨i,by simp[hget],hr⟩
theorem ade {id:Nat}(hm:P.follows .mixedOrders=true)(hTy:∀t ty,T t=some ty->fU P t ty)(hΓ:∀f ct,Γ f=some ct->fV P S f ct)(hS:jd S)(hd:xM ops=true)(htr:Trace T S Γ ops n fr slot blk ops.toList Ws)(hmem:atd slot blk Ws ops)
  (h:Holds S w0 g0 N n slot blk (· < fr) a w) (hQ:∀a w,Holds S w0 g0 N n (BX slot Ws) (FX blk Ws) (· < fr+64*ops.size) a w->Q .normal a w):(Code.region id ops true).wp P Q a w:=by
 refine wp_region_any hm (auU hTy hΓ hS hd htr hmem hQ ops.size _ a _ oJ ?_ oJ ?_)
 ·intro i o _ hi;exfalso;by_cases hlt:i < ops.size
  ·simp[Array.getD,hlt]at hi
  ·simp[Array.getD,hlt]at hi
 ·have hL:∀j,(Array.replicate ops.size false).getD j false=false:=by
   intro j;by_cases hlt:j < ops.size<;>simp[Array.getD,hlt]
  have e1:qi (fun j=>(Array.replicate ops.size false).getD j false) 0 slot Ws=slot:=by
   funext t;exact FH _ _ _ fun j W _ _=>hL _
  have e2:qy (fun j=>(Array.replicate ops.size false).getD j false) 0 blk Ws=blk:=by
   funext t;exact ER _ _ _ fun j W _ _=>hL _
  rw[e1,e2];obtain⟨g,hp,hs,hn,hdf,hm0⟩:=h;have hB:Below w.heap.size w {w with drawn:=w.drawn+1}:=⟨rfl,rfl,rfl,lU _,fun _ _=>rfl⟩;obtain⟨hp',hk⟩:=hp.grow hB;exact⟨g,hp'.weaken fun l hl=> .inl hl,fun t=>(hs t).keep hk (More.refl _),hn,hdf,hm0⟩
end
end Go.Vc
namespace Go.Vc
open Go.RowKit
structure Alg (τ:Type 1) where
 stuck:τ
 ob:DP->τ->τ
 br:Bool->τ->τ->τ
structure VJ {τ:Type 1}(A:Alg τ)(den:τ->Prop):Prop where
 stuck:¬den A.stuck
 ob:∀{p k},den (A.ob p k)->p.p/\den k
 br:∀{b t e},den (A.br b t e)->(b=true->den t)/\(b=false->den e)
def Alg.opt {τ:Type 1}(A:Alg τ)(p:Option DP)(k:τ):τ:=
 match p with
 | none=>k
 | some p=>A.ob p k
theorem VJ.opt {τ:Type 1}{A:Alg τ}{den:τ->Prop}(hA:VJ A den){p:Option DP}{k:τ}(h:den (A.opt p k)):lZ p/\den k:=by
 cases p with
 | none=>exact⟨trivial,h⟩
 | some p=>exact hA.ob h
def look {α:Type}(d:α):List (Nat×α)->Nat->α
 | [],_=>d
 | (k,v)::r,n=>if Nat.beq n k then v else look d r n
theorem wz {α:Type}(d:α)(k:Nat)(v:α)(r:List (Nat×α)):look d ((k,v)::r)=upd (look d r) k v:=by
 funext n;simp only[look,upd];by_cases h:n=k
 ·simp[h]
 ·have:¬(n.beq k=true):=fun e=>h (Qa e)
  simp[h,this]
theorem ac_ {α:Type}(d:α):∀(bs l:List (Nat×α)),look d (bs.reverse++l)=lG (look d l) bs
 | [],l=>rfl
 | (k,v)::bs,l=>by
  rw[List.reverse_cons,Qba,List.singleton_append,ac_ d bs,wz];rfl
structure St (D:Type) where
 tmps:List (Nat×Sl D)
 blks:List (Nat×Option (Bk D))
 next:Nat
def St.slot {D:Type}(s:St D):Nat->Sl D:=look (.one (.lf .any)) s.tmps
def St.blk {D:Type}(s:St D):Nat->Option (Bk D):=look none s.blks
def St.put {D:Type}(s:St D)(dst:Option Nat)(v:Sl D)(bs:List (Nat×Option (Bk D))):St D:=
 match dst with
 | some d=>⟨(d,v)::s.tmps,bs.reverse++s.blks,s.next⟩
 | none=>⟨s.tmps,bs.reverse++s.blks,s.next⟩
theorem zt {D:Type}(s:St D)(dst:Option Nat)(v:Sl D)(bs:List (Nat×Option (Bk D))):(s.put dst v bs).slot=zC s.slot ⟨dst,v,bs⟩:=by
 cases dst with
 | none=>rfl
 | some d=>exact wz _ _ _ _
theorem Fq {D:Type}(s:St D)(dst:Option Nat)(v:Sl D)(bs:List (Nat×Option (Bk D))):(s.put dst v bs).blk=zM s.blk ⟨dst,v,bs⟩:=by
 cases dst<;>exact ac_ _ _ _
theorem wW {D:Type}(s:St D)(dst:Option Nat)(v:Sl D)(bs:List (Nat×Option (Bk D))):(s.put dst v bs).next=s.next:=by
 cases dst<;>rfl
theorem ajY {D:Type}{s:St D}{dst:Option Nat}{v:Sl D}{bs pre x:List (Nat×Option (Bk D))}(h:x=pre++(s.put dst v bs).blks):∃pre',x=pre'++s.blks:=by
 cases dst<;>exact⟨pre++bs.reverse,by rw[h];simp[St.put]⟩
theorem YD {D:Type}{s:St D}{dst:Option Nat}{v:Sl D}{bs:List (Nat×Option (Bk D))}{t:Nat}(h:dst≠some t):(s.put dst v bs).slot t=s.slot t:=by
 cases dst with
 | none=>rfl
 | some d=>
  show look _ _ t=look _ _ t
  rw[show(s.put (some d) v bs).tmps=(d,v)::s.tmps from rfl,wz];exact bK _ _ _ _ fun e=>h (by rw[e])
def meets (a b:List Nat):Bool:=a.any fun x=>b.any fun y=>Nat.beq x y
def awK (ops:Array Oper)(acc:List (Nat×List Nat×List Nat))(o:Oper)(rb wb:List Nat):Bool:=
 acc.any fun p=>(meets wb p.2.1 || meets wb p.2.2 || meets rb p.2.2) && !vM ops 3 o p.1
def aeD (n:Nat):Option Nat->Bool
 | none=>true
 | some d=>Nat.blt d n
section
variable {D:Type}{τ:Type 1}
def stepW (A:Alg τ)(ops:Array Oper)(draw:Bool)(o:Oper)(i:Nat)(acc:List (Nat×List Nat×List Nat))(s:St D)(out:Out D)(k:List (Nat×List Nat×List Nat)->St D->τ):τ:=
 match draw with
 | false=>A.opt out.pre (k acc (s.put o.dst out.val out.blks))
 | true=>
  if awK ops acc o (dL s.slot s.blk o.op) (out.blks.map (·.1))then A.stuck
  else A.opt out.pre (k ((i,dL s.slot s.blk o.op,out.blks.map (·.1))::acc) (s.put o.dst out.val out.blks))
def Xr (A:Alg τ)(T:TypeId->Option Ty)(S:Sh D)(Γ:FuncId->Option (Ct D))(ops:Array Oper)(draw:Bool)(o:Oper)(i:Nat)(acc:List (Nat×List Nat×List Nat))(s:St D)(k:List (Nat×List Nat×List Nat)->St D->τ):τ:=
 match U9 s.slot s.blk o.op with
 | some (b,o1,o2)=>A.br b (stepW A ops draw o i acc s o1 k) (stepW A ops draw o i acc s o2 k)
 | none=>
  match amG T S Γ s.slot s.blk (s.next+64*i) o.op with
  | none=>A.stuck
  | some out=>stepW A ops draw o i acc s out k
def Yo (A:Alg τ)(ops:Array Oper)(draw:Bool)(o:Oper)(i:Nat)(acc:List (Nat×List Nat×List Nat))(s:St D)(k:List (Nat×List Nat×List Nat)->St D->τ):τ:=
 match draw with
 | false=>k acc (s.put o.dst (.one (.lf (.val undef))) [])
 | true=>
  if awK ops acc o (dL s.slot s.blk o.op) []then A.stuck
  else k ((i,dL s.slot s.blk o.op,[])::acc) (s.put o.dst (.one (.lf (.val undef))) [])
def nV (A:Alg τ)(T:TypeId->Option Ty)(S:Sh D)(Γ:FuncId->Option (Ct D))(ops:Array Oper)(n:Nat)(draw:Bool):List Oper->Nat->List (Nat×List Nat×List Nat)->St D->(St D->τ)->τ
 | [],i,_,s,K=>K ⟨s.tmps,s.blks,s.next+64*i⟩
 | o::r,i,acc,s,K=>
  match aeD n o.dst with
  | false=>A.stuck
  | true=>
   match o.guard with
   | none=>Xr A T S Γ ops draw o i acc s fun acc s=>nV A T S Γ ops n draw r (i+1) acc s K
   | some (j,want)=>
    match(ops[j]?).bind (·.dst)with
    | none=>A.stuck
    | some d=>
     match s.slot d with
     | .one (.lf (.bool b))=>
      match want with
      | true=>A.br b (Xr A T S Γ ops draw o i acc ⟨(d, .one (.lf (.val (.bool true))))::s.tmps,s.blks,s.next⟩ fun acc s=>nV A T S Γ ops n draw r (i+1) acc s K)
        (Yo A ops draw o i acc ⟨(d, .one (.lf (.val (.bool false))))::s.tmps,s.blks,s.next⟩ fun acc s=>nV A T S Γ ops n draw r (i+1) acc s K)
      | false=>A.br b (Yo A ops draw o i acc ⟨(d, .one (.lf (.val (.bool true))))::s.tmps,s.blks,s.next⟩ fun acc s=>nV A T S Γ ops n draw r (i+1) acc s K)
        (Xr A T S Γ ops draw o i acc ⟨(d, .one (.lf (.val (.bool false))))::s.tmps,s.blks,s.next⟩ fun acc s=>nV A T S Γ ops n draw r (i+1) acc s K)
     | .one (.lf (.val (.bool b)))=>
      match b==want with
      | true=>Xr A T S Γ ops draw o i acc s fun acc s=>nV A T S Γ ops n draw r (i+1) acc s K
      | false=>Yo A ops draw o i acc s fun acc s=>nV A T S Γ ops n draw r (i+1) acc s K
     | .one (.lf (.val v))=>
      match QZ v with
      | true=>Yo A ops draw o i acc s fun acc s=>nV A T S Γ ops n draw r (i+1) acc s K
      | false=>A.stuck
     | _=>A.stuck
end
section
variable {D:Type}{P:Program}{S:Sh D}{T:TypeId->Option Ty}{Γ:FuncId->Option (Ct D)}{N:Nat->Prop}{w w':World}{w0:Bs}{n:Nat}{ops:Array Oper}{τ:Type 1}{A:Alg τ}{den:τ->Prop}
def YI (p:List Nat×List Nat)(rb wb:List Nat):Prop:=∃l,(l∈wb/\(l∈p.1\/l∈p.2))\/(l∈rb/\l∈p.2)
theorem Vt {a b:List Nat}{l:Nat}(ha:l∈a)(hb:l∈b):meets a b=true:=by
 simp only[meets,Qcr];exact⟨l,ha,l,hb,by simp⟩
theorem akh {acc:List (Nat×List Nat×List Nat)}{o:Oper}{rb wb:List Nat}(h:¬awK ops acc o rb wb=true):∀p∈acc,YI p.2 rb wb->vM ops 3 o p.1=true:=by
 intro p hp ⟨l,hc⟩;cases he:vM ops 3 o p.1 with
 | true=>rfl
 | false=>
  exfalso;apply h;simp only[awK,Qcr,jY,Qbt];refine⟨p,hp,?_,by simp[he]⟩;rcases hc with⟨hw,h1 | h2⟩ | ⟨hr,h2⟩
  ·exact .inl (.inl (Vt hw h1))
  ·exact .inl (.inr (Vt hw h2))
  ·exact .inr (Vt hr h2)
def ahy (ops:Array Oper):List (Nat×List Nat×List Nat)->Nat->(Nat->Sl D)->(Nat->Option (Bk D))->List Oper->List (Wr D)->Prop
 | _,_,_,_,[],_=>True
 | _,_,_,_,_::_,[]=>True
 | acc,i,slot,blk,o::r,W::Ws=>(∀p∈acc,YI p.2 (dL slot blk o.op) W.keys->vM ops 3 o p.1=true)/\ahy ops ((i,dL slot blk o.op,W.keys)::acc) (i+1) (zC slot W) (zM blk W) r Ws
def Gn (den:τ->Prop)(T:TypeId->Option Ty)(S:Sh D)(Γ:FuncId->Option (Ct D))(ops:Array Oper)(n:Nat)(draw:Bool)(l:List Oper)(i:Nat)(acc:List (Nat×List Nat×List Nat))(s:St D)(K:St D->τ):Prop:=
 ∃Ws s',Trace T S Γ ops n (s.next+64*i) s.slot s.blk l Ws/\(∀t,Alike (BX s.slot Ws t) (s'.slot t))/\s'.blk=FX s.blk Ws/\s'.next=s.next+64*(i+l.length)/\den (K s')/\(draw=true->ahy ops acc i s.slot s.blk l Ws)/\
  (∃pre,s'.blks=pre++s.blks)/\∀t,(∀o∈ops.toList,o.dst≠some t)->(∀o∈l,o.dst≠some t)->s'.slot t=s.slot t
theorem NS:∀(l:List Oper) (Ws:List (Wr D)) (fr:Nat) (slot bW:Nat->Sl D) (blk:Nat->Option (Bk D)),(∀t,Alike (slot t) (bW t))->Trace T S Γ ops n fr slot blk l Ws->Trace T S Γ ops n fr bW blk l Ws
 | [],[],_,_,_,_,_,_=>trivial
 | [],_::_,_,_,_,_,_,h=>by simp[Trace]at h
 | _::_,[],_,_,_,_,_,h=>by simp[Trace]at h
 | o::l,W::Ws,fr,slot,bW,blk,he,⟨⟨s1,h1,hst⟩,hr⟩=>⟨⟨s1,fun t=>(he t).symm.trans (h1 t),hst⟩,NS l Ws (fr+64) _ _ _ (wM he) hr⟩
theorem NT:∀(Ws:List (Wr D)) (slot bW:Nat->Sl D),(∀t,Alike (slot t) (bW t))->∀t,Alike (BX slot Ws t) (BX bW Ws t)
 | [],_,_,h,t=>h t
 | W::Ws,_,_,h,t=>NT Ws _ _ (wM h) t
theorem Vo:∀(l:List Oper) (Ws:List (Wr D)) (acc:List (Nat×List Nat×List Nat)) (i:Nat) (slot bW:Nat->Sl D) (blk:Nat->Option (Bk D)),(∀t,Alike (slot t) (bW t))->ahy ops acc i slot blk l Ws->ahy ops acc i bW blk l Ws
 | [],_,_,_,_,_,_,_,_=>trivial
 | _::_,[],_,_,_,_,_,_,_=>trivial
 | o::l,W::Ws,acc,i,slot,bW,blk,he,h=>by
  have e:=CW (op:=o.op) (blk:=blk) he;simp only[ahy]at h⊢;rw[e]at h;exact⟨h.1,Vo l Ws _ _ _ _ _ (wM he) h.2⟩
theorem xN {draw:Bool}{o:Oper}{r:List Oper}{i:Nat}{acc:List (Nat×List Nat×List Nat)}{s:St D}{K:St D->τ}(hA:VJ A den)(hd:aeD n o.dst=true)(hw:Wanted ops s.slot o true)
  (ih:∀acc s,den (nV A T S Γ ops n draw r (i+1) acc s K)->Gn den T S Γ ops n draw r (i+1) acc s K)
  (h:den (Xr A T S Γ ops draw o i acc s fun acc s=>nV A T S Γ ops n draw r (i+1) acc s K)):Gn den T S Γ ops n draw (o::r) i acc s K:=by
 have hlt:∀d,o.dst=some d->d < n:=fun d e=>by rw[e]at hd;simpa[aeD,Gf]using hd
 have each:∀out,Does T S Γ s.slot s.blk (s.next+64*i) o.op out->den (stepW A ops draw o i acc s out fun acc s=>nV A T S Γ ops n draw r (i+1) acc s K)->Gn den T S Γ ops n draw (o::r) i acc s K:=by
  intro out hx h;have go:∀acc',lZ out.pre->den (nV A T S Γ ops n draw r (i+1) acc' (s.put o.dst out.val out.blks) K)->(draw=true->acc'=(i,dL s.slot s.blk o.op,out.blks.map (·.1))::acc/\∀p∈acc,YI p.2 (dL s.slot s.blk o.op) (out.blks.map (·.1))->vM ops 3 o p.1=true)->Gn den T S Γ ops n draw (o::r) i acc s K:=by
   intro acc' hp hr hacc;obtain⟨Ws,s',htr,h1,h2,h3,h4,h5,⟨pre,h6⟩,h7⟩:=ih acc' _ hr;rw[zt,Fq,wW]at htr;rw[zt]at h1;rw[Fq]at h2;rw[wW]at h3;rw[zt,Fq]at h5;refine⟨⟨o.dst,out.val,out.blks⟩::Ws,s',⟨⟨s.slot,fun _=>Alike.refl _,rfl,hlt, .inl ⟨hw,out,hx,hp,rfl,rfl⟩⟩,?_⟩,h1,h2,by rw[h3];simp;omega,h4,fun hdr=> ?_,?_,fun t q1 q2=> ?_⟩
   ·rw[show s.next+64*i+64=s.next+64*(i+1) by omega];exact htr
   ·obtain⟨e,hc⟩:=hacc hdr;subst e;exact⟨hc,h5 hdr⟩
   ·exact ajY h6
   ·rw[h7 t q1 fun o' ho'=>q2 o' (by simp[ho'])];exact YD (q2 o oJ)
  unfold stepW at h;split at h
  ·obtain⟨hp,hr⟩:=hA.opt h;exact go acc hp hr (fun e=>by cases e)
  ·split at h
   ·exact(hA.stuck h).elim
   ·rename_i hb;obtain⟨hp,hr⟩:=hA.opt h;exact go _ hp hr (fun _=>⟨rfl,akh hb⟩)
 unfold Xr at h;split at h
 ·rename_i b o1 o2 hn;obtain⟨h1,h2⟩:=hA.br h;cases hb:b with
  | true=>exact each o1 (.inr ⟨b,o1,o2,hn,by rw[hb];rfl⟩) (h1 hb)
  | false=>exact each o2 (.inr ⟨b,o1,o2,hn,by rw[hb];rfl⟩) (h2 hb)
 ·split at h
  ·exact(hA.stuck h).elim
  ·rename_i out hx;exact each out (.inl hx) h
theorem yw {draw:Bool}{o:Oper}{r:List Oper}{i:Nat}{acc:List (Nat×List Nat×List Nat)}{s:St D}{K:St D->τ}(hA:VJ A den)(hd:aeD n o.dst=true)(hw:Wanted ops s.slot o false)
  (ih:∀acc s,den (nV A T S Γ ops n draw r (i+1) acc s K)->Gn den T S Γ ops n draw r (i+1) acc s K)
  (h:den (Yo A ops draw o i acc s fun acc s=>nV A T S Γ ops n draw r (i+1) acc s K)):Gn den T S Γ ops n draw (o::r) i acc s K:=by
 have hlt:∀d,o.dst=some d->d < n:=fun d e=>by rw[e]at hd;simpa[aeD,Gf]using hd
 have go:∀acc',den (nV A T S Γ ops n draw r (i+1) acc' (s.put o.dst (.one (.lf (.val undef))) []) K)->(draw=true->acc'=(i,dL s.slot s.blk o.op,[])::acc/\∀p∈acc,YI p.2 (dL s.slot s.blk o.op) []->vM ops 3 o p.1=true)->Gn den T S Γ ops n draw (o::r) i acc s K:=by
  intro acc' hr hacc;obtain⟨Ws,s',htr,h1,h2,h3,h4,h5,⟨pre,h6⟩,h7⟩:=ih acc' _ hr;rw[zt,Fq,wW]at htr;rw[zt]at h1;rw[Fq]at h2;rw[wW]at h3;rw[zt,Fq]at h5;refine⟨⟨o.dst, .one (.lf (.val undef)),[]⟩::Ws,s',⟨⟨s.slot,fun _=>Alike.refl _,rfl,hlt, .inr ⟨hw,rfl,rfl⟩⟩,?_⟩,h1,h2,by rw[h3];simp;omega,h4,fun hdr=> ?_,?_,fun t q1 q2=> ?_⟩
  ·rw[show s.next+64*i+64=s.next+64*(i+1) by omega];exact htr
  ·obtain⟨e,hc⟩:=hacc hdr;subst e;exact⟨hc,h5 hdr⟩
  ·exact ajY h6
  ·rw[h7 t q1 fun o' ho'=>q2 o' (by simp[ho'])];exact YD (q2 o oJ)
 unfold Yo at h;split at h
 ·exact go acc h (fun e=>by cases e)
 ·split at h
  ·exact(hA.stuck h).elim
  ·rename_i hb;exact go _ h (fun _=>⟨rfl,akh hb⟩)
theorem XD (hA:VJ A den){draw:Bool}{K:St D->τ}:∀(l:List Oper) (i:Nat) (acc:List (Nat×List Nat×List Nat)) (s:St D),den (nV A T S Γ ops n draw l i acc s K)->Gn den T S Γ ops n draw l i acc s K
 | [],i,acc,s,h=>⟨[],⟨s.tmps,s.blks,s.next+64*i⟩,trivial,fun _=>Alike.refl _,rfl,rfl,h,fun _=>trivial,⟨[],rfl⟩,fun _ _ _=>rfl⟩
 | o::r,i,acc,s,h=>by
  have ih:=fun acc s=>XD hA (draw:=draw) (K:=K) r (i+1) acc s
  unfold nV at h;split at h
  ·exact(hA.stuck h).elim
  ·rename_i hd;split at h
   ·rename_i hg;exact xN hA hd (by simp[Wanted,hg]) ih h
   ·rename_i j want hg;split at h
    ·exact(hA.stuck h).elim
    ·rename_i d hj;split at h
     ·rename_i b hb;have same:∀c:Bool,b=c->∀t,Alike ((⟨(d, .one (.lf (.val (.bool c))))::s.tmps,s.blks,s.next⟩:St D).slot t) (s.slot t):=by
       rintro c rfl t;show Alike (look _ _ t) _
       rw[wz];by_cases ht:t=d
       ·subst ht;rw[upd_same,hb];exact .inr ⟨b,rfl,rfl⟩
       ·rw[bK _ _ _ _ ht];exact Alike.refl _
      have lift:∀c:Bool,b=c->Gn den T S Γ ops n draw (o::r) i acc (⟨(d, .one (.lf (.val (.bool c))))::s.tmps,s.blks,s.next⟩:St D) K->Gn den T S Γ ops n draw (o::r) i acc s K:=by
       rintro c hc ⟨Ws,s',h1,h2,h3,h4,h5,h6,h7,h8⟩;refine⟨Ws,s',NS _ _ _ _ _ _ (same c hc) h1,fun t=>(NT Ws _ _ (same c hc) t).symm.trans (h2 t),h3,h4,h5,fun hd=>Vo _ _ _ _ _ _ _ (same c hc) (h6 hd),h7,fun t q1 q2=>(h8 t q1 q2).trans ?_⟩;show look _ _ t=look _ _ t
       rw[wz];refine bK _ _ _ _ fun e=> ?_;subst e;cases hoj:ops[j]? with
       | none=>rw[hoj]at hj;cases hj
       | some oj=>
        rw[hoj]at hj;exact q1 oj (by have:=Qd2 hoj;simpa using this) hj
      have wt:∀c:Bool,b=c->Wanted ops (⟨(d, .one (.lf (.val (.bool c))))::s.tmps,s.blks,s.next⟩:St D).slot o (c==want):=by
       intro c hc;simp only[Wanted,hg];refine⟨d,hj, .inl ⟨c,?_,rfl⟩⟩;show bOf (look _ _ d)=_
       rw[wz,upd_same];rfl
      cases want with
      | true=>
       obtain⟨ht,he⟩:=hA.br h;cases hbv:b with
       | true=>exact lift true hbv (xN hA hd (wt true hbv) ih (ht hbv))
       | false=>exact lift false hbv (yw hA hd (wt false hbv) ih (he hbv))
      | false=>
       obtain⟨ht,he⟩:=hA.br h;cases hbv:b with
       | true=>exact lift true hbv (yw hA hd (wt true hbv) ih (ht hbv))
       | false=>exact lift false hbv (xN hA hd (wt false hbv) ih (he hbv))
     ·rename_i b hb;have wt:Wanted ops s.slot o (b==want):=by
       simp only[Wanted,hg];exact⟨d,hj, .inl ⟨b,by rw[hb];rfl,rfl⟩⟩
      split at h
      ·rename_i he;rw[he]at wt;exact xN hA hd wt ih h
      ·rename_i he;rw[he]at wt;exact yw hA hd wt ih h
     ·rename_i v _ hv;split at h
      ·rename_i hn;exact yw hA hd (by simp only[Wanted,hg];exact⟨d,hj, .inr ⟨v,hv,hn,trivial⟩⟩) ih h
      ·exact(hA.stuck h).elim
     ·exact(hA.stuck h).elim
theorem apb:∀(l:List Oper) (Ws:List (Wr D)) (acc:List (Nat×List Nat×List Nat)) (b:Nat) (slot:Nat->Sl D) (blk:Nat->Option (Bk D)),ahy ops acc b slot blk l Ws->
  ∀j oj Wj,l[j]? =some oj->Ws[j]? =some Wj->(∀p∈acc,YI p.2 (dL (qi (fun k=>decide (k < b+j)) b slot Ws) (qy (fun k=>decide (k < b+j)) b blk Ws) oj.op) Wj.keys->vM ops 3 oj p.1=true)/\
   ∀i oi Wi,i < j->l[i]? =some oi->Ws[i]? =some Wi->YI (dL (qi (fun k=>decide (k < b+i)) b slot Ws) (qy (fun k=>decide (k < b+i)) b blk Ws) oi.op,Wi.keys) (dL (qi (fun k=>decide (k < b+j)) b slot Ws) (qy (fun k=>decide (k < b+j)) b blk Ws) oj.op) Wj.keys->vM ops 3 oj (b+i)=true
 | [],_,_,_,_,_,_,j,oj,Wj,hj,_=>by simp at hj
 | _::_,[],_,_,_,_,_,j,oj,Wj,_,hW=>by simp at hW
 | o::r,W::Ws,acc,b,slot,blk,h,j,oj,Wj,hj,hW=>by
  have e0:qi (fun k=>decide (k < b+0)) b slot (W::Ws)=slot:=by
   funext t;exact FH _ _ _ fun j W' _ _=>by simp
  have f0:qy (fun k=>decide (k < b+0)) b blk (W::Ws)=blk:=by
   funext t;exact ER _ _ _ fun j W' _ _=>by simp
  have es:∀j,qi (fun k=>decide (k < b+(j+1))) b slot (W::Ws)=qi (fun k=>decide (k < b+1+j)) (b+1) (zC slot W) Ws:=by
   intro j;have hb:decide (b < b+(j+1))=true:=by simp
   simp only[qi,hb,if_true];rw[show b+(j+1)=b+1+j by omega]
  have fs:∀j,qy (fun k=>decide (k < b+(j+1))) b blk (W::Ws)=qy (fun k=>decide (k < b+1+j)) (b+1) (zM blk W) Ws:=by
   intro j;have hb:decide (b < b+(j+1))=true:=by simp
   simp only[qy,hb,if_true];rw[show b+(j+1)=b+1+j by omega]
  cases j with
  | zero=>
   simp only[Qch,KZ]at hj hW;subst hj hW;rw[e0,f0];exact⟨h.1,fun i _ _ hi=>by omega⟩
  | succ j=>
   obtain⟨h1,h2⟩:=apb r Ws _ (b+1) _ _ h.2 j oj Wj qb7 (by simpa using hW);rw[es j,fs j];refine⟨fun p hp=>h1 p (by simp[hp]),fun i oi Wi hij hi hWi hc=> ?_⟩;cases i with
   | zero=>
    simp only[Qch,KZ]at hi hWi;subst hi hWi;rw[e0,f0]at hc;exact h1 (b,dL slot blk o.op,W.keys) oJ hc
   | succ i=>
    rw[es i,fs i]at hc;have:=h2 i oi Wi au qcm (by simpa using hWi) hc;rwa [show b+1+i=b+(i+1) by omega]at this
theorem agu {slot:Nat->Sl D}{blk:Nat->Option (Bk D)}{Ws:List (Wr D)}(h:ahy ops [] 0 slot blk ops.toList Ws):atd slot blk Ws ops:=by
 intro i j oj Wi Wj l hij hoj hWi hWj hc;obtain⟨_,h2⟩:=apb ops.toList Ws [] 0 slot blk h j oj Wj (by simpa using hoj) hWj;by_cases hi:i < ops.size
 ·have hoi:ops[i]? =some ops[i]:=by simp[hi]
  have:=h2 i ops[i] Wi hij (by simp[hi]) hWi;simp only[BZ]at this;refine this ⟨l,?_⟩;simpa[KF,hoi,hoj]using hc
 ·have hj:j < ops.size:=(Qcj.1 hoj).1;omega
end
end Go.Vc
