/- Own engine: Vd8, Vd9, Vda, Vdb. -/
import Derived.Test.YtiibcbmenoaigaaGreatDoorEng5
namespace Go.Vc
open Go.RowKit
set_option linter.unusedVariables false
def notBool:Value->Bool
 | .bool _=>false
 | _=>true
structure Wr (D:Type) where
 dst:Option Nat
 val:Sl D
 blks:List (Nat×Option (Bk D))
def appS {D:Type}(slot:Nat->Sl D)(W:Wr D):Nat->Sl D:=
 match W.dst with
 | some d=>upd slot d W.val
 | none=>slot
def appB {D:Type}(blk:Nat->Option (Bk D))(W:Wr D):Nat->Option (Bk D):=updL blk W.blks
def Wanted {D:Type}(ops:Array Oper)(slot:Nat->Sl D)(o:Oper)(r:Bool):Prop:=
 match o.guard with
 | none=>r=true
 | some (j,want)=>∃d,(ops[j]?).bind (·.dst)=some d/\((∃b,bOf (slot d)=some b/\r=(b==want))\/(∃v,slot d= .one (.lf (.val v))/\notBool v=true/\r=false))
def StepOk {D:Type}(T:TypeId->Option Ty)(S:Sh D)(Γ:FuncId->Option (Ct D))(ops:Array Oper)(n fr:Nat)(slot:Nat->Sl D)(blk:Nat->Option (Bk D))(o:Oper)(W:Wr D):Prop:=
 W.dst=o.dst/\(∀d,o.dst=some d->d < n)/\
 (
   (Wanted ops slot o true/\∃out,Does T S Γ slot blk fr o.op out/\preD out.pre/\W.val=out.val/\W.blks=out.blks)\/
   (Wanted ops slot o false/\W.val= .one (.lf (.val undef))/\W.blks=[]))
def Holds {D:Type}(S:Sh D)(w0:Bs)(g0:Nat->Option Value)(N:Nat->Prop)(n:Nat)(slot:Nat->Sl D)(blk:Nat->Option (Bk D))(al:Nat->Prop)(a:Act)(w:World):Prop:=
 ∃g,Hp S w0 N blk g al w/\(∀t,(slot t).Rel S (Mset N blk g) w g (a.tmps.getD t undef))/\a.tmps.size=n/\a.defers=[]/\More g0 g
section
variable {D:Type}{P:Program}{S:Sh D}{T:TypeId->Option Ty}{Γ:FuncId->Option (Ct D)}{N:Nat->Prop}{w w':World}{w0:Bs}{g0:Nat->Option Value}{blk:Nat->Option (Bk D)}{al:Nat->Prop}
 {a:Act} {o:Oper} {K:Act->World->Prop} {Q:Exit->Act->World->Prop} {slot:Nat->Sl D} {fr n:Nat} {ops:Array Oper} {W:Wr D}
theorem getD_put {d:Option Tmp}{v:Value}{t:Nat}(hd:∀x,d=some x->x < a.tmps.size):(a.put d v).tmps.getD t undef=if d=some t then v else a.tmps.getD t undef:=by
 cases d with
 | none=>simp[Act.put]
 | some d=>
  have:=hd d rfl
  simp only[Act.put]
  by_cases h:d=t
  ·subst h
   simp[Array.getD,this]
  ·rw[if_neg (by simpa using h)]
   simp only[Array.getD]
   by_cases ht:t < a.tmps.size
   ·simp[ht,h]
   ·simp[ht]
theorem wanted_spec {g:Nat->Option Value}{M:Nat->Prop}{r:Bool}(hs:∀t,(slot t).Rel S M w g (a.tmps.getD t undef))(h:Wanted ops slot o r):Region.wanted o (yielded ops a.tmps)=r:=by
 unfold Wanted at h
 unfold Region.wanted
 split at h
 ·rename_i hg;simp only[hg];exact h.symm
 ·rename_i j want hg
  simp only[hg]
  obtain⟨d,hd,h⟩:=h
  have hy:∀v,a.tmps.getD d undef=v->notBool v=true->yielded ops a.tmps j=none:=by
   intro v hv hn
   simp only[yielded,hd,Option.bind_some]
   by_cases hlt:d < a.tmps.size
   ·simp only[Array.getD,hlt,dif_pos]at hv
    simp only[Array.getElem?_eq_getElem hlt]
    have:a.tmps[d]=v:=hv
    rw[this]
    cases v<;>first | rfl | simp[notBool]at hn
   ·simp[hlt]
  rcases h with⟨b,hb,rfl⟩ | ⟨v,hv,hn,rfl⟩
  ·have:=hs d
   have this:=bOf_rel hb this
   have hy2:yielded ops a.tmps j=some b:=by
    simp only[yielded,hd,Option.bind_some]
    by_cases hlt:d < a.tmps.size
    ·simp only[Array.getD,hlt,dif_pos]at this
     simp only[Array.getElem?_eq_getElem hlt]
     have h2:a.tmps[d]= .bool b:=this
     rw[h2]
    ·simp[Array.getD,hlt,undef]at this
   rw[hy2]
   cases b<;>cases want<;>rfl
  ·have:=hs d
   rw[hv]at this
   simp only[Sl.Rel,Sv.Rel,Lf.Rel]at this
   rw[hy v this hn]
   rfl
def Alike (x y:Sl D):Prop:=x=y\/∃b,bOf x=some b/\bOf y=some b
theorem Alike.refl (x:Sl D):Alike x x:= .inl rfl
theorem Alike.symm {x y:Sl D}(h:Alike x y):Alike y x:=by
 rcases h with rfl | ⟨b,h1,h2⟩
 ·exact .inl rfl
 ·exact .inr ⟨b,h2,h1⟩
theorem Alike.trans {x y z:Sl D}(h:Alike x y)(k:Alike y z):Alike x z:=by
 rcases h with rfl | ⟨b,h1,h2⟩
 ·exact k
 ·rcases k with rfl | ⟨c,h3,h4⟩
  ·exact .inr ⟨b,h1,h2⟩
  ·rw[h2]at h3
   injection h3 with h3
   subst h3
   exact .inr ⟨b,h1,h4⟩
theorem bOf_mk {M:Nat->Prop}{g:Nat->Option Value}{x:Sl D}{b:Bool}(h:bOf x=some b):x.Rel S M w g (.bool b):=by
 unfold bOf at h
 split at h
 ·injection h with h;subst h;rfl
 ·injection h with h;subst h;rfl
 ·cases h
theorem Alike.rel {M:Nat->Prop}{g:Nat->Option Value}{x y:Sl D}{v:Value}(h:Alike x y)(hr:x.Rel S M w g v):y.Rel S M w g v:=by
 rcases h with rfl | ⟨b,h1,h2⟩
 ·exact hr
 ·rw[bOf_rel h1 hr];exact bOf_mk h2
theorem Holds.alike {slot':Nat->Sl D}(h:Holds S w0 g0 N n slot blk al a w)(he:∀t,Alike (slot t) (slot' t)):Holds S w0 g0 N n slot' blk al a w:=by
 obtain⟨g,hp,hs,hr⟩:=h
 exact⟨g,hp,fun t=>(he t).rel (hs t),hr⟩
theorem appS_alike {slot':Nat->Sl D}(he:∀t,Alike (slot t) (slot' t))(t:Nat):Alike (appS slot W t) (appS slot' W t):=by
 unfold appS
 cases W.dst with
 | none=>exact he t
 | some d=>
  by_cases ht:t=d
  ·subst ht
   show Alike (upd slot t W.val t) (upd slot' t W.val t)
   rw[upd_same,upd_same];exact Alike.refl _
  ·show Alike (upd slot d W.val t) (upd slot' d W.val t)
   rw[upd_other _ _ _ _ ht,upd_other _ _ _ _ ht];exact he t
theorem step_sound {i:Nat}(hTy:∀t ty,T t=some ty->TyOk P t ty)(hΓ:∀f ct,Γ f=some ct->CtOk P S f ct)(hS:ShOk S)(ho:ops[i]? =some o)(h:Holds S w0 g0 N n slot blk al a w)(hfr:∀n,fr<=n->n < fr+64->¬al n)
  (hst:StepOk T S Γ ops n fr slot blk o W) (hK:∀a' w',Holds S w0 g0 N n (appS slot W) (appB blk W) (fun l=>al l\/(fr<=l/\l < fr+64)) a' w'->K a' w'):wpOp P ops Q i K a w:=by
 obtain⟨g,hp,hs,hn,hdf,hm0⟩:=h
 obtain⟨hdst,hlt,hst⟩:=hst
 have fin:∀v w' g',More g g'->Keeps (Mset N blk g) w (Mset N (appB blk W) g') w'->Hp S w0 N (appB blk W) g' (fun l=>al l\/(fr<=l/\l < fr+64)) w'->W.val.Rel S (Mset N (appB blk W) g') w' g' v->K (a.put o.dst v) w':=by
  intro v w' g' hm hk hp' hv
  have hsz:∀x,o.dst=some x->x < a.tmps.size:=fun x hx=>by rw[hn];exact hlt x hx
  refine hK _ _ ⟨g',hp',fun t=> ?_,?_,?_,fun l v h=>hm l v (hm0 l v h)⟩
  ·rw[getD_put hsz]
   by_cases hd:o.dst=some t
   ·rw[if_pos hd]
    simp only[appS,hdst,hd,upd_same]
    exact hv
   ·rw[if_neg hd]
    have:appS slot W t=slot t:=by
     unfold appS
     rw[hdst]
     cases he:o.dst with
     | none=>rfl
     | some d=>exact upd_other _ _ _ _ (fun e=>hd (by rw[he,e]))
    rw[this]
    exact(hs t).keep hk hm
  ·cases hd:o.dst<;>simp[Act.put,hn]
  ·cases hd:o.dst<;>simp[Act.put,hdf]
 unfold wpOp
 simp only[ho]
 rcases hst with⟨hw,out,hx,hpre,hv,hb⟩ | ⟨hw,hv,hb⟩
 ·rw[wanted_spec hs hw,if_pos rfl]
  refine .inl (sound_does hTy hΓ hS hp hfr hs hx hpre ?_)
  intro v w' g' hm hk hp' hr
  refine fin v w' g' hm ?_ ?_ ?_
  ·simpa[appB,hb]using hk
  ·simpa[appB,hb]using hp'
  ·simpa[appB,hb,hv]using hr
 ·rw[wanted_spec hs hw]
  have hb':appB blk W=blk:=by simp[appB,hb,updL]
  refine fin undef w g (More.refl _) (by rw[hb'];exact Keeps.refl _ _) (by rw[hb'];exact hp.weaken fun _ h=> .inl h) (by rw[hv];rfl)
def Trace (T:TypeId->Option Ty)(S:Sh D)(Γ:FuncId->Option (Ct D))(ops:Array Oper)(n:Nat):Nat->(Nat->Sl D)->(Nat->Option (Bk D))->List Oper->List (Wr D)->Prop
 | _,_,_,[],[]=>True
 | fr,slot,blk,o::r,W::Ws=>(∃slot',(∀t,Alike (slot t) (slot' t))/\StepOk T S Γ ops n fr slot' blk o W)/\Trace T S Γ ops n (fr+64) (appS slot W) (appB blk W) r Ws
 | _,_,_,_,_=>False
def appSs:(Nat->Sl D)->List (Wr D)->(Nat->Sl D)
 | slot,[]=>slot
 | slot,W::Ws=>appSs (appS slot W) Ws
def appBs:(Nat->Option (Bk D))->List (Wr D)->(Nat->Option (Bk D))
 | blk,[]=>blk
 | blk,W::Ws=>appBs (appB blk W) Ws
theorem text_ops (hTy:∀t ty,T t=some ty->TyOk P t ty)(hΓ:∀f ct,Γ f=some ct->CtOk P S f ct)(hS:ShOk S):
  ∀(l:List Oper) (Ws:List (Wr D)) (i fr:Nat) (slot:Nat->Sl D) (blk:Nat->Option (Bk D)) (a:Act) (w:World),(∀j,l[j]? =ops[i+j]?)->Trace T S Γ ops n fr slot blk l Ws->Holds S w0 g0 N n slot blk (· < fr) a w->
   (∀a' w',Holds S w0 g0 N n (appSs slot Ws) (appBs blk Ws) (· < fr+64*l.length) a' w'->Q .normal a' w')->wpOps P ops Q (List.range' i l.length) a w
 | [],[],i,fr,slot,blk,a,w,_,_,h,hQ=>by simpa[wpOps]using hQ a w (by simpa[appSs,appBs]using h)
 | [],_::_,_,_,_,_,_,_,_,ht,_,_=>by simp[Trace]at ht
 | _::_,[],_,_,_,_,_,_,_,ht,_,_=>by simp[Trace]at ht
 | o::l,W::Ws,i,fr,slot,blk,a,w,hl,ht,h,hQ=>by
  rw[List.length_cons,List.range'_succ,wpOps_cons]
  have h0:ops[i]? =some o:=by simpa using(hl 0).symm
  obtain⟨⟨slot',he,hst⟩,ht2⟩:=ht
  refine step_sound hTy hΓ hS h0 (h.alike he) (by omega) hst fun a' w' h'=> ?_
  obtain⟨g,hp,hrest⟩:=h'.alike (appS_alike fun t=>(he t).symm)
  refine text_ops hTy hΓ hS l Ws (i+1) (fr+64) _ _ a' w' (fun j=>by have:=hl (j+1);simpa[Nat.add_assoc,Nat.add_comm 1 j]using this) ht2 ⟨g,hp.weaken fun l hl=>by omega,hrest⟩ fun a'' w'' h''=>hQ a'' w'' ?_
  have e:fr+64*(l.length+1)=fr+64+64*l.length:=by omega
  rw[List.length_cons,e]
  simpa only[appSs,appBs]using h''
end
end Go.Vc
namespace Go.Vc
open Go.RowKit
set_option linter.unusedVariables false
def isMem:Op->Bool
 | .load _ _ | .store _ _ _ | .indexAddr _ _ _ | .call _ | .slice _ _ _ _ _ | .buildSlice _ _ _ | .next _ _ | .lookup _ _ _ _ | .mapUpdate _ _ _ _ | .insert _ _ _ _ | .convert _ _ _ | .makeInterface _ _ | .makeFunc _ _ _=>true
 | _=>false
def isFn:Op->Bool
 | .call c=>(match c.callee with
  | .value _=>true
  | _=>false)
 | _=>false
def memReads {D:Type}(slot:Nat->Sl D)(blk:Nat->Option (Bk D))(o:Op):List Nat:=
 if isFn o then reach blk 3 (addNew [] (o.operands.toList.flatMap fun x=>(opnd slot x).refs))else if isMem o then o.operands.toList.flatMap fun x=>(opnd slot x).refs else[]
def Wr.keys {D:Type}(W:Wr D):List Nat:=W.blks.map (·.1)
def edgeTo (o:Oper)(i:Nat):Bool:=o.after.toList.any fun e=>Region.binds .any e && Nat.beq e.on i
def farTo (ops:Array Oper):Nat->Oper->Nat->Bool
 | 0,o,i=>edgeTo o i
 | k+1,o,i=>edgeTo o i || o.after.toList.any fun e=>Region.binds .any e && (match ops[e.on]? with
  | some o'=>farTo ops k o' i
  | none=>false)
theorem far_of {ops:Array Oper}{o:Oper}{i:Nat}(h:edgeTo o i=true):∀k,farTo ops k o i=true
 | 0=>h
 | k+1=>by simp[farTo,h]
section
variable {D:Type}{P:Program}{S:Sh D}{T:TypeId->Option Ty}{Γ:FuncId->Option (Ct D)}{N:Nat->Prop}{w w':World}{w0:Bs}{blk blk':Nat->Option (Bk D)}{al:Nat->Prop}
 {a:Act} {o:Oper} {K:Act->World->Prop} {Q:Exit->Act->World->Prop} {slot slot':Nat->Sl D} {fr n:Nat} {ops:Array Oper} {W:Wr D}
theorem refs_alike {x y:Sl D}(h:Alike x y):x.refs=y.refs:=by
 rcases h with rfl | ⟨b,h1,h2⟩
 ·rfl
 ·have key:∀z:Sl D,bOf z=some b->z.refs=[]:=by
   intro z hz
   unfold bOf at hz
   split at hz<;>first | rfl | cases hz
  rw[key x h1,key y h2]
theorem memReads_alike {op:Op}(h:∀t,Alike (slot t) (slot' t)):memReads slot blk op=memReads slot' blk op:=by
 have:(fun x=>(opnd slot x).refs)=fun x=>(opnd slot' x).refs:=by
  funext x
  cases x with
  | tmp t=>exact refs_alike (h t)
  | _=>rfl
 unfold memReads
 rw[this]
theorem reach_sub:∀(n:Nat) (ids:List Nat) (l:Nat),l∈ids->l∈reach blk n ids
 | 0,_,_,h=>h
 | n+1,ids,l,h=>reach_sub n _ l ((addNew_mem _ _ _).2 (.inl h))
theorem reach_mono:∀(n:Nat) (ids ids':List Nat),(∀l∈ids,l∈ids')->∀l∈reach blk n ids,l∈reach blk n ids'
 | 0,_,_,h=>h
 | n+1,ids,ids',h=>by
  refine reach_mono n _ _ fun l hl=> ?_
  rcases(addNew_mem _ _ _).1 hl with q | q
  ·exact(addNew_mem _ _ _).2 (.inl (h l q))
  ·obtain⟨x,hx,hlx⟩:=List.mem_flatMap.1 q
   exact(addNew_mem _ _ _).2 (.inr (List.mem_flatMap.2 ⟨x,h x hx,hlx⟩))
theorem flatMap_congr' {α β:Type}{l:List α}{f f':α->List β}(h:∀x∈l,f x=f' x):l.flatMap f=l.flatMap f':=by
 induction l with
 | nil=>rfl
 | cons x r ih=>rw[List.flatMap_cons,List.flatMap_cons,h x (by simp),ih fun y hy=>h y (by simp[hy])]
theorem reach_congr:∀(n:Nat) (ids:List Nat),(∀l∈reach blk n ids,blk l=blk' l)->reach blk n ids=reach blk' n ids
 | 0,_,_=>rfl
 | n+1,ids,h=>by
  have e:(ids.flatMap fun l=>match blk l with
    | some bk=>bk.refs
    | none=>[])=(ids.flatMap fun l=>match blk' l with
    | some bk=>bk.refs
    | none=>[]):=flatMap_congr' fun l hl=>by rw[h l (reach_sub (n+1) ids l hl)]
  have h':∀l∈reach blk n (addNew ids (ids.flatMap fun l=>match blk l with
    | some bk=>bk.refs
    | none=>[])),blk l=blk' l:=h
  have r:=reach_congr n _ h'
  refine Eq.trans (show reach blk (n+1) ids=_ from r) ?_
  rw[e]
  rfl
theorem getAll_congr:∀(ids:List Nat),(∀l∈ids,blk l=blk' l)->getAll blk ids=getAll blk' ids
 | [],_=>rfl
 | x::r,h=>by
  unfold getAll
  rw[h x (by simp),getAll_congr r fun l hl=>h l (by simp[hl])]
theorem callOn_congr {ct:Ct D}{args:List (Sl D)}{vids:List Nat}(h:∀l∈reach blk 3 (addNew [] (args.flatMap Sl.refs)),blk l=blk' l)(hv:∀l∈vids,blk l=blk' l):callOn ct blk fr args vids=callOn ct blk' fr args vids:=by
 have e1:=reach_congr _ _ h
 have e2:=getAll_congr _ h
 have e3:vids.filterMap (iceOf blk)=vids.filterMap (iceOf blk'):=by
  clear h e1 e2
  induction vids with
  | nil=>rfl
  | cons x r ih=>
   have hx:iceOf blk x=iceOf blk' x:=by unfold iceOf;rw[hv x (by simp)]
   rw[List.filterMap_cons,List.filterMap_cons,hx,ih fun l hl=>hv l (by simp[hl])]
 unfold callOn
 dsimp only
 rw[<-e1,e2,e3]
theorem fillIn_congr {ty:Ty}:∀(ps:List (Nat×Operand)) (cs:List (Lf D)),(∀p∈ps,opnd slot p.2=opnd slot' p.2)->fillIn ty slot ps cs=fillIn ty slot' ps cs
 | [],_,_=>rfl
 | (f,x)::r,cs,h=>by
  have hx:opnd slot x=opnd slot' x:=h (f,x) (by simp)
  have ih:=fun cs=>fillIn_congr (ty:=ty) r cs fun p hp=>h p (by simp[hp])
  simp only[fillIn,hx,ih]
theorem fillRow_congr {sz:Nat}:∀(ps:List (Nat×Operand)) (cs:List (Lf D)),(∀p∈ps,opnd slot p.2=opnd slot' p.2)->fillRow sz slot ps cs=fillRow sz slot' ps cs
 | [],_,_=>rfl
 | (f,x)::r,cs,h=>by
  have hx:opnd slot x=opnd slot' x:=h (f,x) (by simp)
  have ih:=fun cs=>fillRow_congr (sz:=sz) r cs fun p hp=>h p (by simp[hp])
  simp only[fillRow,hx,ih]
theorem xLoad_congr {t:TypeId}{x:Sl D}(h:∀l∈x.refs,blk l=blk' l):xLoad T S blk t x=xLoad T S blk' t x:=by
 unfold xLoad
 cases T t with
 | none=>rfl
 | some ty=>
  cases x with
  | tup xs=>rfl
  | one x=>
   cases x with
   | agg xs=>rfl
   | lf x=>cases x<;>first | rfl | (have hh:=h _ (List.mem_singleton.2 rfl);simp only[hh])
theorem xStore_congr {t:TypeId}{x y:Sl D}(h:∀l∈x.refs,blk l=blk' l):xStore T S blk t x y=xStore T S blk' t x y:=by
 unfold xStore
 cases T t with
 | none=>rfl
 | some ty=>
  cases x with
  | tup xs=>rfl
  | one x=>
   cases x with
   | agg xs=>rfl
   | lf x=>
    cases y with
    | tup ys=>cases x<;>rfl
    | one y=>cases x<;>first | rfl | (have hh:=h _ (List.mem_singleton.2 rfl);simp only[hh])
theorem xIndex_congr {t:TypeId}{x y:Sl D}(h:∀l∈x.refs,blk l=blk' l):xIndex T S blk t x y=xIndex T S blk' t x y:=by
 unfold xIndex
 cases T t with
 | none=>rfl
 | some ty=>
  simp only
  cases ty.elem with
  | none=>rfl
  | some e=>
   simp only
   cases T e with
   | none=>rfl
   | some te=>
    cases x with
    | tup xs=>rfl
    | one x=>
     cases x with
     | agg xs=>rfl
     | lf x=>
      cases y with
      | tup ys=>cases x<;>rfl
      | one y=>
       cases y with
       | agg ys=>cases x<;>rfl
       | lf y=>cases x<;>cases y<;>first | rfl | (have hh:=h _ (List.mem_singleton.2 rfl);simp only[hh])
theorem xLen_congr {ts:Array TypeId}{x:Sl D}(h:∀l∈x.refs,blk l=blk' l):xLen S T blk ts x=xLen S T blk' ts x:=by
 unfold xLen
 split
 ·rfl
 ·split
  ·rfl
  ·cases x with
   | tup xs=>rfl
   | one x=>
    cases x with
    | agg xs=>rfl
    | lf x=>
     cases x with
     | own l=>have hh:=h l (by simp[Sl.refs,Sv.refs,Lf.refs]);simp only[hh]
     | val v=>cases v<;>first | rfl | (rename_i a n c;cases a<;>first | rfl | (cases n<;>first | rfl | (cases c<;>rfl)))
     | _=>rfl
theorem datOf_congr {x:Sl D}(h:∀l∈x.refs,blk l=blk' l):datOf blk x=datOf blk' x:=by
 cases x with
 | tup xs=>rfl
 | one x=>
  cases x with
  | agg xs=>rfl
  | lf x=>
   cases x with
   | own l=>have hh:=h l (by simp[Sl.refs,Sv.refs,Lf.refs]);simp only[datOf,hh]
   | _=>rfl
theorem xAppend_congr {ts:Array TypeId}{x y:Sl D}(h:∀l∈x.refs,blk l=blk' l)(h':∀l∈y.refs,blk l=blk' l):xAppend T S blk fr ts x y=xAppend T S blk' fr ts x y:=by
 unfold xAppend
 rw[datOf_congr h']
 cases x with
 | tup xs=>rfl
 | one x=>
  cases x with
  | agg xs=>rfl
  | lf x=>
   cases x with
   | own l=>have hh:=h l (by simp[Sl.refs,Sv.refs,Lf.refs]);simp only[hh]
   | val v=>cases v<;>first | rfl | (rename_i a n c;cases a<;>first | rfl | (cases n<;>first | rfl | (cases c<;>rfl)))
   | _=>rfl
theorem xSlice_congr {t:TypeId}{x:Sl D}{lo hi:Option (Sl D)}(h:∀l∈x.refs,blk l=blk' l):xSlice T S blk t x lo hi=xSlice T S blk' t x lo hi:=by
 unfold xSlice
 split
 ·rfl
 ·split
  ·rfl
  ·split
   ·rfl
   ·rfl
   ·rename_i q
    rw[h q (by simp[Sl.refs,Sv.refs,Lf.refs])]
   ·rfl
theorem xCopy_congr {ts:Array TypeId}{x y:Sl D}(h:∀l∈x.refs,blk l=blk' l):xCopy T S blk ts x y=xCopy T S blk' ts x y:=by
 unfold xCopy
 split
 ·split
  ·split
   ·rfl
   ·split
    ·rfl
    ·split
     ·rfl
     ·split
      ·rename_i l d2
       rw[h l (by simp[Sl.refs,Sv.refs,Lf.refs])]
      ·rfl
  ·rfl
 ·rfl
theorem lf_norm_refs (x:Lf D):x.norm.refs=x.refs:=by
 unfold Lf.norm
 split<;>rfl
theorem sv_norm_refs (x:Sv D):x.norm.refs=x.refs:=by
 cases x with
 | lf x=>exact lf_norm_refs x
 | agg xs=>simp only[Sv.norm,Sv.refs,List.flatMap_map];exact flatMap_congr' fun x _=>lf_norm_refs x
theorem sl_norm_refs (x:Sl D):x.norm.refs=x.refs:=by
 cases x with
 | one x=>exact sv_norm_refs x
 | tup xs=>simp only[Sl.norm,Sl.refs,List.flatMap_map];exact flatMap_congr' fun x _=>sv_norm_refs x
theorem lf_view_refs (x:Lf D):∀l∈(x.view blk).refs,l∈x.refs:=by
 cases x with
 | own l=>
  simp only[Lf.view]
  split
  ·intro l' h;simp[Lf.refs]at h
  ·intro l' h;simp[Lf.refs]at h
  ·intro l' h;simp[Lf.refs]at h
  ·intro l' h;exact h
 | part l i j sz f=>
  simp only[Lf.view]
  split
  ·split<;>(intro l' h;simp[Lf.refs]at h)
  ·split<;>(intro l' h;simp[Lf.refs]at h)
  ·intro l' h;exact h
 | _=>exact fun l h=>h
theorem sv_view_refs (x:Sv D):∀l∈(x.view blk).refs,l∈x.refs:=by
 cases x with
 | lf x=>exact lf_view_refs x
 | agg xs=>
  intro l hl
  simp only[Sv.view,Sv.refs,List.flatMap_map]at hl⊢
  obtain⟨y,hy,hl⟩:=List.mem_flatMap.1 hl
  exact List.mem_flatMap.2 ⟨y,hy,lf_view_refs y l hl⟩
theorem sl_view_refs (x:Sl D):∀l∈(x.view blk).refs,l∈x.refs:=by
 cases x with
 | one x=>exact sv_view_refs x
 | tup xs=>
  intro l hl
  simp only[Sl.view,Sl.refs,List.flatMap_map]at hl⊢
  obtain⟨y,hy,hl⟩:=List.mem_flatMap.1 hl
  exact List.mem_flatMap.2 ⟨y,hy,sv_view_refs y l hl⟩
theorem lf_view_congr {x:Lf D}(h:∀l∈x.refs,blk l=blk' l):x.view blk=x.view blk':=by
 cases x with
 | own l=>simp only[Lf.view];rw[h l (by simp[Lf.refs])]
 | part l i j sz f=>simp only[Lf.view];rw[h l (by simp[Lf.refs])]
 | _=>rfl
theorem sv_view_congr {x:Sv D}(h:∀l∈x.refs,blk l=blk' l):x.view blk=x.view blk':=by
 cases x with
 | lf x=>simp only[Sv.view];rw[lf_view_congr h]
 | agg xs=>simp only[Sv.view];congr 1;exact List.map_congr_left fun y hy=>lf_view_congr fun l hl=>h l (List.mem_flatMap.2 ⟨y,hy,hl⟩)
theorem sl_view_congr {x:Sl D}(h:∀l∈x.refs,blk l=blk' l):x.view blk=x.view blk':=by
 cases x with
 | one x=>simp only[Sl.view];rw[sv_view_congr h]
 | tup xs=>simp only[Sl.view];congr 1;exact List.map_congr_left fun y hy=>sv_view_congr fun l hl=>h l (List.mem_flatMap.2 ⟨y,hy,hl⟩)
theorem lf_owns_refs (x:Lf D):∀l∈x.owns,l∈x.refs:=by cases x<;>simp[Lf.owns,Lf.refs]
theorem sv_owns_refs (x:Sv D):∀l∈x.owns,l∈x.refs:=by
 cases x with
 | lf x=>exact lf_owns_refs x
 | agg xs=>
  intro l hl
  obtain⟨y,hy,hl⟩:=List.mem_flatMap.1 hl
  exact List.mem_flatMap.2 ⟨y,hy,lf_owns_refs y l hl⟩
theorem sl_owns_refs (x:Sl D):∀l∈x.owns,l∈x.refs:=by
 cases x with
 | one x=>exact sv_owns_refs x
 | tup xs=>
  intro l hl
  obtain⟨y,hy,hl⟩:=List.mem_flatMap.1 hl
  exact List.mem_flatMap.2 ⟨y,hy,sv_owns_refs y l hl⟩
theorem xCall_congr {f:FuncId}{args:List (Sl D)}(h:∀l∈reach blk 3 (addNew [] (args.flatMap Sl.refs)),blk l=blk' l):xCall Γ f blk args fr=xCall Γ f blk' args fr:=by
 unfold xCall
 cases Γ f with
 | none=>rfl
 | some ct=>
  dsimp only
  have hn:(args.map Sl.norm).flatMap Sl.refs=args.flatMap Sl.refs:=by rw[List.flatMap_map];exact flatMap_congr' fun x _=>sl_norm_refs x
  generalize args.map Sl.norm=as at hn
  rw[<-hn]at h
  have hd:∀l∈as.flatMap Sl.refs,blk l=blk' l:=fun l hl=>h l (reach_sub _ _ _ ((addNew_mem _ _ _).2 (.inr hl)))
  have hv:as.map (Sl.view blk)=as.map (Sl.view blk'):=List.map_congr_left fun x hx=>sl_view_congr fun l hl=>hd l (List.mem_flatMap.2 ⟨x,hx,hl⟩)
  rw[callOn_congr (blk:=blk) (blk':=blk') (args:=as) (vids:=[]) h (fun l hl=>by simp at hl)]
  rw[callOn_congr (blk:=blk) (blk':=blk') (args:=as.map (Sl.view blk)) (vids:=addNew [] (as.flatMap Sl.owns)) (fun l hl=>h l (reach_mono 3 _ _ (fun l hl=> ?_) l hl)) (fun l hl=>hd l ?_),hv]
  ·rcases(addNew_mem _ _ _).1 hl with q | q
   ·simp at q
   ·obtain⟨x,hx,hlx⟩:=List.mem_flatMap.1 q
    obtain⟨y,hy,rfl⟩:=List.mem_map.1 hx
    exact(addNew_mem _ _ _).2 (.inr (List.mem_flatMap.2 ⟨y,hy,sl_view_refs y l hlx⟩))
  ·rcases(addNew_mem _ _ _).1 hl with q | q
   ·simp at q
   ·obtain⟨x,hx,hlx⟩:=List.mem_flatMap.1 q
    exact List.mem_flatMap.2 ⟨x,hx,sl_owns_refs x l hlx⟩
theorem xOp_congr {op:Op}(hs:∀x∈op.operands.toList,opnd slot x=opnd slot' x)(hm:∀l∈memReads slot blk op,blk l=blk' l):xOp T S Γ slot blk fr op=xOp T S Γ slot' blk' fr op:=by
 have hm':isMem op=true->∀x∈op.operands.toList,∀l∈(opnd slot' x).refs,blk l=blk' l:=by
  intro hi x hx l hl
  refine hm l ?_
  have hin:l∈op.operands.toList.flatMap fun x=>(opnd slot x).refs:=List.mem_flatMap.2 ⟨x,hx,by rw[hs x hx];exact hl⟩
  unfold memReads
  split
  ·exact reach_sub _ _ _ ((addNew_mem _ _ _).2 (.inr hin))
  ·first | (split;· exact hin;· rename_i q;exact absurd hi q) | simpa[hi]using hin
 cases op with
 | move x=>simp only[xOp];rw[hs x (by simp[Op.operands])]
 | assign x=>simp only[xOp];rw[hs x (by simp[Op.operands])]
 | pick c x y=>simp only[xOp,xPick];rw[hs c (by simp[Op.operands]),hs x (by simp[Op.operands]),hs y (by simp[Op.operands])]
 | alloc t=>rfl
 | box t x=>simp only[xOp];rw[hs x (by simp[Op.operands])]
 | build t ps=>
  simp only[xOp,xBuild]
  split
  ·rw[fillIn_congr ps.toList _ fun p hp=>hs p.2 (by simp only[Op.operands,List.mem_map];exact⟨p,hp,rfl⟩)]
  ·rfl
 | buildSlice t n ps=>
  have:∀p∈ps.toList,opnd slot p.2=opnd slot' p.2:=fun p hp=>hs p.2 (by simp only[Op.operands,List.mem_map];exact⟨p,hp,rfl⟩)
  simp only[xOp,xRow]
  split
  ·rfl
  ·split
   ·rfl
   ·split
    ·rfl
    ·rw[fillRow_congr ps.toList _ this]
 | load t x=>
  simp only[xOp]
  rw[hs x (by simp[Op.operands]),xLoad_congr (hm' rfl x (by simp[Op.operands]))]
 | store t x y=>
  simp only[xOp]
  rw[hs x (by simp[Op.operands]),hs y (by simp[Op.operands]),xStore_congr (hm' rfl x (by simp[Op.operands]))]
 | nilCheck x=>simp only[xOp];rw[hs x (by simp[Op.operands])]
 | binOp op t x y yt=>simp only[xOp];rw[hs x (by simp[Op.operands]),hs y (by simp[Op.operands])]
 | unOp op t x=>simp only[xOp];rw[hs x (by simp[Op.operands])]
 | fieldAddr t x f=>simp only[xOp];rw[hs x (by simp[Op.operands])]
 | field t x f=>simp only[xOp];rw[hs x (by simp[Op.operands])]
 | indexAddr t x i=>
  simp only[xOp]
  rw[hs x (by simp[Op.operands]),hs i (by simp[Op.operands]),xIndex_congr (hm' rfl x (by simp[Op.operands]))]
 | extract x i=>simp only[xOp];rw[hs x (by simp[Op.operands])]
 | call c=>
  simp only[xOp]
  have hargs:∀x∈c.args.toList,x∈(Op.call c).operands.toList:=fun x hx=>by
   simp only[Op.operands,Call.operands,Array.toList_append,List.mem_append]
   exact .inr hx
  split
  ·split
   ·rename_i x hx
    have hx:x∈(Op.call c).operands.toList:=hargs x (by rw[hx];simp)
    rw[hs x hx,xLen_congr (hm' rfl x hx)]
   ·rfl
  ·split
   ·rename_i x y hx
    rw[hs x (hargs x (by rw[hx];simp)),hs y (hargs y (by rw[hx];simp))]
   ·rfl
  ·split
   ·rename_i x y hx
    rw[hs x (hargs x (by rw[hx];simp)),hs y (hargs y (by rw[hx];simp))]
   ·rfl
  ·split
   ·rename_i x y hx
    have hx1:x∈(Op.call c).operands.toList:=hargs x (by rw[hx];simp)
    have hx2:y∈(Op.call c).operands.toList:=hargs y (by rw[hx];simp)
    rw[hs x hx1,hs y hx2,xAppend_congr (hm' rfl x hx1) (hm' rfl y hx2)]
   ·rfl
  ·split
   ·rename_i x y hx
    have hx1:x∈(Op.call c).operands.toList:=hargs x (by rw[hx];simp)
    have hx2:y∈(Op.call c).operands.toList:=hargs y (by rw[hx];simp)
    rw[hs x hx1,hs y hx2,xCopy_congr (hm' rfl x hx1)]
   ·rfl
  ·rename_i f hf
   have hfm:f∈(Op.call c).operands.toList:=by simp[Op.operands,Call.operands,hf]
   have hfe:=hs f hfm
   have:c.args.toList.map (opnd slot)=c.args.toList.map (opnd slot'):=List.map_congr_left fun x hx=>hs x (hargs x hx)
   rw[hfe,this]
   split
   ·rename_i f' caps hfn
    have hcl:∀l∈caps,blk l=blk' l:=fun l hl=>hm' rfl f hfm l (by rw[hfn];exact hl)
    have hc2:caps.all (fun l=>isCells (blk l))=caps.all (fun l=>isCells (blk' l)):=by
     clear hfn
     induction caps with
     | nil=>rfl
     | cons x r ih=>rw[List.all_cons,List.all_cons,hcl x (by simp),ih fun l hl=>hcl l (by simp[hl])]
    rw[hc2]
    rw[xCall_congr (blk:=blk) (blk':=blk') fun l hl=>hm l ?_]
    have hisf:isFn (Op.call c)=true:=by simp[isFn,hf]
    unfold memReads
    rw[if_pos hisf]
    refine reach_mono 3 _ _ (fun l hl=> ?_) l hl
    rcases(addNew_mem _ _ _).1 hl with q | q
    ·simp at q
    ·refine(addNew_mem _ _ _).2 (.inr ?_)
     rw[List.flatMap_append,List.mem_append]at q
     rcases q with q | q
     ·rw[<-this]at q
      obtain⟨y,hy,hly⟩:=List.mem_flatMap.1 q
      obtain⟨x,hx,rfl⟩:=List.mem_map.1 hy
      exact List.mem_flatMap.2 ⟨x,hargs x hx,hly⟩
     ·obtain⟨y,hy,hly⟩:=List.mem_flatMap.1 q
      obtain⟨k,hk,rfl⟩:=List.mem_map.1 hy
      simp[Sl.refs,Sv.refs,Lf.refs]at hly
      subst hly
      exact List.mem_flatMap.2 ⟨f,hfm,by rw[hfe,hfn];exact hk⟩
   ·rfl
  ·rfl
 | makeFunc fn first caps=>
  have hcp:∀(l:List Operand),(∀x∈l,opnd slot x=opnd slot' x)->capsOf slot l=capsOf slot' l:=by
   intro l
   induction l with
   | nil=>intro _;rfl
   | cons x r ih=>intro h;unfold capsOf;rw[h x (by simp),ih fun y hy=>h y (by simp[hy])]
  cases fn with
  | func f=>simp only[xOp];rw[hcp caps.toList fun x hx=>hs x (by simp only[Op.operands,Array.toList_append,List.mem_append];exact .inr hx)]
  | _=>rfl
 | makeSlice t x y=>simp only[xOp];rw[hs x (by simp[Op.operands]),hs y (by simp[Op.operands])]
 | index t x y=>simp only[xOp];rw[hs x (by simp[Op.operands]),hs y (by simp[Op.operands])]
 | convert t u x=>simp only[xOp];rw[hs x (by simp[Op.operands])]
 | slice t x lo hi mx=>
  cases mx with
  | some m=>rfl
  | none=>
   have hlo:lo.map (opnd slot)=lo.map (opnd slot'):=by
    cases lo with
    | none=>rfl
    | some l=>simp only[Option.map_some];rw[hs l (by simp[Op.operands])]
   have hhi:hi.map (opnd slot)=hi.map (opnd slot'):=by
    cases hi with
    | none=>rfl
    | some l=>simp only[Option.map_some];rw[hs l (by simp[Op.operands])]
   simp only[xOp]
   rw[hs x (by simp[Op.operands]),hlo,hhi,xSlice_congr (hm' rfl x (by simp[Op.operands]))]
 | _=>rfl
theorem opTmps_mem:∀{l:List Operand} {t:Nat},t∈opTmps l ↔ Operand.tmp t∈l
 | [],t=>by simp[opTmps]
 | x::r,t=>by
  cases x<;>simp[opTmps,opTmps_mem (l:=r)]
theorem updL_eq {α:Type}{k:Nat}:∀(cs:List (Nat×α)) (f f':Nat->α),f k=f' k->updL f cs k=updL f' cs k
 | [],_,_,h=>h
 | (k0,v)::cs,f,f',h=>by
  refine updL_eq cs (upd f k0 v) (upd f' k0 v) ?_
  by_cases e:k=k0
  ·subst e;rw[upd_same,upd_same]
  ·rw[upd_other _ _ _ _ e,upd_other _ _ _ _ e,h]
theorem xOpC_congr {op:Op}(hs:∀x∈op.operands.toList,opnd slot x=opnd slot' x)(hm:∀l∈memReads slot blk op,blk l=blk' l):xOpC T S Γ slot blk fr op=xOpC T S Γ slot' blk' fr op:=by
 unfold xOpC
 rw[xOp_congr hs hm]
 split
 ·rfl
 unfold xCool
 cases hc:coolable op with
 | false=>simp
 | true=>
  have hf:isFn op=false:=by cases op<;>first | rfl | simp[coolable]at hc
  have hi:isMem op=true:=by cases op<;>first | rfl | simp[coolable]at hc
  have hmr:∀(s:Nat->Sl D) (b:Nat->Option (Bk D)),memReads s b op=op.operands.toList.flatMap fun x=>(opnd s x).refs:=fun s b=>by unfold memReads;rw[hf,hi];rfl
  have ht:∀t∈opTmps op.operands.toList,slot t=slot' t:=fun t ht=>hs (.tmp t) (opTmps_mem.1 ht)
  have hb:∀t∈opTmps op.operands.toList,∀l∈(slot t).refs,blk l=blk' l:=fun t ht l hl=>hm l (by rw[hmr];exact List.mem_flatMap.2 ⟨.tmp t,opTmps_mem.1 ht,hl⟩)
  have hids:coolIds slot op=coolIds slot' op:=by
   unfold coolIds
   congr 1
   exact flatMap_congr' fun t h=>by rw[ht t h]
  have hbl:∀l∈coolIds slot op,blk l=blk' l:=fun l hl=>by
   rcases(addNew_mem _ _ _).1 hl with h | h
   ·simp at h
   ·obtain⟨t,h1,h2⟩:=List.mem_flatMap.1 h
    exact hb t h1 l (sl_owns_refs _ l h2)
  have hice:(coolIds slot op).filterMap (iceOf blk)=(coolIds slot op).filterMap (iceOf blk'):=filterMap_same fun l hl=>by unfold iceOf;rw[hbl l hl]
  have hall:((coolIds slot op).all fun l=>isRow (blk l))=((coolIds slot op).all fun l=>isRow (blk' l)):=by
   rw[Bool.eq_iff_iff,List.all_eq_true,List.all_eq_true]
   constructor
   ·intro h l hl;rw[<-hbl l hl];exact h l hl
   ·intro h l hl;rw[hbl l hl];exact h l hl
  have hslot:∀x∈op.operands.toList,opnd (coolS (opTmps op.operands.toList) slot blk) x=opnd (coolS (opTmps op.operands.toList) slot' blk') x:=by
   intro x hx
   cases x with
   | tmp t=>
    have htm:=opTmps_mem.2 hx
    simp only[opnd,coolS]
    rw[if_pos (memB_iff.2 htm),if_pos (memB_iff.2 htm),<-ht t htm]
    exact sl_view_congr fun l hl=>hb t htm l hl
   | _=>rfl
  simp only[Bool.true_and]
  rw[<-hids,<-hice,<-hall]
  rw[xOp_congr (blk':=updL blk' ((coolIds slot op).filterMap (iceOf blk))) hslot]
  intro l hl
  rw[hmr]at hl
  refine updL_eq _ _ _ ?_
  obtain⟨x,hx,hlx⟩:=List.mem_flatMap.1 hl
  cases x with
  | tmp t=>
   have htm:=opTmps_mem.2 hx
   simp only[opnd,coolS]at hlx
   rw[if_pos (memB_iff.2 htm)]at hlx
   exact hb t htm l (sl_view_refs _ l hlx)
  | const v=>exact hm l (by rw[hmr];exact List.mem_flatMap.2 ⟨_,hx,hlx⟩)
  | func f=>exact hm l (by rw[hmr];exact List.mem_flatMap.2 ⟨_,hx,hlx⟩)
  | global i=>exact hm l (by rw[hmr];exact List.mem_flatMap.2 ⟨_,hx,hlx⟩)
theorem xLoadA_congr {t:TypeId}{x:Sl D}(h:∀l∈x.refs,blk l=blk' l):xLoadA T S blk t x=xLoadA T S blk' t x:=by
 unfold xLoadA
 split
 ·rfl
 ·split
  ·rw[h _ (by simp[Sl.refs,Sv.refs,Lf.refs])]
  ·rfl
  ·rfl
theorem xStoreA_congr {t:TypeId}{x y:Sl D}(h:∀l∈x.refs,blk l=blk' l):xStoreA T S blk t x y=xStoreA T S blk' t x y:=by
 unfold xStoreA
 split
 ·rfl
 ·split
  ·rw[h _ (by simp[Sl.refs,Sv.refs,Lf.refs])]
  ·rfl
theorem xClear_congr {ts:Array TypeId}{x:Sl D}(h:∀l∈x.refs,blk l=blk' l):xClear T S blk ts x=xClear T S blk' ts x:=by
 unfold xClear
 split
 ·split
  ·rfl
  ·split
   ·rfl
   ·split
    ·rfl
    ·split
     ·rw[h _ (by simp[Sl.refs,Sv.refs,Lf.refs])]
     ·rfl
 ·rfl
theorem xMore_congr {op:Op}(hs:∀x∈op.operands.toList,opnd slot x=opnd slot' x)(hm:∀l∈memReads slot blk op,blk l=blk' l):xMore T S slot blk fr op=xMore T S slot' blk' fr op:=by
 have hm':isMem op=true->isFn op=false->∀x∈op.operands.toList,∀l∈(opnd slot' x).refs,blk l=blk' l:=by
  intro hi hf x hx l hl
  refine hm l ?_
  unfold memReads
  rw[hf,hi]
  exact List.mem_flatMap.2 ⟨x,hx,by rw[hs x hx];exact hl⟩
 cases op with
 | load t x=>
  simp only[xMore]
  rw[hs x (by simp[Op.operands]),xLoadA_congr (hm' rfl rfl x (by simp[Op.operands]))]
 | store t x y=>
  simp only[xMore]
  rw[hs x (by simp[Op.operands]),hs y (by simp[Op.operands]),xStoreA_congr (hm' rfl rfl x (by simp[Op.operands]))]
 | indexAddr t x i=>simp only[xMore];rw[hs x (by simp[Op.operands]),hs i (by simp[Op.operands])]
 | index t x i=>simp only[xMore];rw[hs x (by simp[Op.operands]),hs i (by simp[Op.operands])]
 | build t ps=>
  simp only[xMore,xBuildA]
  split
  ·rfl
  ·split
   ·rfl
   ·rw[fillRow_congr ps.toList _ fun p hp=>hs p.2 (by simp only[Op.operands,List.mem_map];exact⟨p,hp,rfl⟩)]
 | call c=>
  simp only[xMore]
  split
  ·rename_i hcal
   have hfn:isFn (.call c)=false:=by simp[isFn,hcal]
   split
   ·rename_i x hx
    have hxm:x∈(Op.call c).operands.toList:=by
     simp only[Op.operands,Call.operands,Array.toList_append,List.mem_append]
     exact .inr (by rw[hx];simp)
    rw[hs x hxm,xClear_congr (hm' rfl hfn x hxm)]
   ·rfl
  ·rfl
 | makeInterface t x=>simp only[xMore];rw[hs x (by simp[Op.operands])]
 | typeAssert x st t ok=>
  cases ok with
  | true=>simp only[xMore];rw[hs x (by simp[Op.operands])]
  | false=>rfl
 | _=>rfl
theorem xOpD_congr {op:Op}(hs:∀x∈op.operands.toList,opnd slot x=opnd slot' x)(hm:∀l∈memReads slot blk op,blk l=blk' l):xOpD T S Γ slot blk fr op=xOpD T S Γ slot' blk' fr op:=by
 unfold xOpD
 rw[xMore_congr hs hm,xOpC_congr hs hm]
theorem xOpQ_congr {op:Op}(hs:∀x∈op.operands.toList,opnd slot x=opnd slot' x)(hm:∀l∈memReads slot blk op,blk l=blk' l):xOpQ T S Γ slot blk fr op=xOpQ T S Γ slot' blk' fr op:=by
 unfold xOpQ
 split
 ·rw[hs _ (by simp[Op.operands])]
 ·exact xOpD_congr hs hm
theorem mapOf_congr {t:TypeId}{x:Sl D}(h:∀l∈x.refs,blk l=blk' l):mapOf S blk t x=mapOf S blk' t x:=by
 unfold mapOf
 split
 ·rw[h _ (by simp[Sl.refs,Sv.refs,Lf.refs])]
 all_goals rfl
theorem dls_refs {ps:List (Dl D)}:(ps.map Dl.lf).flatMap Lf.refs=[]:=by
 induction ps with
 | nil=>rfl
 | cons p r ih=>rw[List.map_cons,List.flatMap_cons,ih];cases p<;>rfl
theorem slIn_refs {ag:Bool}{ps:List (Dl D)}{x:Sl D}(h:slIn ag ps=some x):x.refs=[]:=by
 unfold slIn at h
 split at h
 ·rename_i p
  injection h with h
  subst h
  cases p<;>rfl
 ·injection h with h
  subst h
  exact dls_refs
 ·cases h
theorem xNew_congr {op:Op}(hs:∀x∈op.operands.toList,opnd slot x=opnd slot' x)(hm:∀l∈memReads slot blk op,blk l=blk' l):xNew T S Γ slot blk fr op=xNew T S Γ slot' blk' fr op:=by
 have hm':isMem op=true->∀x∈op.operands.toList,∀l∈(opnd slot' x).refs,blk l=blk' l:=by
  intro hi x hx l hl
  refine hm l ?_
  have hin:l∈op.operands.toList.flatMap fun x=>(opnd slot x).refs:=List.mem_flatMap.2 ⟨x,hx,by rw[hs x hx];exact hl⟩
  unfold memReads
  split
  ·exact reach_sub _ _ _ ((addNew_mem _ _ _).2 (.inr hin))
  ·first | (split;· exact hin;· rename_i q;exact absurd hi q) | simpa[hi]using hin
 cases op with
 | alloc t=>rfl
 | load t x=>
  have hx:=hs x (by simp[Op.operands])
  have hb:=hm' rfl x (by simp[Op.operands])
  simp only[xNew,xLoadT]
  rw[hx]
  split
  ·rfl
  ·split
   ·rename_i l o he
    rw[hb l (by rw[he];simp[Sl.refs,Sv.refs,Lf.refs])]
   ·rfl
 | store t x y=>
  have hx:=hs x (by simp[Op.operands])
  have hb:=hm' rfl x (by simp[Op.operands])
  simp only[xNew,xStoreT]
  rw[hx,hs y (by simp[Op.operands])]
  split
  ·rename_i ty l o u _ he _
   rw[hb l (by rw[he];simp[Sl.refs,Sv.refs,Lf.refs])]
  ·rfl
 | indexAddr t x i=>simp only[xNew];rw[hs x (by simp[Op.operands]),hs i (by simp[Op.operands])]
 | index t x i=>simp only[xNew];rw[hs x (by simp[Op.operands]),hs i (by simp[Op.operands])]
 | makeMap t r=>cases r<;>rfl
 | slice t x lo hi mx=>
  cases mx with
  | some m=>rfl
  | none=>
   have hlo:lo.map (opnd slot)=lo.map (opnd slot'):=by
    cases lo with
    | none=>rfl
    | some l=>simp only[Option.map_some];rw[hs l (by simp[Op.operands])]
   have hhi:hi.map (opnd slot)=hi.map (opnd slot'):=by
    cases hi with
    | none=>rfl
    | some l=>simp only[Option.map_some];rw[hs l (by simp[Op.operands])]
   have hx:=hs x (by simp[Op.operands])
   have hb:=hm' rfl x (by simp[Op.operands])
   simp only[xNew,xSliceC]
   rw[hx,hlo,hhi]
   split
   ·rfl
   ·split
    ·split
     ·split
      ·rfl
      ·split
       ·rename_i q he
        rw[hb q (by rw[he];simp[Sl.refs,Sv.refs,Lf.refs])]
       ·rfl
     ·rfl
    ·rfl
 | lookup t x i ok=>
  simp only[xNew,xLookup]
  rw[hs x (by simp[Op.operands]),hs i (by simp[Op.operands]),mapOf_congr (hm' rfl x (by simp[Op.operands]))]
 | mapUpdate t x i v=>
  have hx:=hs x (by simp[Op.operands])
  have hb:=hm' rfl x (by simp[Op.operands])
  simp only[xNew,xMapPut]
  rw[hx,hs i (by simp[Op.operands]),hs v (by simp[Op.operands])]
  split
  ·rfl
  ·split
   ·rfl
   ·split
    ·split
     ·rename_i l k he _
      rw[hb l (by rw[he];simp[Sl.refs,Sv.refs,Lf.refs])]
     ·rfl
    ·rfl
 | insert t x i v=>
  have hx:=hs x (by simp[Op.operands])
  have hb:=hm' rfl x (by simp[Op.operands])
  simp only[xNew,xMapPut]
  rw[hx,hs i (by simp[Op.operands]),hs v (by simp[Op.operands])]
  split
  ·rfl
  ·split
   ·rfl
   ·split
    ·split
     ·rename_i l k he _
      rw[hb l (by rw[he];simp[Sl.refs,Sv.refs,Lf.refs])]
     ·rfl
    ·rfl
 | convert t d x=>
  have hd:=datOf_congr (blk:=blk) (blk':=blk') (hm' rfl x (by simp[Op.operands]))
  simp only[xNew,xText]
  rw[hs x (by simp[Op.operands])]
  split
  ·split
   ·rfl
   ·split
    ·rfl
    ·split
     ·split
      ·rfl
      ·rw[hd]
     ·rfl
  ·rfl
 | makeInterface t x=>simp only[xNew];rw[hs x (by simp[Op.operands])]
 | typeAssert x st t ok=>simp only[xNew];rw[hs x (by simp[Op.operands])]
 | binOp op t x y yt=>simp only[xNew];rw[hs x (by simp[Op.operands]),hs y (by simp[Op.operands])]
 | makeFunc fn first caps=>
  cases fn with
  | func f=>
   simp only[xNew]
   split
   ·rename_i x h1 h2
    rw[hs x (by simp only[Op.operands,Array.toList_append,List.mem_append];exact .inl (by rw[h1];simp))]
   ·rfl
  | _=>rfl
 | nilCheck x=>simp only[xNew];rw[hs x (by simp[Op.operands])]
 | call c=>
  have hargs:∀x∈c.args.toList,x∈(Op.call c).operands.toList:=fun x hx=>by
   simp only[Op.operands,Call.operands,Array.toList_append,List.mem_append]
   exact .inr hx
  simp only[xNew]
  split
  ·rename_i f hf
   have hfm:f∈(Op.call c).operands.toList:=by simp[Op.operands,Call.operands,hf]
   have hfe:=hs f hfm
   have this:c.args.toList.map (opnd slot)=c.args.toList.map (opnd slot'):=List.map_congr_left fun x hx=>hs x (hargs x hx)
   unfold xCallC
   rw[hfe,this]
   split
   ·split
    ·rename_i x hx
     refine xCall_congr fun l hl=>hm l ?_
     have hisf:isFn (Op.call c)=true:=by simp[isFn,hf]
     unfold memReads
     rw[if_pos hisf]
     refine reach_mono 3 _ _ (fun l hl=> ?_) l hl
     rcases(addNew_mem _ _ _).1 hl with q | q
     ·simp at q
     ·refine(addNew_mem _ _ _).2 (.inr ?_)
      rw[List.flatMap_cons,slIn_refs hx,List.nil_append,<-this]at q
      obtain⟨y,hy,hly⟩:=List.mem_flatMap.1 q
      obtain⟨x,hx,rfl⟩:=List.mem_map.1 hy
      exact List.mem_flatMap.2 ⟨x,hargs x hx,hly⟩
    ·rfl
   ·rfl
  ·split
   ·rename_i x y hx
    have hx1:x∈(Op.call c).operands.toList:=hargs x (by rw[hx];simp)
    have hx2:y∈(Op.call c).operands.toList:=hargs y (by rw[hx];simp)
    have hb:=hm' rfl x hx1
    rw[hs x hx1,hs y hx2]
    have e1:xAppendN T S blk c.argTypes (opnd slot' x) (opnd slot' y)=xAppendN T S blk' c.argTypes (opnd slot' x) (opnd slot' y):=by
     unfold xAppendN
     split
     ·split
      ·split
       ·rfl
       ·split
        ·rfl
        ·split
         ·rfl
         ·split
          ·rfl
          ·rfl
          ·rename_i l he
           rw[hb l (by rw[he];simp[Sl.refs,Sv.refs,Lf.refs])]
          ·rfl
      ·rfl
     ·rfl
    have e2:xAppendS T S blk fr c.argTypes (opnd slot' x) (opnd slot' y)=xAppendS T S blk' fr c.argTypes (opnd slot' x) (opnd slot' y):=by
     unfold xAppendS
     split
     ·split
      ·split
       ·rfl
       ·split
        ·rfl
        ·split
         ·split
          ·rfl
          ·split
           ·split
            ·rfl
            ·rename_i l he
             rw[hb l (by rw[he];simp[Sl.refs,Sv.refs,Lf.refs])]
            ·rfl
           ·rfl
         ·rfl
      ·rfl
     ·rfl
    rw[e1,e2]
   ·rfl
  ·split
   ·rename_i x hx
    have hx1:x∈(Op.call c).operands.toList:=hargs x (by rw[hx];simp)
    have hb:=hm' rfl x hx1
    rw[hs x hx1]
    unfold xSliceData
    split
    ·rename_i l he
     rw[hb l (by rw[he];simp[Sl.refs,Sv.refs,Lf.refs])]
    ·rfl
    ·rfl
   ·rfl
  ·split
   ·rename_i x y hx
    have hx1:x∈(Op.call c).operands.toList:=hargs x (by rw[hx];simp)
    have hx2:y∈(Op.call c).operands.toList:=hargs y (by rw[hx];simp)
    have hb:=hm' rfl x hx1
    rw[hs x hx1,hs y hx2]
    unfold xUnsafeStr
    split
    ·rename_i l n he _
     rw[hb l (by rw[he];simp[Sl.refs,Sv.refs,Lf.refs])]
    ·rfl
    ·rfl
   ·rfl
  ·rfl
 | _=>rfl
theorem xCool2_congr {op:Op}(hs:∀x∈op.operands.toList,opnd slot x=opnd slot' x)(hm:∀l∈memReads slot blk op,blk l=blk' l):xCool2 T S Γ slot blk fr op=xCool2 T S Γ slot' blk' fr op:=by
 unfold xCool2
 cases hc:coolable2 op with
 | false=>simp
 | true=>
  have hf:isFn op=false:=by cases op<;>first | rfl | simp[coolable2]at hc
  have hi:isMem op=true:=by cases op<;>first | rfl | simp[coolable2]at hc
  have hmr:∀(s:Nat->Sl D) (b:Nat->Option (Bk D)),memReads s b op=op.operands.toList.flatMap fun x=>(opnd s x).refs:=fun s b=>by unfold memReads;rw[hf,hi];rfl
  have ht:∀t∈opTmps op.operands.toList,slot t=slot' t:=fun t ht=>hs (.tmp t) (opTmps_mem.1 ht)
  have hb:∀t∈opTmps op.operands.toList,∀l∈(slot t).refs,blk l=blk' l:=fun t ht l hl=>hm l (by rw[hmr];exact List.mem_flatMap.2 ⟨.tmp t,opTmps_mem.1 ht,hl⟩)
  have hids:coolIds slot op=coolIds slot' op:=by
   unfold coolIds
   congr 1
   exact flatMap_congr' fun t h=>by rw[ht t h]
  have hbl:∀l∈coolIds slot op,blk l=blk' l:=fun l hl=>by
   rcases(addNew_mem _ _ _).1 hl with h | h
   ·simp at h
   ·obtain⟨t,h1,h2⟩:=List.mem_flatMap.1 h
    exact hb t h1 l (sl_owns_refs _ l h2)
  have hice:(coolIds slot op).filterMap (iceOf blk)=(coolIds slot op).filterMap (iceOf blk'):=filterMap_same fun l hl=>by unfold iceOf;rw[hbl l hl]
  have hall:((coolIds slot op).all fun l=>isRow (blk l))=((coolIds slot op).all fun l=>isRow (blk' l)):=by
   rw[Bool.eq_iff_iff,List.all_eq_true,List.all_eq_true]
   constructor
   ·intro h l hl;rw[<-hbl l hl];exact h l hl
   ·intro h l hl;rw[hbl l hl];exact h l hl
  have hslot:∀x∈op.operands.toList,opnd (coolS (opTmps op.operands.toList) slot blk) x=opnd (coolS (opTmps op.operands.toList) slot' blk') x:=by
   intro x hx
   cases x with
   | tmp t=>
    have htm:=opTmps_mem.2 hx
    simp only[opnd,coolS]
    rw[if_pos (memB_iff.2 htm),if_pos (memB_iff.2 htm),<-ht t htm]
    exact sl_view_congr fun l hl=>hb t htm l hl
   | _=>rfl
  simp only[Bool.true_and]
  rw[<-hids,<-hice,<-hall]
  rw[xNew_congr (blk':=updL blk' ((coolIds slot op).filterMap (iceOf blk))) hslot]
  intro l hl
  rw[hmr]at hl
  refine updL_eq _ _ _ ?_
  obtain⟨x,hx,hlx⟩:=List.mem_flatMap.1 hl
  cases x with
  | tmp t=>
   have htm:=opTmps_mem.2 hx
   simp only[opnd,coolS]at hlx
   rw[if_pos (memB_iff.2 htm)]at hlx
   exact hb t htm l (sl_view_refs _ l hlx)
  | const v=>exact hm l (by rw[hmr];exact List.mem_flatMap.2 ⟨_,hx,hlx⟩)
  | func f=>exact hm l (by rw[hmr];exact List.mem_flatMap.2 ⟨_,hx,hlx⟩)
  | global i=>exact hm l (by rw[hmr];exact List.mem_flatMap.2 ⟨_,hx,hlx⟩)
theorem xOpR_congr {op:Op}(hs:∀x∈op.operands.toList,opnd slot x=opnd slot' x)(hm:∀l∈memReads slot blk op,blk l=blk' l):xOpR T S Γ slot blk fr op=xOpR T S Γ slot' blk' fr op:=by
 unfold xOpR
 rw[xNew_congr hs hm,xCool2_congr hs hm,xOpQ_congr hs hm]
theorem xNext_congr {op:Op}(hs:∀x∈op.operands.toList,opnd slot x=opnd slot' x)(hm:∀l∈memReads slot blk op,blk l=blk' l):xNext slot blk op=xNext slot' blk' op:=by
 unfold xNext
 split
 ·rename_i it
  have hit:it∈(Op.next it true).operands.toList:=by simp[Op.operands]
  have hb:∀l∈(opnd slot it).refs,blk l=blk' l:=fun l hl=>hm l (by
   unfold memReads
   exact List.mem_flatMap.2 ⟨it,hit,hl⟩)
  rw[<-hs it hit]
  split
  ·rename_i l o he
   rw[hb l (by rw[he];simp[Sl.refs,Sv.refs,Lf.refs])]
  ·rfl
 ·rfl
theorem Does_congr {op:Op}{out:Out D}(hs:∀x∈op.operands.toList,opnd slot x=opnd slot' x)(hm:∀l∈memReads slot blk op,blk l=blk' l)(h:Does T S Γ slot blk fr op out):Does T S Γ slot' blk' fr op out:=by
 unfold Does at h⊢
 rw[<-xOpR_congr hs hm,<-xNext_congr hs hm]
 exact h
theorem step_congr (hs:∀t∈o.looksAt ops,slot t=slot' t)(hm:∀l∈memReads slot blk o.op,blk l=blk' l)(h:StepOk T S Γ ops n fr slot blk o W):StepOk T S Γ ops n fr slot' blk' o W:=by
 have hop:∀x∈o.op.operands.toList,opnd slot x=opnd slot' x:=by
  intro x hx
  cases x with
  | tmp t=>
   refine hs t ?_
   simp only[Oper.looksAt,List.mem_append,List.mem_filterMap]
   exact .inl ⟨_,hx,rfl⟩
  | _=>rfl
 have hw:∀r,Wanted ops slot o r->Wanted ops slot' o r:=by
  intro r hr
  unfold Wanted at hr⊢
  cases hg:o.guard with
  | none=>rw[hg]at hr;exact hr
  | some jw=>
   obtain⟨j,want⟩:=jw
   rw[hg]at hr
   obtain⟨d,hd,hr⟩:=hr
   have hin:slot d=slot' d:=by
    refine hs d ?_
    simp only[Oper.looksAt,List.mem_append,hg]
    exact .inr (by simp[hd])
   exact⟨d,hd,by rw[<-hin];exact hr⟩
 obtain⟨h1,h2,h3⟩:=h
 refine⟨h1,h2,?_⟩
 rcases h3 with⟨hwt,out,hx,hrest⟩ | ⟨hwf,hrest⟩
 ·exact .inl ⟨hw _ hwt,out,Does_congr hop hm hx,hrest⟩
 ·exact .inr ⟨hw _ hwf,hrest⟩
def selS (L:Nat->Bool):Nat->(Nat->Sl D)->List (Wr D)->(Nat->Sl D)
 | _,slot,[]=>slot
 | i,slot,W::Ws=>selS L (i+1) (if L i then appS slot W else slot) Ws
def selB (L:Nat->Bool):Nat->(Nat->Option (Bk D))->List (Wr D)->(Nat->Option (Bk D))
 | _,blk,[]=>blk
 | i,blk,W::Ws=>selB L (i+1) (if L i then appB blk W else blk) Ws
theorem appS_other {t:Nat}(h:W.dst≠some t):appS slot W t=slot t:=by
 unfold appS
 cases hd:W.dst with
 | some d=>exact upd_other _ _ _ _ (fun e=>h (by rw[hd,e]))
 | none=>rfl
theorem appS_same {t:Nat}(h:W.dst=some t):appS slot W t=W.val:=by simp[appS,h,upd_same]
theorem updL_notin {α:Type}{l:Nat}:∀{kv:List (Nat×α)} {f:Nat->α},l∉kv.map (·.1)->updL f kv l=f l
 | [],f,_=>rfl
 | (k,v)::r,f,h=>by
  simp only[List.map_cons,List.mem_cons,not_or]at h
  simp only[updL]
  rw[updL_notin h.2,upd_other _ _ _ _ h.1]
theorem updL_in {α:Type}{l:Nat}:∀{kv:List (Nat×α)} {f f':Nat->α},l∈kv.map (·.1)->updL f kv l=updL f' kv l
 | [],f,f',h=>by simp at h
 | (k,v)::r,f,f',h=>by
  simp only[updL]
  by_cases hr:l∈r.map (·.1)
  ·exact updL_in hr
  ·simp only[List.map_cons,List.mem_cons]at h
   rcases h with rfl | h
   ·rw[updL_notin hr,updL_notin hr,upd_same,upd_same]
   ·exact absurd h hr
theorem selS_agree {L L':Nat->Bool}{t:Nat}:∀(Ws:List (Wr D)) (i:Nat) (slot slot':Nat->Sl D),(∀j W,Ws[j]? =some W->W.dst=some t->L (i+j)=L' (i+j))->slot t=slot' t->selS L i slot Ws t=selS L' i slot' Ws t
 | [],i,slot,slot',_,h=>h
 | W::Ws,i,slot,slot',hL,h=>by
  simp only[selS]
  refine selS_agree Ws (i+1) _ _ (fun j W' hj hd=>by have:=hL (j+1) W' (by simpa using hj) hd;rwa [show i+(j+1)=i+1+j by omega]at this) ?_
  by_cases hd:W.dst=some t
  ·have:=hL 0 W rfl hd
   simp only[Nat.add_zero]at this
   rw[this]
   split
   ·rw[appS_same hd,appS_same hd]
   ·exact h
  ·have e1:(if L i then appS slot W else slot) t=slot t:=by split<;>first | exact appS_other hd | rfl
   have e2:(if L' i then appS slot' W else slot') t=slot' t:=by split<;>first | exact appS_other hd | rfl
   rw[e1,e2];exact h
theorem selB_agree {L L':Nat->Bool}{t:Nat}:∀(Ws:List (Wr D)) (i:Nat) (blk blk':Nat->Option (Bk D)),(∀j W,Ws[j]? =some W->t∈W.keys->L (i+j)=L' (i+j))->blk t=blk' t->selB L i blk Ws t=selB L' i blk' Ws t
 | [],i,blk,blk',_,h=>h
 | W::Ws,i,blk,blk',hL,h=>by
  simp only[selB]
  refine selB_agree Ws (i+1) _ _ (fun j W' hj hd=>by have:=hL (j+1) W' (by simpa using hj) hd;rwa [show i+(j+1)=i+1+j by omega]at this) ?_
  by_cases hd:t∈W.keys
  ·have:=hL 0 W rfl hd
   simp only[Nat.add_zero]at this
   rw[this]
   split
   ·exact updL_in hd
   ·exact h
  ·have e1:(if L i then appB blk W else blk) t=blk t:=by split<;>first | exact updL_notin hd | rfl
   have e2:(if L' i then appB blk' W else blk') t=blk' t:=by split<;>first | exact updL_notin hd | rfl
   rw[e1,e2];exact h
theorem selS_none {L:Nat->Bool}{t:Nat}(Ws:List (Wr D))(i:Nat)(slot:Nat->Sl D)(h:∀j W,Ws[j]? =some W->W.dst=some t->L (i+j)=false):selS L i slot Ws t=slot t:=by
 induction Ws generalizing i slot with
 | nil=>rfl
 | cons W Ws ih=>
  simp only[selS]
  rw[ih (i+1) _ fun j W' hj hd=>by have:=h (j+1) W' (by simpa using hj) hd;rwa [show i+(j+1)=i+1+j by omega]at this]
  by_cases hd:W.dst=some t
  ·have:=h 0 W rfl hd
   simp only[Nat.add_zero]at this
   rw[this];rfl
  ·split<;>first | exact appS_other hd | rfl
theorem selB_none {L:Nat->Bool}{t:Nat}(Ws:List (Wr D))(i:Nat)(blk:Nat->Option (Bk D))(h:∀j W,Ws[j]? =some W->t∈W.keys->L (i+j)=false):selB L i blk Ws t=blk t:=by
 induction Ws generalizing i blk with
 | nil=>rfl
 | cons W Ws ih=>
  simp only[selB]
  rw[ih (i+1) _ fun j W' hj hd=>by have:=h (j+1) W' (by simpa using hj) hd;rwa [show i+(j+1)=i+1+j by omega]at this]
  by_cases hd:t∈W.keys
  ·have:=h 0 W rfl hd
   simp only[Nat.add_zero]at this
   rw[this];rfl
  ·split<;>first | exact updL_notin hd | rfl
theorem selS_last {L:Nat->Bool}{t:Nat}:∀(Ws:List (Wr D)) (b i:Nat) (slot:Nat->Sl D) (W:Wr D),Ws[i]? =some W->L (b+i)=true->W.dst=some t->(∀j W',i < j->Ws[j]? =some W'->W'.dst=some t->L (b+j)=false)->selS L b slot Ws t=W.val
 | [],b,i,slot,W,h,_,_,_=>by simp at h
 | V::Ws,b,0,slot,W,h,hL,hd,hn=>by
  simp only[List.getElem?_cons_zero,Option.some.injEq]at h
  subst h
  simp only[selS]
  rw[selS_none Ws (b+1) _ fun j W' hj hd'=>by have:=hn (j+1) W' (by omega) (by simpa using hj) hd';rwa [show b+(j+1)=b+1+j by omega]at this]
  simp only[Nat.add_zero]at hL
  rw[hL]
  exact appS_same hd
 | V::Ws,b,i+1,slot,W,h,hL,hd,hn=>by
  simp only[selS]
  exact selS_last Ws (b+1) i _ W (by simpa using h) (by rw[show b+1+i=b+(i+1) by omega];exact hL) hd fun j W' hj hw hd'=>by have:=hn (j+1) W' (by omega) (by simpa using hw) hd';rwa [show b+(j+1)=b+1+j by omega]at this
theorem selB_last {L:Nat->Bool}{t:Nat}:∀(Ws:List (Wr D)) (b i:Nat) (blk blk':Nat->Option (Bk D)) (W:Wr D),Ws[i]? =some W->L (b+i)=true->t∈W.keys->(∀j W',i < j->Ws[j]? =some W'->t∈W'.keys->L (b+j)=false)->selB L b blk Ws t=appB blk' W t
 | [],b,i,blk,blk',W,h,_,_,_=>by simp at h
 | V::Ws,b,0,blk,blk',W,h,hL,hd,hn=>by
  simp only[List.getElem?_cons_zero,Option.some.injEq]at h
  subst h
  simp only[selB]
  rw[selB_none Ws (b+1) _ fun j W' hj hd'=>by have:=hn (j+1) W' (by omega) (by simpa using hj) hd';rwa [show b+(j+1)=b+1+j by omega]at this]
  simp only[Nat.add_zero]at hL
  rw[hL]
  exact updL_in hd
 | V::Ws,b,i+1,blk,blk',W,h,hL,hd,hn=>by
  simp only[selB]
  exact selB_last Ws (b+1) i _ blk' W (by simpa using h) (by rw[show b+1+i=b+(i+1) by omega];exact hL) hd fun j W' hj hw hd'=>by have:=hn (j+1) W' (by omega) (by simpa using hw) hd';rwa [show b+(j+1)=b+1+j by omega]at this
theorem selS_all {L:Nat->Bool}:∀(Ws:List (Wr D)) (b:Nat) (slot:Nat->Sl D),(∀j,j < Ws.length->L (b+j)=true)->selS L b slot Ws=appSs slot Ws
 | [],_,_,_=>rfl
 | W::Ws,b,slot,h=>by
  have h0:=h 0 (by simp)
  simp only[Nat.add_zero]at h0
  simp only[selS,h0,if_true,appSs]
  exact selS_all Ws (b+1) _ fun j hj=>by have:=h (j+1) (by simpa using hj);rwa [show b+(j+1)=b+1+j by omega]at this
theorem selB_all {L:Nat->Bool}:∀(Ws:List (Wr D)) (b:Nat) (blk:Nat->Option (Bk D)),(∀j,j < Ws.length->L (b+j)=true)->selB L b blk Ws=appBs blk Ws
 | [],_,_,_=>rfl
 | W::Ws,b,blk,h=>by
  have h0:=h 0 (by simp)
  simp only[Nat.add_zero]at h0
  simp only[selB,h0,if_true,appBs]
  exact selB_all Ws (b+1) _ fun j hj=>by have:=h (j+1) (by simpa using hj);rwa [show b+(j+1)=b+1+j by omega]at this
theorem trace_at:∀(l:List Oper) (Ws:List (Wr D)) (b i fr:Nat) (slot:Nat->Sl D) (blk:Nat->Option (Bk D)) (o:Oper),Trace T S Γ ops n fr slot blk l Ws->l[i]? =some o->
  ∃W,Ws[i]? =some W/\∃slot',(∀t,Alike (selS (fun j=>decide (j < b+i)) b slot Ws t) (slot' t))/\StepOk T S Γ ops n (fr+64*i) slot' (selB (fun j=>decide (j < b+i)) b blk Ws) o W
 | [],_,_,i,_,_,_,_,_,h=>by simp at h
 | _::_,[],_,_,_,_,_,_,ht,_=>by simp[Trace]at ht
 | o'::l,W::Ws,b,0,fr,slot,blk,o,ht,h=>by
  simp only[List.getElem?_cons_zero,Option.some.injEq]at h
  subst h
  refine⟨W,rfl,?_⟩
  have e1:selS (fun j=>decide (j < b+0)) b slot (W::Ws)=slot:=by
   funext t
   exact selS_none _ _ _ fun j W' _ _=>by simp
  have e2:selB (fun j=>decide (j < b+0)) b blk (W::Ws)=blk:=by
   funext t
   exact selB_none _ _ _ fun j W' _ _=>by simp
  rw[e1,e2]
  exact ht.1
 | o'::l,W::Ws,b,i+1,fr,slot,blk,o,ht,h=>by
  obtain⟨W',hW',hst⟩:=trace_at l Ws (b+1) i (fr+64) _ _ o ht.2 (by simpa using h)
  refine⟨W',by simpa using hW',?_⟩
  have hb:decide (b < b+(i+1))=true:=by simp
  simp only[selS,selB,hb,if_true]
  rw[show b+(i+1)=b+1+i by omega,show fr+64*(i+1)=fr+64+64*i by omega]
  exact hst
theorem trace_length:∀(l:List Oper) (Ws:List (Wr D)) (fr:Nat) (slot:Nat->Sl D) (blk:Nat->Option (Bk D)),Trace T S Γ ops n fr slot blk l Ws->Ws.length=l.length
 | [],[],_,_,_,_=>rfl
 | [],_::_,_,_,_,h=>by simp[Trace]at h
 | _::_,[],_,_,_,h=>by simp[Trace]at h
 | _::l,_::Ws,fr,_,_,h=>by simp[trace_length l Ws _ _ _ h.2]
end
end Go.Vc
namespace Go.Vc
open Go.RowKit
set_option linter.unusedVariables false
def drawOkB (ops:Array Oper):Bool:=
 (List.range ops.size).all fun j=>
  match ops[j]? with
  | none=>true
  | some oj=>(oj.after.toList.all fun e=> !Region.binds .any e || Nat.blt e.on j) && (List.range j).all fun i=>
   match ops[i]? with
   | none=>true
   | some oi=>Oper.apart ops oi oj || edgeTo oj i
section
variable {D:Type}{P:Program}{S:Sh D}{T:TypeId->Option Ty}{Γ:FuncId->Option (Ct D)}{N:Nat->Prop}{w w':World}{w0:Bs}{g0:Nat->Option Value}{blk blk':Nat->Option (Bk D)}{al:Nat->Prop}
 {a:Act} {o:Oper} {K:Act->World->Prop} {Q:Exit->Act->World->Prop} {slot slot':Nat->Sl D} {fr n:Nat} {ops:Array Oper} {W:Wr D} {Ws:List (Wr D)}
theorem drawOk_edges (h:drawOkB ops=true){j:Nat}{oj:Oper}(hj:ops[j]? =some oj):∀e∈oj.after.toList,Region.binds .any e=true->e.on < j:=by
 intro e he hb
 have hlt:j < ops.size:=(Array.getElem?_eq_some_iff.1 hj).1
 have:=List.all_eq_true.1 h j (List.mem_range.2 hlt)
 simp only[hj,Bool.and_eq_true]at this
 have:=List.all_eq_true.1 this.1 e he
 simp only[hb,Bool.not_true,Bool.false_or]at this
 simpa[Nat.blt_eq]using this
theorem drawOk_pair (h:drawOkB ops=true){i j:Nat}{oi oj:Oper}(hij:i < j)(hi:ops[i]? =some oi)(hj:ops[j]? =some oj):Oper.apart ops oi oj=true\/edgeTo oj i=true:=by
 have hlt:j < ops.size:=(Array.getElem?_eq_some_iff.1 hj).1
 have:=List.all_eq_true.1 h j (List.mem_range.2 hlt)
 simp only[hj,Bool.and_eq_true]at this
 have:=List.all_eq_true.1 this.2 i (List.mem_range.2 hij)
 simp only[hi,Bool.or_eq_true]at this
 exact this
def readsAt (slot:Nat->Sl D)(blk:Nat->Option (Bk D))(Ws:List (Wr D))(ops:Array Oper)(i:Nat):List Nat:=
 match ops[i]? with
 | some o=>memReads (selS (fun j=>decide (j < i)) 0 slot Ws) (selB (fun j=>decide (j < i)) 0 blk Ws) o.op
 | none=>[]
def MemOk (slot:Nat->Sl D)(blk:Nat->Option (Bk D))(Ws:List (Wr D))(ops:Array Oper):Prop:=
 ∀i j oj Wi Wj l,i < j->ops[j]? =some oj->Ws[i]? =some Wi->Ws[j]? =some Wj->((l∈Wj.keys/\(l∈readsAt slot blk Ws ops i\/l∈Wi.keys))\/(l∈readsAt slot blk Ws ops j/\l∈Wi.keys))->farTo ops 3 oj i=true
theorem edge_spec {o:Oper}{i:Nat}(h:edgeTo o i=true):∃e∈o.after.toList,Region.binds .any e=true/\e.on=i:=by
 simp only[edgeTo,List.any_eq_true,Bool.and_eq_true]at h
 obtain⟨e,he,hb,hi⟩:=h
 exact⟨e,he,hb,Nat.eq_of_beq_eq_true hi⟩
theorem far_listed {listed:Array Bool}(hcl:∀i o,ops[i]? =some o->listed.getD i false=true->∀e∈o.after.toList,Region.binds .any e=true->listed.getD e.on false=true):
  ∀(k:Nat) (o:Oper) (i:Nat),(∀e∈o.after.toList,Region.binds .any e=true->listed.getD e.on false=true)->farTo ops k o i=true->listed.getD i false=true
 | 0,o,i,hed,h=>by
  obtain⟨e,he,hb,rfl⟩:=edge_spec h
  exact hed e he hb
 | k+1,o,i,hed,h=>by
  simp only[farTo,Bool.or_eq_true,List.any_eq_true,Bool.and_eq_true]at h
  rcases h with h | ⟨e,he,hb,hm⟩
  ·obtain⟨e,he,hb,rfl⟩:=edge_spec h
   exact hed e he hb
  ·split at hm
   ·rename_i o' ho'
    exact far_listed hcl k o' i (hcl e.on o' ho' (hed e he hb)) hm
   ·cases hm
theorem ready_spec {listed:Array Bool}(hsz:listed.size=ops.size){i:Nat}(h:i∈Region.ready .any ops listed):
  ∃o,ops[i]? =some o/\listed.getD i false=false/\i < ops.size/\∀e∈o.after.toList,Region.binds .any e=true->listed.getD e.on false=true:=by
 simp only[Region.ready,List.mem_filter,List.mem_range,Bool.and_eq_true]at h
 obtain⟨hlt,h1,h2⟩:=h
 cases ho:ops[i]? with
 | none=>rw[ho]at h2;simp at h2
 | some o=>
  rw[ho]at h2
  simp only[Option.map_some,Option.getD_some]at h2
  refine⟨o,rfl,?_,hlt,fun e he hb=> ?_⟩
  ·have hl:i < listed.size:=by omega
   simpa[Array.getD,hl]using h1
  ·rw[Array.all_eq_true_iff_forall_mem]at h2
   have:=h2 e (by simpa using he)
   simpa[hb]using this
theorem ready_nil {listed:Array Bool}(hsz:listed.size=ops.size)(hd:drawOkB ops=true)(h:Region.ready .any ops listed=[]):∀j,j < ops.size->listed.getD j false=true:=by
 intro j
 induction j using Nat.strongRecOn with
 | _ j ih=>
  intro hj
  cases hb:listed.getD j false with
  | true=>rfl
  | false=>
   exfalso
   have ho:ops[j]? =some ops[j]:=by simp[hj]
   have hin:j∈Region.ready .any ops listed:=by
    simp only[Region.ready,List.mem_filter,List.mem_range,Bool.and_eq_true]
    refine⟨hj,?_,?_⟩
    ·have hl:j < listed.size:=by omega
     simpa[Array.getD,hl]using hb
    ·rw[ho]
     simp only[Option.map_some,Option.getD_some]
     rw[Array.all_eq_true_iff_forall_mem]
     intro e he
     cases hbe:Region.binds .any e with
     | false=>rfl
     | true=>
      have:=drawOk_edges hd ho e (by simpa using he) hbe
      simpa using ih e.on this (by omega)
   rw[h]at hin
   simp at hin
theorem any_ops (hTy:∀t ty,T t=some ty->TyOk P t ty)(hΓ:∀f ct,Γ f=some ct->CtOk P S f ct)(hS:ShOk S)(hd:drawOkB ops=true)(htr:Trace T S Γ ops n fr slot blk ops.toList Ws)(hmem:MemOk slot blk Ws ops)
  (hQ:∀a w,Holds S w0 g0 N n (appSs slot Ws) (appBs blk Ws) (· < fr+64*ops.size) a w->Q .normal a w):
  ∀(fuel:Nat) (listed:Array Bool) (a:Act) (w:World),listed.size=ops.size->(∀i o,ops[i]? =some o->listed.getD i false=true->∀e∈o.after.toList,Region.binds .any e=true->listed.getD e.on false=true)->
   listed.toList.count false<=fuel->Holds S w0 g0 N n (selS (fun j=>listed.getD j false) 0 slot Ws) (selB (fun j=>listed.getD j false) 0 blk Ws) (fun l=>l < fr\/∃j,listed.getD j false=true/\fr+64*j<=l/\l < fr+64*j+64) a w->
   wpAny P .any ops Q fuel listed a w:=by
 have hlen:Ws.length=ops.size:=by simpa using trace_length _ _ _ _ _ htr
 have hWs:∀(j:Nat) (Wj:Wr D),Ws[j]? =some Wj->∃oj:Oper,ops[j]? =some oj/\Wj.dst=oj.dst:=by
  intro j Wj hj
  have hlt:j < ops.size:=by have:=(List.getElem?_eq_some_iff.1 hj).1;omega
  obtain⟨W',hW',_,_,hst⟩:=trace_at ops.toList Ws 0 j fr slot blk ops[j] htr (by simp[hlt])
  rw[hj]at hW'
  injection hW' with hW'
  subst hW'
  exact⟨ops[j],by simp[hlt],hst.1⟩
 have fin:∀(listed:Array Bool) (a:Act) (w:World),listed.size=ops.size->Region.ready .any ops listed=[]->Holds S w0 g0 N n (selS (fun j=>listed.getD j false) 0 slot Ws) (selB (fun j=>listed.getD j false) 0 blk Ws) (fun l=>l < fr\/∃j,listed.getD j false=true/\fr+64*j<=l/\l < fr+64*j+64) a w->Q .normal a w:=by
  intro listed a w hsz hr h
  have hall:=ready_nil hsz hd hr
  rw[selS_all Ws 0 slot fun j hj=>by simpa using hall j (by omega),selB_all Ws 0 blk fun j hj=>by simpa using hall j (by omega)]at h
  obtain⟨g,hp,hrest⟩:=h
  refine hQ a w ⟨g,hp.weaken ?_,hrest⟩
  rintro l (hl | ⟨j,hj,h1,h2⟩)
  ·omega
  ·have:j < listed.size:=by
    by_cases hjl:j < listed.size
    ·exact hjl
    ·simp[Array.getD,hjl]at hj
   omega
 intro fuel
 induction fuel with
 | zero=>
  intro listed a w hsz hcl hcnt h
  have hr:Region.ready .any ops listed=[]:=by
   cases hx:Region.ready .any ops listed with
   | nil=>rfl
   | cons i rs=>
    exfalso
    obtain⟨o,ho,hf,hlt,_⟩:=ready_spec hsz (show i∈Region.ready .any ops listed by rw[hx];simp)
    have hl:i < listed.size:=by omega
    have hmemf:false∈listed.toList:=by
     have:listed[i]=false:=by simpa[Array.getD,hl]using hf
     rw[<-this]
     simp
    have:=List.count_pos_iff.2 hmemf
    omega
  exact⟨hr,fin listed a w hsz hr h⟩
 | succ fuel ih=>
  intro listed a w hsz hcl hcnt h
  refine⟨fun hr=>fin listed a w hsz hr h,fun i hi=> ?_⟩
  obtain⟨oi,hoi,hli,hilt,hed⟩:=ready_spec hsz hi
  obtain⟨Wi,hWi,slotI,heI,hst⟩:=trace_at ops.toList Ws 0 i fr slot blk oi htr (by simpa using hoi)
  simp only[Nat.zero_add]at hst heI
  have hil:i < listed.size:=by omega
  have order:∀j Wj oj,Ws[j]? =some Wj->ops[j]? =some oj->(j < i->farTo ops 3 oi j=true)->(i < j->farTo ops 3 oj i=true)->listed.getD j false=decide (j < i):=by
   intro j Wj oj hj hoj h1 h2
   rcases Nat.lt_trichotomy j i with hji | rfl | hji
   ·rw[far_listed hcl 3 oi j hed (h1 hji)];simp[hji]
   ·rw[hli];simp
   ·have hn:¬j < i:=by omega
    simp only[hn,decide_false]
    cases hb:listed.getD j false with
    | false=>rfl
    | true=>
     have:=far_listed hcl 3 oj i (hcl j oj hoj hb) (h2 hji)
     rw[hli]at this
     cases this
  have dstOf:∀(j:Nat) (Wj:Wr D) (oj:Oper) (t:Nat),Ws[j]? =some Wj->ops[j]? =some oj->Wj.dst=some t->oj.dst=some t:=by
   intro j Wj oj t hj hoj hdst
   obtain⟨o',ho',hst'⟩:=hWs j Wj hj
   rw[hoj]at ho'
   injection ho' with ho'
   subst ho'
   rw[<-hst'];exact hdst
  have opAt:∀j Wj,Ws[j]? =some Wj->∃oj,ops[j]? =some oj:=fun j Wj hj=>by obtain⟨o',ho',_⟩:=hWs j Wj hj;exact⟨o',ho'⟩
  have hslot:∀t∈oi.looksAt ops,selS (fun j=>decide (j < i)) 0 slot Ws t=selS (fun j=>listed.getD j false) 0 slot Ws t:=by
   intro t ht
   refine selS_agree Ws 0 slot slot (fun j Wj hj hdst=> ?_) rfl
   obtain⟨oj,hoj⟩:=opAt j Wj hj
   have hdj:=dstOf j Wj oj t hj hoj hdst
   simp only[Nat.zero_add]
   refine(order j Wj oj hj hoj (fun hji=> ?_) (fun hij=> ?_)).symm
   ·rcases drawOk_pair hd hji hoj hoi with hap | he
    ·exact absurd ht ((Oper.apart_spec hap).1 t hdj)
    ·exact far_of he 3
   ·rcases drawOk_pair hd hij hoi hoj with hap | he
    ·exact absurd ht ((Oper.apart_spec hap).2.2 t hdj)
    ·exact far_of he 3
  have hrd:readsAt slot blk Ws ops i=memReads (selS (fun j=>decide (j < i)) 0 slot Ws) (selB (fun j=>decide (j < i)) 0 blk Ws) oi.op:=by simp[readsAt,hoi]
  have hblk:∀l∈memReads (selS (fun j=>decide (j < i)) 0 slot Ws) (selB (fun j=>decide (j < i)) 0 blk Ws) oi.op,selB (fun j=>decide (j < i)) 0 blk Ws l=selB (fun j=>listed.getD j false) 0 blk Ws l:=by
   intro l hl
   refine selB_agree Ws 0 blk blk (fun j Wj hj hk=> ?_) rfl
   obtain⟨oj,hoj⟩:=opAt j Wj hj
   simp only[Nat.zero_add]
   exact(order j Wj oj hj hoj (fun hji=>hmem j i oi Wj Wi l hji hoi hj hWi (.inr ⟨by rw[hrd];exact hl,hk⟩)) (fun hij=>hmem i j oj Wi Wj l hij hoj hWi hj (.inl ⟨hk, .inl (by rw[hrd];exact hl)⟩))).symm
  have hst':=step_congr (slot':=fun t=>if t∈oi.looksAt ops then slotI t else selS (fun j=>listed.getD j false) 0 slot Ws t) (fun t ht=>by simp only[ht,if_true]) (fun l hl=>hblk l (by rw[memReads_alike heI];exact hl)) hst
  have heL:∀t,Alike (selS (fun j=>listed.getD j false) 0 slot Ws t) (if t∈oi.looksAt ops then slotI t else selS (fun j=>listed.getD j false) 0 slot Ws t):=by
   intro t
   by_cases ht:t∈oi.looksAt ops
   ·rw[if_pos ht,<-hslot t ht];exact heI t
   ·rw[if_neg ht];exact Alike.refl _
  refine step_sound hTy hΓ hS hoi (h.alike heL) ?_ hst' fun a' w' h'=> ?_
  ·rintro m hm1 hm2 (hlt | ⟨j,hj,he⟩)
   ·omega
   ·have:j=i:=by omega
    subst this
    rw[hli]at hj
    cases hj
  ·
   have h':=h'.alike (appS_alike (W:=Wi) fun t=>(heL t).symm)
   have hget:∀j,(listed.setIfInBounds i true).getD j false=(if j=i then true else listed.getD j false):=by
    intro j
    by_cases hji:j=i
    ·subst hji;simp[Array.getD,hil]
    ·simp only[hji,if_false,Array.getD]
     by_cases hjl:j < listed.size
     ·have hij:¬i=j:=fun e=>hji e.symm
      simp[hjl,hij]
     ·simp[hjl]
   have e1:appS (selS (fun j=>listed.getD j false) 0 slot Ws) Wi=selS (fun j=>(listed.setIfInBounds i true).getD j false) 0 slot Ws:=by
    funext t
    by_cases hdst:Wi.dst=some t
    ·rw[appS_same hdst]
     refine(selS_last Ws 0 i slot Wi hWi (by simp[hget]) hdst fun j Wj hij hj hdj=> ?_).symm
     obtain⟨oj,hoj⟩:=opAt j Wj hj
     simp only[Nat.zero_add,hget,show j≠i by omega,if_false]
     have:=order j Wj oj hj hoj (fun h=>by omega) (fun _=>by
      rcases drawOk_pair hd hij hoi hoj with hap | he
      ·exact absurd (dstOf j Wj oj t hj hoj hdj) ((Oper.apart_spec hap).2.1 t (dstOf i Wi oi t hWi hoi hdst))
      ·exact far_of he 3)
     rw[this]
     simp;omega
    ·rw[appS_other hdst]
     refine selS_agree Ws 0 slot slot (fun j Wj hj hdj=> ?_) rfl
     have hji:j≠i:=by
      rintro rfl
      rw[hWi]at hj
      injection hj with hj
      subst hj
      exact hdst hdj
     simp[hget,hji]
   have e2:appB (selB (fun j=>listed.getD j false) 0 blk Ws) Wi=selB (fun j=>(listed.setIfInBounds i true).getD j false) 0 blk Ws:=by
    funext t
    by_cases hk:t∈Wi.keys
    ·refine(selB_last Ws 0 i blk _ Wi hWi (by simp[hget]) hk fun j Wj hij hj hkj=> ?_).symm
     obtain⟨oj,hoj⟩:=opAt j Wj hj
     simp only[Nat.zero_add,hget,show j≠i by omega,if_false]
     have:=order j Wj oj hj hoj (fun h=>by omega) (fun _=>hmem i j oj Wi Wj t hij hoj hWi hj (.inl ⟨hkj, .inr hk⟩))
     rw[this]
     simp;omega
    ·rw[show appB (selB (fun j=>listed.getD j false) 0 blk Ws) Wi t=selB (fun j=>listed.getD j false) 0 blk Ws t from updL_notin hk]
     refine selB_agree Ws 0 blk blk (fun j Wj hj hkj=> ?_) rfl
     have hji:j≠i:=by
      rintro rfl
      rw[hWi]at hj
      injection hj with hj
      subst hj
      exact hk hkj
     simp[hget,hji]
   rw[e1,e2]at h'
   refine ih _ a' w' (by simp[hsz]) ?_ ?_ ?_
   ·intro j o ho hj e he hb
    rw[hget]at hj⊢
    by_cases hji:j=i
    ·subst hji
     rw[hoi]at ho
     injection ho with ho
     subst ho
     have:=hed e he hb
     split<;>simp_all
    ·rw[if_neg hji]at hj
     have:=hcl j o ho hj e he hb
     split<;>simp_all
   ·have hx:listed.toList[i]'(by simpa using hil)=false:=by simpa[Array.getD,hil]using hli
    have hc:(listed.setIfInBounds i true).toList.count false=listed.toList.count false - 1:=by
     rw[Array.toList_setIfInBounds,List.count_set (by simpa using hil)]
     simp[hx]
    omega
   ·obtain⟨g,hp,hrest⟩:=h'
    refine⟨g,hp.weaken ?_,hrest⟩
    rintro l ((hl | ⟨j,hj,hr⟩) | hr)
    ·exact .inl hl
    ·exact .inr ⟨j,by rw[hget];split<;>simp_all,hr⟩
    ·exact .inr ⟨i,by simp[hget],hr⟩
theorem draw_region {id:Nat}(hm:P.follows .mixedOrders=true)(hTy:∀t ty,T t=some ty->TyOk P t ty)(hΓ:∀f ct,Γ f=some ct->CtOk P S f ct)(hS:ShOk S)(hd:drawOkB ops=true)(htr:Trace T S Γ ops n fr slot blk ops.toList Ws)(hmem:MemOk slot blk Ws ops)
  (h:Holds S w0 g0 N n slot blk (· < fr) a w) (hQ:∀a w,Holds S w0 g0 N n (appSs slot Ws) (appBs blk Ws) (· < fr+64*ops.size) a w->Q .normal a w):(Code.region id ops true).wp P Q a w:=by
 refine wp_region_any hm (any_ops hTy hΓ hS hd htr hmem hQ ops.size _ a _ (by simp) ?_ (by simp) ?_)
 ·intro i o _ hi
  exfalso
  by_cases hlt:i < ops.size
  ·simp[Array.getD,hlt]at hi
  ·simp[Array.getD,hlt]at hi
 ·have hL:∀j,(Array.replicate ops.size false).getD j false=false:=by
   intro j
   by_cases hlt:j < ops.size<;>simp[Array.getD,hlt]
  have e1:selS (fun j=>(Array.replicate ops.size false).getD j false) 0 slot Ws=slot:=by
   funext t;exact selS_none _ _ _ fun j W _ _=>hL _
  have e2:selB (fun j=>(Array.replicate ops.size false).getD j false) 0 blk Ws=blk:=by
   funext t;exact selB_none _ _ _ fun j W _ _=>hL _
  rw[e1,e2]
  obtain⟨g,hp,hs,hn,hdf,hm0⟩:=h
  have hB:Below w.heap.size w {w with drawn:=w.drawn+1}:=⟨rfl,rfl,rfl,Nat.le_refl _,fun _ _=>rfl⟩
  obtain⟨hp',hk⟩:=hp.grow hB
  exact⟨g,hp'.weaken fun l hl=> .inl hl,fun t=>(hs t).keep hk (More.refl _),hn,hdf,hm0⟩
end
end Go.Vc
namespace Go.Vc
open Go.RowKit
set_option linter.unusedVariables false
structure Alg (τ:Type 1) where
 stuck:τ
 ob:DP->τ->τ
 br:Bool->τ->τ->τ
structure AlgOk {τ:Type 1}(A:Alg τ)(den:τ->Prop):Prop where
 stuck:¬den A.stuck
 ob:∀{p k},den (A.ob p k)->p.p/\den k
 br:∀{b t e},den (A.br b t e)->(b=true->den t)/\(b=false->den e)
def Alg.opt {τ:Type 1}(A:Alg τ)(p:Option DP)(k:τ):τ:=
 match p with
 | none=>k
 | some p=>A.ob p k
theorem AlgOk.opt {τ:Type 1}{A:Alg τ}{den:τ->Prop}(hA:AlgOk A den){p:Option DP}{k:τ}(h:den (A.opt p k)):preD p/\den k:=by
 cases p with
 | none=>exact⟨trivial,h⟩
 | some p=>exact hA.ob h
def look {α:Type}(d:α):List (Nat×α)->Nat->α
 | [],_=>d
 | (k,v)::r,n=>if Nat.beq n k then v else look d r n
theorem look_cons {α:Type}(d:α)(k:Nat)(v:α)(r:List (Nat×α)):look d ((k,v)::r)=upd (look d r) k v:=by
 funext n
 simp only[look,upd]
 by_cases h:n=k
 ·simp[h]
 ·have:¬(n.beq k=true):=fun e=>h (Nat.eq_of_beq_eq_true e)
  simp[h,this]
theorem look_rev {α:Type}(d:α):∀(bs l:List (Nat×α)),look d (bs.reverse++l)=updL (look d l) bs
 | [],l=>rfl
 | (k,v)::bs,l=>by
  rw[List.reverse_cons,List.append_assoc,List.singleton_append,look_rev d bs,look_cons]
  rfl
structure St (D:Type) where
 tmps:List (Nat×Sl D)
 blks:List (Nat×Option (Bk D))
 next:Nat
def St.slot {D:Type}(s:St D):Nat->Sl D:=look (.one (.lf .any)) s.tmps
def St.blk {D:Type}(s:St D):Nat->Option (Bk D):=look none s.blks
def St.put {D:Type}(s:St D)(dst:Option Nat)(v:Sl D)(bs:List (Nat×Option (Bk D))):St D:=
 match dst with
 | some d=>⟨(d,v)::s.tmps,bs.reverse++s.blks,s.next⟩
 | none=>⟨s.tmps,bs.reverse++s.blks,s.next⟩
theorem put_slot {D:Type}(s:St D)(dst:Option Nat)(v:Sl D)(bs:List (Nat×Option (Bk D))):(s.put dst v bs).slot=appS s.slot ⟨dst,v,bs⟩:=by
 cases dst with
 | none=>rfl
 | some d=>exact look_cons _ _ _ _
theorem put_blk {D:Type}(s:St D)(dst:Option Nat)(v:Sl D)(bs:List (Nat×Option (Bk D))):(s.put dst v bs).blk=appB s.blk ⟨dst,v,bs⟩:=by
 cases dst<;>exact look_rev _ _ _
theorem put_next {D:Type}(s:St D)(dst:Option Nat)(v:Sl D)(bs:List (Nat×Option (Bk D))):(s.put dst v bs).next=s.next:=by
 cases dst<;>rfl
theorem put_pre {D:Type}{s:St D}{dst:Option Nat}{v:Sl D}{bs pre x:List (Nat×Option (Bk D))}(h:x=pre++(s.put dst v bs).blks):∃pre',x=pre'++s.blks:=by
 cases dst<;>exact⟨pre++bs.reverse,by rw[h];simp[St.put]⟩
theorem put_other {D:Type}{s:St D}{dst:Option Nat}{v:Sl D}{bs:List (Nat×Option (Bk D))}{t:Nat}(h:dst≠some t):(s.put dst v bs).slot t=s.slot t:=by
 cases dst with
 | none=>rfl
 | some d=>
  show look _ _ t=look _ _ t
  rw[show(s.put (some d) v bs).tmps=(d,v)::s.tmps from rfl,look_cons]
  exact upd_other _ _ _ _ fun e=>h (by rw[e])
def meets (a b:List Nat):Bool:=a.any fun x=>b.any fun y=>Nat.beq x y
def badB (ops:Array Oper)(acc:List (Nat×List Nat×List Nat))(o:Oper)(rb wb:List Nat):Bool:=
 acc.any fun p=>(meets wb p.2.1 || meets wb p.2.2 || meets rb p.2.2) && !farTo ops 3 o p.1
def dstOk (n:Nat):Option Nat->Bool
 | none=>true
 | some d=>Nat.blt d n
section
variable {D:Type}{τ:Type 1}
def stepW (A:Alg τ)(ops:Array Oper)(draw:Bool)(o:Oper)(i:Nat)(acc:List (Nat×List Nat×List Nat))(s:St D)(out:Out D)(k:List (Nat×List Nat×List Nat)->St D->τ):τ:=
 match draw with
 | false=>A.opt out.pre (k acc (s.put o.dst out.val out.blks))
 | true=>
  if badB ops acc o (memReads s.slot s.blk o.op) (out.blks.map (·.1))then A.stuck
  else A.opt out.pre (k ((i,memReads s.slot s.blk o.op,out.blks.map (·.1))::acc) (s.put o.dst out.val out.blks))
def stepV (A:Alg τ)(T:TypeId->Option Ty)(S:Sh D)(Γ:FuncId->Option (Ct D))(ops:Array Oper)(draw:Bool)(o:Oper)(i:Nat)(acc:List (Nat×List Nat×List Nat))(s:St D)(k:List (Nat×List Nat×List Nat)->St D->τ):τ:=
 match xNext s.slot s.blk o.op with
 | some (b,o1,o2)=>A.br b (stepW A ops draw o i acc s o1 k) (stepW A ops draw o i acc s o2 k)
 | none=>
  match xOpR T S Γ s.slot s.blk (s.next+64*i) o.op with
  | none=>A.stuck
  | some out=>stepW A ops draw o i acc s out k
def skipV (A:Alg τ)(ops:Array Oper)(draw:Bool)(o:Oper)(i:Nat)(acc:List (Nat×List Nat×List Nat))(s:St D)(k:List (Nat×List Nat×List Nat)->St D->τ):τ:=
 match draw with
 | false=>k acc (s.put o.dst (.one (.lf (.val undef))) [])
 | true=>
  if badB ops acc o (memReads s.slot s.blk o.op) []then A.stuck
  else k ((i,memReads s.slot s.blk o.op,[])::acc) (s.put o.dst (.one (.lf (.val undef))) [])
def runOps (A:Alg τ)(T:TypeId->Option Ty)(S:Sh D)(Γ:FuncId->Option (Ct D))(ops:Array Oper)(n:Nat)(draw:Bool):List Oper->Nat->List (Nat×List Nat×List Nat)->St D->(St D->τ)->τ
 | [],i,_,s,K=>K ⟨s.tmps,s.blks,s.next+64*i⟩
 | o::r,i,acc,s,K=>
  match dstOk n o.dst with
  | false=>A.stuck
  | true=>
   match o.guard with
   | none=>stepV A T S Γ ops draw o i acc s fun acc s=>runOps A T S Γ ops n draw r (i+1) acc s K
   | some (j,want)=>
    match(ops[j]?).bind (·.dst)with
    | none=>A.stuck
    | some d=>
     match s.slot d with
     | .one (.lf (.bool b))=>
      match want with
      | true=>A.br b (stepV A T S Γ ops draw o i acc ⟨(d, .one (.lf (.val (.bool true))))::s.tmps,s.blks,s.next⟩ fun acc s=>runOps A T S Γ ops n draw r (i+1) acc s K)
        (skipV A ops draw o i acc ⟨(d, .one (.lf (.val (.bool false))))::s.tmps,s.blks,s.next⟩ fun acc s=>runOps A T S Γ ops n draw r (i+1) acc s K)
      | false=>A.br b (skipV A ops draw o i acc ⟨(d, .one (.lf (.val (.bool true))))::s.tmps,s.blks,s.next⟩ fun acc s=>runOps A T S Γ ops n draw r (i+1) acc s K)
        (stepV A T S Γ ops draw o i acc ⟨(d, .one (.lf (.val (.bool false))))::s.tmps,s.blks,s.next⟩ fun acc s=>runOps A T S Γ ops n draw r (i+1) acc s K)
     | .one (.lf (.val (.bool b)))=>
      match b==want with
      | true=>stepV A T S Γ ops draw o i acc s fun acc s=>runOps A T S Γ ops n draw r (i+1) acc s K
      | false=>skipV A ops draw o i acc s fun acc s=>runOps A T S Γ ops n draw r (i+1) acc s K
     | .one (.lf (.val v))=>
      match notBool v with
      | true=>skipV A ops draw o i acc s fun acc s=>runOps A T S Γ ops n draw r (i+1) acc s K
      | false=>A.stuck
     | _=>A.stuck
end
section
variable {D:Type}{P:Program}{S:Sh D}{T:TypeId->Option Ty}{Γ:FuncId->Option (Ct D)}{N:Nat->Prop}{w w':World}{w0:Bs}{n:Nat}{ops:Array Oper}{τ:Type 1}{A:Alg τ}{den:τ->Prop}
def Confl (p:List Nat×List Nat)(rb wb:List Nat):Prop:=∃l,(l∈wb/\(l∈p.1\/l∈p.2))\/(l∈rb/\l∈p.2)
theorem meets_of {a b:List Nat}{l:Nat}(ha:l∈a)(hb:l∈b):meets a b=true:=by
 simp only[meets,List.any_eq_true]
 exact⟨l,ha,l,hb,by simp⟩
theorem badB_no {acc:List (Nat×List Nat×List Nat)}{o:Oper}{rb wb:List Nat}(h:¬badB ops acc o rb wb=true):∀p∈acc,Confl p.2 rb wb->farTo ops 3 o p.1=true:=by
 intro p hp ⟨l,hc⟩
 cases he:farTo ops 3 o p.1 with
 | true=>rfl
 | false=>
  exfalso
  apply h
  simp only[badB,List.any_eq_true,Bool.and_eq_true,Bool.or_eq_true]
  refine⟨p,hp,?_,by simp[he]⟩
  rcases hc with⟨hw,h1 | h2⟩ | ⟨hr,h2⟩
  ·exact .inl (.inl (meets_of hw h1))
  ·exact .inl (.inr (meets_of hw h2))
  ·exact .inr (meets_of hr h2)
def MemL (ops:Array Oper):List (Nat×List Nat×List Nat)->Nat->(Nat->Sl D)->(Nat->Option (Bk D))->List Oper->List (Wr D)->Prop
 | _,_,_,_,[],_=>True
 | _,_,_,_,_::_,[]=>True
 | acc,i,slot,blk,o::r,W::Ws=>(∀p∈acc,Confl p.2 (memReads slot blk o.op) W.keys->farTo ops 3 o p.1=true)/\MemL ops ((i,memReads slot blk o.op,W.keys)::acc) (i+1) (appS slot W) (appB blk W) r Ws
def Shows (den:τ->Prop)(T:TypeId->Option Ty)(S:Sh D)(Γ:FuncId->Option (Ct D))(ops:Array Oper)(n:Nat)(draw:Bool)(l:List Oper)(i:Nat)(acc:List (Nat×List Nat×List Nat))(s:St D)(K:St D->τ):Prop:=
 ∃Ws s',Trace T S Γ ops n (s.next+64*i) s.slot s.blk l Ws/\(∀t,Alike (appSs s.slot Ws t) (s'.slot t))/\s'.blk=appBs s.blk Ws/\s'.next=s.next+64*(i+l.length)/\den (K s')/\(draw=true->MemL ops acc i s.slot s.blk l Ws)/\
  (∃pre,s'.blks=pre++s.blks)/\∀t,(∀o∈ops.toList,o.dst≠some t)->(∀o∈l,o.dst≠some t)->s'.slot t=s.slot t
theorem trace_alike:∀(l:List Oper) (Ws:List (Wr D)) (fr:Nat) (slot slot':Nat->Sl D) (blk:Nat->Option (Bk D)),(∀t,Alike (slot t) (slot' t))->Trace T S Γ ops n fr slot blk l Ws->Trace T S Γ ops n fr slot' blk l Ws
 | [],[],_,_,_,_,_,_=>trivial
 | [],_::_,_,_,_,_,_,h=>by simp[Trace]at h
 | _::_,[],_,_,_,_,_,h=>by simp[Trace]at h
 | o::l,W::Ws,fr,slot,slot',blk,he,⟨⟨s1,h1,hst⟩,hr⟩=>⟨⟨s1,fun t=>(he t).symm.trans (h1 t),hst⟩,trace_alike l Ws (fr+64) _ _ _ (appS_alike he) hr⟩
theorem appSs_alike:∀(Ws:List (Wr D)) (slot slot':Nat->Sl D),(∀t,Alike (slot t) (slot' t))->∀t,Alike (appSs slot Ws t) (appSs slot' Ws t)
 | [],_,_,h,t=>h t
 | W::Ws,_,_,h,t=>appSs_alike Ws _ _ (appS_alike h) t
theorem memL_alike:∀(l:List Oper) (Ws:List (Wr D)) (acc:List (Nat×List Nat×List Nat)) (i:Nat) (slot slot':Nat->Sl D) (blk:Nat->Option (Bk D)),(∀t,Alike (slot t) (slot' t))->MemL ops acc i slot blk l Ws->MemL ops acc i slot' blk l Ws
 | [],_,_,_,_,_,_,_,_=>trivial
 | _::_,[],_,_,_,_,_,_,_=>trivial
 | o::l,W::Ws,acc,i,slot,slot',blk,he,h=>by
  have e:=memReads_alike (op:=o.op) (blk:=blk) he
  simp only[MemL]at h⊢
  rw[e]at h
  exact⟨h.1,memL_alike l Ws _ _ _ _ _ (appS_alike he) h.2⟩
theorem stepV_shows {draw:Bool}{o:Oper}{r:List Oper}{i:Nat}{acc:List (Nat×List Nat×List Nat)}{s:St D}{K:St D->τ}(hA:AlgOk A den)(hd:dstOk n o.dst=true)(hw:Wanted ops s.slot o true)
  (ih:∀acc s,den (runOps A T S Γ ops n draw r (i+1) acc s K)->Shows den T S Γ ops n draw r (i+1) acc s K)
  (h:den (stepV A T S Γ ops draw o i acc s fun acc s=>runOps A T S Γ ops n draw r (i+1) acc s K)):Shows den T S Γ ops n draw (o::r) i acc s K:=by
 have hlt:∀d,o.dst=some d->d < n:=fun d e=>by rw[e]at hd;simpa[dstOk,Nat.blt_eq]using hd
 have each:∀out,Does T S Γ s.slot s.blk (s.next+64*i) o.op out->den (stepW A ops draw o i acc s out fun acc s=>runOps A T S Γ ops n draw r (i+1) acc s K)->Shows den T S Γ ops n draw (o::r) i acc s K:=by
  intro out hx h
  have go:∀acc',preD out.pre->den (runOps A T S Γ ops n draw r (i+1) acc' (s.put o.dst out.val out.blks) K)->(draw=true->acc'=(i,memReads s.slot s.blk o.op,out.blks.map (·.1))::acc/\∀p∈acc,Confl p.2 (memReads s.slot s.blk o.op) (out.blks.map (·.1))->farTo ops 3 o p.1=true)->Shows den T S Γ ops n draw (o::r) i acc s K:=by
   intro acc' hp hr hacc
   obtain⟨Ws,s',htr,h1,h2,h3,h4,h5,⟨pre,h6⟩,h7⟩:=ih acc' _ hr
   rw[put_slot,put_blk,put_next]at htr
   rw[put_slot]at h1
   rw[put_blk]at h2
   rw[put_next]at h3
   rw[put_slot,put_blk]at h5
   refine⟨⟨o.dst,out.val,out.blks⟩::Ws,s',⟨⟨s.slot,fun _=>Alike.refl _,rfl,hlt, .inl ⟨hw,out,hx,hp,rfl,rfl⟩⟩,?_⟩,h1,h2,by rw[h3];simp;omega,h4,fun hdr=> ?_,?_,fun t q1 q2=> ?_⟩
   ·rw[show s.next+64*i+64=s.next+64*(i+1) by omega];exact htr
   ·obtain⟨e,hc⟩:=hacc hdr
    subst e
    exact⟨hc,h5 hdr⟩
   ·exact put_pre h6
   ·rw[h7 t q1 fun o' ho'=>q2 o' (by simp[ho'])]
    exact put_other (q2 o (by simp))
  unfold stepW at h
  split at h
  ·obtain⟨hp,hr⟩:=hA.opt h
   exact go acc hp hr (fun e=>by cases e)
  ·split at h
   ·exact(hA.stuck h).elim
   ·rename_i hb
    obtain⟨hp,hr⟩:=hA.opt h
    exact go _ hp hr (fun _=>⟨rfl,badB_no hb⟩)
 unfold stepV at h
 split at h
 ·rename_i b o1 o2 hn
  obtain⟨h1,h2⟩:=hA.br h
  cases hb:b with
  | true=>exact each o1 (.inr ⟨b,o1,o2,hn,by rw[hb];rfl⟩) (h1 hb)
  | false=>exact each o2 (.inr ⟨b,o1,o2,hn,by rw[hb];rfl⟩) (h2 hb)
 ·split at h
  ·exact(hA.stuck h).elim
  ·rename_i out hx
   exact each out (.inl hx) h
theorem skipV_shows {draw:Bool}{o:Oper}{r:List Oper}{i:Nat}{acc:List (Nat×List Nat×List Nat)}{s:St D}{K:St D->τ}(hA:AlgOk A den)(hd:dstOk n o.dst=true)(hw:Wanted ops s.slot o false)
  (ih:∀acc s,den (runOps A T S Γ ops n draw r (i+1) acc s K)->Shows den T S Γ ops n draw r (i+1) acc s K)
  (h:den (skipV A ops draw o i acc s fun acc s=>runOps A T S Γ ops n draw r (i+1) acc s K)):Shows den T S Γ ops n draw (o::r) i acc s K:=by
 have hlt:∀d,o.dst=some d->d < n:=fun d e=>by rw[e]at hd;simpa[dstOk,Nat.blt_eq]using hd
 have go:∀acc',den (runOps A T S Γ ops n draw r (i+1) acc' (s.put o.dst (.one (.lf (.val undef))) []) K)->(draw=true->acc'=(i,memReads s.slot s.blk o.op,[])::acc/\∀p∈acc,Confl p.2 (memReads s.slot s.blk o.op) []->farTo ops 3 o p.1=true)->Shows den T S Γ ops n draw (o::r) i acc s K:=by
  intro acc' hr hacc
  obtain⟨Ws,s',htr,h1,h2,h3,h4,h5,⟨pre,h6⟩,h7⟩:=ih acc' _ hr
  rw[put_slot,put_blk,put_next]at htr
  rw[put_slot]at h1
  rw[put_blk]at h2
  rw[put_next]at h3
  rw[put_slot,put_blk]at h5
  refine⟨⟨o.dst, .one (.lf (.val undef)),[]⟩::Ws,s',⟨⟨s.slot,fun _=>Alike.refl _,rfl,hlt, .inr ⟨hw,rfl,rfl⟩⟩,?_⟩,h1,h2,by rw[h3];simp;omega,h4,fun hdr=> ?_,?_,fun t q1 q2=> ?_⟩
  ·rw[show s.next+64*i+64=s.next+64*(i+1) by omega];exact htr
  ·obtain⟨e,hc⟩:=hacc hdr
   subst e
   exact⟨hc,h5 hdr⟩
  ·exact put_pre h6
  ·rw[h7 t q1 fun o' ho'=>q2 o' (by simp[ho'])]
   exact put_other (q2 o (by simp))
 unfold skipV at h
 split at h
 ·exact go acc h (fun e=>by cases e)
 ·split at h
  ·exact(hA.stuck h).elim
  ·rename_i hb
   exact go _ h (fun _=>⟨rfl,badB_no hb⟩)
theorem run_shows (hA:AlgOk A den){draw:Bool}{K:St D->τ}:∀(l:List Oper) (i:Nat) (acc:List (Nat×List Nat×List Nat)) (s:St D),den (runOps A T S Γ ops n draw l i acc s K)->Shows den T S Γ ops n draw l i acc s K
 | [],i,acc,s,h=>⟨[],⟨s.tmps,s.blks,s.next+64*i⟩,trivial,fun _=>Alike.refl _,rfl,rfl,h,fun _=>trivial,⟨[],rfl⟩,fun _ _ _=>rfl⟩
 | o::r,i,acc,s,h=>by
  have ih:=fun acc s=>run_shows hA (draw:=draw) (K:=K) r (i+1) acc s
  unfold runOps at h
  split at h
  ·exact(hA.stuck h).elim
  ·rename_i hd
   split at h
   ·rename_i hg
    exact stepV_shows hA hd (by simp[Wanted,hg]) ih h
   ·rename_i j want hg
    split at h
    ·exact(hA.stuck h).elim
    ·rename_i d hj
     split at h
     ·rename_i b hb
      have same:∀c:Bool,b=c->∀t,Alike ((⟨(d, .one (.lf (.val (.bool c))))::s.tmps,s.blks,s.next⟩:St D).slot t) (s.slot t):=by
       rintro c rfl t
       show Alike (look _ _ t) _
       rw[look_cons]
       by_cases ht:t=d
       ·subst ht;rw[upd_same,hb];exact .inr ⟨b,rfl,rfl⟩
       ·rw[upd_other _ _ _ _ ht];exact Alike.refl _
      have lift:∀c:Bool,b=c->Shows den T S Γ ops n draw (o::r) i acc (⟨(d, .one (.lf (.val (.bool c))))::s.tmps,s.blks,s.next⟩:St D) K->Shows den T S Γ ops n draw (o::r) i acc s K:=by
       rintro c hc ⟨Ws,s',h1,h2,h3,h4,h5,h6,h7,h8⟩
       refine⟨Ws,s',trace_alike _ _ _ _ _ _ (same c hc) h1,fun t=>(appSs_alike Ws _ _ (same c hc) t).symm.trans (h2 t),h3,h4,h5,fun hd=>memL_alike _ _ _ _ _ _ _ (same c hc) (h6 hd),h7,fun t q1 q2=>(h8 t q1 q2).trans ?_⟩
       show look _ _ t=look _ _ t
       rw[look_cons]
       refine upd_other _ _ _ _ fun e=> ?_
       subst e
       cases hoj:ops[j]? with
       | none=>rw[hoj]at hj;cases hj
       | some oj=>
        rw[hoj]at hj
        exact q1 oj (by have:=Array.mem_of_getElem? hoj;simpa using this) hj
      have wt:∀c:Bool,b=c->Wanted ops (⟨(d, .one (.lf (.val (.bool c))))::s.tmps,s.blks,s.next⟩:St D).slot o (c==want):=by
       intro c hc
       simp only[Wanted,hg]
       refine⟨d,hj, .inl ⟨c,?_,rfl⟩⟩
       show bOf (look _ _ d)=_
       rw[look_cons,upd_same]
       rfl
      cases want with
      | true=>
       obtain⟨ht,he⟩:=hA.br h
       cases hbv:b with
       | true=>exact lift true hbv (stepV_shows hA hd (wt true hbv) ih (ht hbv))
       | false=>exact lift false hbv (skipV_shows hA hd (wt false hbv) ih (he hbv))
      | false=>
       obtain⟨ht,he⟩:=hA.br h
       cases hbv:b with
       | true=>exact lift true hbv (skipV_shows hA hd (wt true hbv) ih (ht hbv))
       | false=>exact lift false hbv (stepV_shows hA hd (wt false hbv) ih (he hbv))
     ·rename_i b hb
      have wt:Wanted ops s.slot o (b==want):=by
       simp only[Wanted,hg]
       exact⟨d,hj, .inl ⟨b,by rw[hb];rfl,rfl⟩⟩
      split at h
      ·rename_i he
       rw[he]at wt
       exact stepV_shows hA hd wt ih h
      ·rename_i he
       rw[he]at wt
       exact skipV_shows hA hd wt ih h
     ·rename_i v _ hv
      split at h
      ·rename_i hn
       exact skipV_shows hA hd (by simp only[Wanted,hg];exact⟨d,hj, .inr ⟨v,hv,hn,trivial⟩⟩) ih h
      ·exact(hA.stuck h).elim
     ·exact(hA.stuck h).elim
theorem mem_ok:∀(l:List Oper) (Ws:List (Wr D)) (acc:List (Nat×List Nat×List Nat)) (b:Nat) (slot:Nat->Sl D) (blk:Nat->Option (Bk D)),MemL ops acc b slot blk l Ws->
  ∀j oj Wj,l[j]? =some oj->Ws[j]? =some Wj->(∀p∈acc,Confl p.2 (memReads (selS (fun k=>decide (k < b+j)) b slot Ws) (selB (fun k=>decide (k < b+j)) b blk Ws) oj.op) Wj.keys->farTo ops 3 oj p.1=true)/\
   ∀i oi Wi,i < j->l[i]? =some oi->Ws[i]? =some Wi->Confl (memReads (selS (fun k=>decide (k < b+i)) b slot Ws) (selB (fun k=>decide (k < b+i)) b blk Ws) oi.op,Wi.keys) (memReads (selS (fun k=>decide (k < b+j)) b slot Ws) (selB (fun k=>decide (k < b+j)) b blk Ws) oj.op) Wj.keys->farTo ops 3 oj (b+i)=true
 | [],_,_,_,_,_,_,j,oj,Wj,hj,_=>by simp at hj
 | _::_,[],_,_,_,_,_,j,oj,Wj,_,hW=>by simp at hW
 | o::r,W::Ws,acc,b,slot,blk,h,j,oj,Wj,hj,hW=>by
  have e0:selS (fun k=>decide (k < b+0)) b slot (W::Ws)=slot:=by
   funext t
   exact selS_none _ _ _ fun j W' _ _=>by simp
  have f0:selB (fun k=>decide (k < b+0)) b blk (W::Ws)=blk:=by
   funext t
   exact selB_none _ _ _ fun j W' _ _=>by simp
  have es:∀j,selS (fun k=>decide (k < b+(j+1))) b slot (W::Ws)=selS (fun k=>decide (k < b+1+j)) (b+1) (appS slot W) Ws:=by
   intro j
   have hb:decide (b < b+(j+1))=true:=by simp
   simp only[selS,hb,if_true]
   rw[show b+(j+1)=b+1+j by omega]
  have fs:∀j,selB (fun k=>decide (k < b+(j+1))) b blk (W::Ws)=selB (fun k=>decide (k < b+1+j)) (b+1) (appB blk W) Ws:=by
   intro j
   have hb:decide (b < b+(j+1))=true:=by simp
   simp only[selB,hb,if_true]
   rw[show b+(j+1)=b+1+j by omega]
  cases j with
  | zero=>
   simp only[List.getElem?_cons_zero,Option.some.injEq]at hj hW
   subst hj hW
   rw[e0,f0]
   exact⟨h.1,fun i _ _ hi=>by omega⟩
  | succ j=>
   obtain⟨h1,h2⟩:=mem_ok r Ws _ (b+1) _ _ h.2 j oj Wj (by simpa using hj) (by simpa using hW)
   rw[es j,fs j]
   refine⟨fun p hp=>h1 p (by simp[hp]),fun i oi Wi hij hi hWi hc=> ?_⟩
   cases i with
   | zero=>
    simp only[List.getElem?_cons_zero,Option.some.injEq]at hi hWi
    subst hi hWi
    rw[e0,f0]at hc
    exact h1 (b,memReads slot blk o.op,W.keys) (by simp) hc
   | succ i=>
    rw[es i,fs i]at hc
    have:=h2 i oi Wi (by omega) (by simpa using hi) (by simpa using hWi) hc
    rwa [show b+1+i=b+(i+1) by omega]at this
theorem mem_of_run {slot:Nat->Sl D}{blk:Nat->Option (Bk D)}{Ws:List (Wr D)}(h:MemL ops [] 0 slot blk ops.toList Ws):MemOk slot blk Ws ops:=by
 intro i j oj Wi Wj l hij hoj hWi hWj hc
 obtain⟨_,h2⟩:=mem_ok ops.toList Ws [] 0 slot blk h j oj Wj (by simpa using hoj) hWj
 by_cases hi:i < ops.size
 ·have hoi:ops[i]? =some ops[i]:=by simp[hi]
  have:=h2 i ops[i] Wi hij (by simp[hi]) hWi
  simp only[Nat.zero_add]at this
  refine this ⟨l,?_⟩
  simpa[readsAt,hoi,hoj]using hc
 ·have hj:j < ops.size:=(Array.getElem?_eq_some_iff.1 hoj).1
  omega
end
end Go.Vc
