/- Own engine: Vd4, Vd5, Vd6, Vd7, Vdf. -/
import Derived.Test.YtihakigfhcankaaGreatDoorEng1
import Derived.WalkSpells
import Derived.Maps.AppendAt
import Derived.Laws.MakeOwn
set_option linter.unusedVariables false
set_option linter.unusedSimpArgs false
namespace Go.Vc
open Go.RowKit
def lG {α:Type}:(Nat->α)->List (Nat×α)->(Nat->α)
 | f,[]=>f
 | f,(k,v)::r=>lG (upd f k v) r
def aCv {D:Type}:Dl D->Option Pv
 | .bool b=>some (.bool b)
 | .int k n=>some (.int k n)
 | .str s=>some (.str s)
 | _=>none
def OW {D:Type}:List (Dl D)->Option (List Pv)
 | []=>some []
 | x::xs=>(match aCv x,OW xs with
  | some p,some ps=>some (p::ps)
  | _,_=>none)
def Lf.Le {D:Type}(S:Sh D)(x y:Lf D):Prop:=x=y\/(x= .val (.slice none 0 0)/\∃d,y= .dat d/\S.len d=0/\S.mp d=none)\/(∃b,x= .val (.bool b)/\y= .bool b)\/(∃t ag ps qs,x= .xt (.ifd t ag ps)/\y= .Xb (some ⟨t,ag,qs⟩)/\OW ps=some qs)\/∃d,x= .xt (.clip d)/\y= .dat d
structure jd {D:Type}(S:Sh D):Prop where
 make:∀e n cs d,S.make e n cs=some d->S.len d=n/\cs.length=n*S.size d/\
  ∀i j,i < n->j < S.size d->∃x,cs[i*S.size d+j]? =some x/\x.Le S (S.cell d i j)
 data:∀d i j,i < S.len d->j < S.size d->(S.cell d i j).jJ=true
 zero:∀e n zs d,S.zero e n zs=some d->S.len d=n/\zs.length=S.size d/\∀i j,i < n->j < S.size d->∃x,zs[j]? =some x/\x.Le S (S.cell d i j)
 set:∀d i j xs d',S.set d i j xs=some d'->i < S.len d->S.size d'=S.size d/\S.len d'=S.len d/\
  ∀i' j',i' < S.len d->j' < S.size d->(i'=i/\j<=j'/\j' < j+xs.length->∃x,xs[j' - j]? =some x/\x.Le S (S.cell d' i' j'))/\(¬(i'=i/\j<=j'/\j' < j+xs.length)->S.cell d' i' j'=S.cell d i' j')
 cat:∀d1 d2 d,S.cat d1 d2=some d->S.size d1=S.size d/\S.size d2=S.size d/\S.len d=S.len d1+S.len d2/\
  (∀i j,i < S.len d1->S.cell d i j=S.cell d1 i j)/\∀i j,i < S.len d2->S.cell d (S.len d1+i) j=S.cell d2 i j
 sub:∀d i j d',S.sub d i j=some d'->i<=j->j<=S.len d->S.size d'=S.size d/\S.len d'=j - i/\∀k c,k < j - i->S.cell d' k c=S.cell d (i+k) c
 text:∀e s d,S.text e s=some d->S.size d=1/\S.len d=s.length/\∀i,i < s.length->S.cell d i 0= .int .u8 (s.getD i 0).toNat
 ab_:∀e n cs d,S.make e n cs=some d->S.mp d=none
 aca:∀e n zs d,S.zero e n zs=some d->S.mp d=none
 aHB:∀d i j xs d',S.set d i j xs=some d'->S.mp d=none->S.mp d'=none
 V3:∀d1 d2 d,S.cat d1 d2=some d->S.mp d=none
 Gx:∀d i j d',S.sub d i j=some d'->S.mp d=none/\S.mp d'=none
 aIy:∀e s d,S.text e s=some d->S.mp d=none
 zi:∀d m,S.mp d=some m->S.len d=0/\S.size d=0/\ayD S m
 aAm:∀t d,S.auH t=some d->∃m,S.mp d=some m/\m.kvs=[]
 aIx:∀i d,S.Po i=some d->S.mp d=none
theorem jd.anA {D:Type}{S:Sh D}(h:jd S){d:D}(hz:0 < S.size d):S.mp d=none:=by
 cases hm:S.mp d with
 | none=>rfl
 | some m=>have:=(h.zi d m hm).2.1;omega
def iw {D:Type}(S:Sh D)(M:Nat->Prop)(w:World)(g:Nat->Option Value):List (Sl D)->List Value->Prop
 | [],[]=>True
 | x::xs,v::vs=>x.Rel S M w g v/\iw S M w g xs vs
 | _,_=>False
def noG:Nat->Option Value:=fun _=>none
def kQ {D:Type}(dH:List (Bk D)):Nat->Option (Bk D):=fun i=>dH[i]?
structure fV {D:Type}(P:Program)(S:Sh D)(f:FuncId)(ct:Ct D):Prop where
 enters:∀(args:Array Value) (w:World),(callFunc f args).run P w= .ok (.enter f args) w
 calls:∀(X N:Nat->Prop) (g:Nat->Option Value) (w:World) (args:List Value) (nT:List (Sl D)) (dH:List (Bk D)) (p:Option DP) (r:Sl D) (post:List (Nat×Bk D)) (keep:List Nat),
  Hp S ⟨w,X⟩ N (kQ dH) g (· < dH.length) w->iw S (aW N (kQ dH) g) w g nT args->ct nT dH=some (p,r,post,keep)->lZ p->
  Calls P f args.toArray w fun e w'=>∃v g',e= .returned v/\More g g'/\Hp S ⟨w,X⟩ N (uO post keep dH) g' (fun _=>True) w'/\r.Rel S (aW N (uO post keep dH) g') w' g' v
section
variable {D:Type}{P:Program}{S:Sh D}{T:TypeId->Option Ty}{M N:Nat->Prop}{w w':World}{w0:Bs}{g:Nat->Option Value}{blk:Nat->Option (Bk D)}{al:Nat->Prop}
 {a:Act} {o:Oper} {K:Act->World->Prop} {Q:Exit->Act->World->Prop} {slot:Nat->Sl D} {out:Out D} {fr:Nat}
def Post (S:Sh D)(w0:Bs)(N:Nat->Prop)(blk:Nat->Option (Bk D))(g:Nat->Option Value)(al:Nat->Prop)(w:World)(fr:Nat)(out:Out D)(d:Option Tmp)(a:Act)(K:Act->World->Prop):Prop:=
 ∀v w' g',More g g'->Keeps (aW N blk g) w (aW N (lG blk out.blks) g') w'->Hp S w0 N (lG blk out.blks) g' (fun n=>al n\/(fr<=n/\n < fr+64)) w'->
  out.val.Rel S (aW N (lG blk out.blks) g') w' g' v->K (a.put d v) w'
theorem Hp.weaken {al':Nat->Prop}(h:Hp S w0 N blk g al w)(ha:∀n,al n->al' n):Hp S w0 N blk g al' w:=⟨h.below,h.hN,h.dH,h.sep,fun l v hl=>ha l (h.al l v hl),h.refs,h.gl⟩
theorem lm {v:Value}(hr:(execOp a.eval o).run P w= .ok (.value v) w')(hk:K (a.put o.dst v) w'):o.wp P a w K Q:=by
 simp only[Oper.wp,hr,Oper.upon_value];exact hk
theorem KA (hr:(execOp a.eval o).run P w= .ok .skip w')(hk:K (a.put o.dst undef) w'):o.wp P a w K Q:=by
 simp only[Oper.wp,hr,Oper.upon_skip];exact hk
theorem alo {v:Value}(h:Hp S w0 N blk g al w)(hK:Post S w0 N blk g al w fr out o.dst a K)(hb:out.blks=[])(hr:out.val.Rel S (aW N blk g) w g v):K (a.put o.dst v) w:=by
 refine hK v w g (More.refl _) ?_ ?_ ?_<;>rw[hb]
 ·exact Keeps.refl _ _
 ·exact h.weaken fun _ h=> .inl h
 ·exact hr
theorem bf {v:Value}(hr:(execOp a.eval o).run P w= .ok (.value v) w)(h:Hp S w0 N blk g al w)(hK:Post S w0 N blk g al w fr out o.dst a K)(hb:out.blks=[])
  (hv:out.val.Rel S (aW N blk g) w g v):o.wp P a w K Q:=lm hr (alo h hK hb hv)
theorem zZ (v:Value):(xG v:Lf D).Rel S M w g v:=by
 cases v with
 | string s=>
  show(if s.data.size.ble 9223372036854775807=true then Lf.str s.data.toList else Lf.val (Value.string s):Lf D).Rel S M w g _
  split
  ·rename_i h;cases s;exact⟨by simp,by simpa using Qa2 h⟩
  ·rfl
 | nilIface=>exact⟨rfl,trivial⟩
 | _=>rfl
theorem FM {x:Sl D}{v:Value}{b:Bool}(h:bOf x=some b)(hr:x.Rel S M w g v):v= .bool b:=by
 unfold bOf at h;split at h
 ·injection h with h;subst h;exact hr
 ·injection h with h;subst h;exact hr
 ·cases h
theorem Lf.Rel.norm {x:Lf D}{v:Value}(h:x.Rel S M w g v):x.norm.Rel S M w g v:=by
 unfold Lf.norm;split
 ·exact h
 ·exact h
theorem aZ.norm:∀{xs:List (Lf D)} {vs:List Value},aZ S M w g xs vs->aZ S M w g (xs.map Lf.norm) vs
 | [],[],_=>trivial
 | _::_,_::_,h=>⟨h.1.norm,aZ.norm h.2⟩
theorem Sv.Rel.norm {x:Sv D}{v:Value}(h:x.Rel S M w g v):x.norm.Rel S M w g v:=by
 cases x with
 | lf x=>exact Lf.Rel.norm h
 | agg xs=>obtain⟨vs,h1,h2⟩:=h;exact⟨vs,h1,h2.norm⟩
theorem iI.norm:∀{xs:List (Sv D)} {vs:List Value},iI S M w g xs vs->iI S M w g (xs.map Sv.norm) vs
 | [],[],_=>trivial
 | _::_,_::_,h=>⟨h.1.norm,iI.norm h.2⟩
theorem Sl.Rel.norm {x:Sl D}{v:Value}(h:x.Rel S M w g v):x.norm.Rel S M w g v:=by
 cases x with
 | one x=>exact Sv.Rel.norm h
 | xx xs=>obtain⟨vs,h1,h2⟩:=h;exact⟨vs,h1,h2.norm⟩
theorem iw.norm:∀{xs:List (Sl D)} {vs:List Value},iw S M w g xs vs->iw S M w g (xs.map Sl.norm) vs
 | [],[],_=>trivial
 | _::_,_::_,h=>⟨h.1.norm,iw.norm h.2⟩
theorem rG:∀(vs:List Value),aZ S M w g (vs.map (xG:Value->Lf D)) vs
 | []=>trivial
 | v::vs=>⟨zZ v,rG vs⟩
theorem anr (v:Value):(azB v:Sl D).Rel S M w g v:=by
 cases v with
 | agg cs=>exact⟨cs.toList,by simp,rG _⟩
 | string s=>exact zZ (.string s)
 | nilIface=>exact⟨rfl,trivial⟩
 | _=>rfl
theorem oG (hs:∀t,(slot t).Rel S M w g (a.tmps.getD t undef))(x:Operand):(aH slot x).Rel S M w g (a.eval x):=by
 cases x with
 | tmp t=>exact hs t
 | const v=>exact anr v
 | global n=>trivial
 | func f=>exact⟨[],rfl,rfl⟩
theorem MH (hs:∀t,(slot t).Rel S M w g (a.tmps.getD t undef)):∀(xs:List Operand),iw S M w g (xs.map (aH slot)) (xs.map a.eval)
 | []=>trivial
 | x::xs=>⟨oG hs x,MH hs xs⟩
theorem mF {t:TypeId}{ty:Ty}(h:fU P t ty):∃i d z lt,P.info? t=some i/\P.underlying t=some d/\i.zero=some z/\
  ty=⟨kindOf d,He P t,i.size,i.bytes,z.cells.toList,M_ P d,agl d,ad8 P t d,lt,asH d,yX z,ait d⟩:=by
 unfold fU aEI at h;split at h
 ·rename_i i d hi hd;split at h
  ·rename_i z hz;injection h with h
   refine⟨i,d,z,ty.lit,hi,hd,hz,?_⟩;cases ty;simp only[Ty.mk.injEq]at h⊢;obtain⟨h1,h2,h3,h4,h5,h6,h7,h8,_,h9,h10,h11⟩:=h;exact⟨h1.symm,h2.symm,h3.symm,h4.symm,h5.symm,h6.symm,h7.symm,h8.symm,trivial,h9.symm,h10.symm,h11.symm⟩
  ·cases h
 ·cases h
theorem w_ {t:TypeId}{ty:Ty}(h:fU P t ty)(w:World):(isAgg t).run P w= .ok ty.agg w:=by
 obtain⟨i,d,z,lt,hi,hd,hz,rfl⟩:=mF h;simp only[isAgg,Sem.run_bind,run_underlying hd,Result.andThen_ok,He,hd];cases d<;>rfl
theorem kH {t:TypeId}{ty:Ty}(h:fU P t ty)(w:World):(sizeOf t).run P w= .ok ty.size w:=by
 obtain⟨i,d,z,lt,hi,hd,hz,rfl⟩:=mF h;simp[sizeOf,typeInfo,hi]
theorem Ap {t:TypeId}{ty:Ty}(h:fU P t ty)(w:World):∃z,(zeroValue t).run P w= .ok z w/\z.cells.toList=ty.zero:=by
 obtain⟨i,d,z,lt,hi,hd,hz,rfl⟩:=mF h;exact⟨z,by simp[zeroValue,typeInfo,hi,hz],rfl⟩
theorem kY {t e:TypeId}{ty:Ty}(h:fU P t ty)(he:ty.elem=some e):P.underlying t=some (.slice e):=by
 obtain⟨i,d,z,lt,hi,hd,hz,rfl⟩:=mF h;cases d<;>simp[agl]at he
 subst he;exact hd
theorem aCf {t e:TypeId}{n:Nat}{ty:Ty}(h:fU P t ty)(he:ty.arr=some (e,n)):P.underlying t=some (.array n e):=by
 obtain⟨i,d,z,lt,hi,hd,hz,rfl⟩:=mF h;cases d<;>simp[asH]at he
 obtain⟨rfl,rfl⟩:=he;exact hd
theorem agp {t:TypeId}{ty:Ty}(h:fU P t ty)(w:World):∃z,(zeroValue t).run P w= .ok z w/\z.cells.toList=ty.zero/\yX z=ty.zag:=by
 obtain⟨i,d,z,lt,hi,hd,hz,rfl⟩:=mF h;exact⟨z,by simp[zeroValue,typeInfo,hi,hz],rfl,rfl⟩
theorem ny {t:TypeId}{ty:Ty}(h:fU P t ty):∃d,P.underlying t=some d/\kindOf d=ty.kind:=by
 obtain⟨i,d,z,lt,hi,hd,hz,rfl⟩:=mF h;exact⟨d,hd,rfl⟩
theorem I5 {t:TypeId}{ty:Ty}{f off sz:Nat}{ag:Bool}(h:fU P t ty)(ho:ty.anB[f]? =some (off,sz,ag)):
  ∃fs fd,P.underlying t=some (.struct fs)/\fs[f]? =some fd/\fd.offset=off/\cellsIn P fd.type=sz/\He P fd.type=ag:=by
 obtain⟨i,d,z,lt,hi,hd,hz,rfl⟩:=mF h;cases d with
 | struct fs=>
  simp only[M_,Qbb,Qcm,V6]at ho;obtain⟨fd,h1,h2,h3,h4⟩:=ho;exact⟨fs,fd,hd,by simpa using h1,h2,h3,h4⟩
 | _=>simp[M_]at ho
theorem qL {t:TypeId}{n:Nat}(h:cellsIn P t=n)(hn:n≠0)(w:World):(sizeOf t).run P w= .ok n w:=by
 unfold cellsIn at h;split at h
 ·unfold Program.cellsOf at h;cases hi:P.info? t with
  | none=>rw[hi]at h;simp at h;exact absurd h.symm hn
  | some i=>rw[hi]at h;simp at h;simp[sizeOf,typeInfo,hi,h]
 ·exact absurd h.symm hn
theorem apV {t:TypeId}{n:Nat}(h:cellsIn P t=n)(hn:n≠0)(w:World):(isAgg t).run P w= .ok (He P t) w:=by
 unfold cellsIn at h;split at h
 ·rename_i hs;obtain⟨d,hd⟩:=Qb2.1 hs;simp only[isAgg,Sem.run_bind,run_underlying hd,Result.andThen_ok,He,hd];cases d<;>rfl
 ·exact absurd h.symm hn
theorem run_loadCells (ad:Addr):∀(vs:List Value) (i:Nat) (acc:Array Value),(∀k u,vs[k]? =some u->w.cell? (ad.add (i+k))=some u)->
  (loadCellsFrom ad i vs.length acc).run P w= .ok (acc++vs.toArray) w
 | [],i,acc,_=>by simp[loadCellsFrom]
 | v::vs,i,acc,h=>by
  have h0:=h 0 v rfl;simp only[MB]at h0;have ih:=run_loadCells ad vs (i+1) (acc.push v) fun k u hk=>by
   have:=h (k+1) u (by simpa using hk);rwa [show i+(k+1)=i+1+k by omega]at this
  simp only[xH,loadCellsFrom,Sem.run_bind,load];simp only[Sem.run,h0,Result.andThen_ok];rw[ih];congr 1;simp
theorem lq (b o n:Nat):(⟨b,o,none⟩:Addr).add n=⟨b,o+n,none⟩:=by
 unfold Addr.add;split
 ·subst_vars;rfl
 ·rfl
theorem add_add' (ad:Addr)(i j:Nat):(ad.add i).add j=ad.add (i+j):=by
 unfold Addr.add;by_cases hi:i=0<;>by_cases hj:j=0<;>simp[hi,hj,Qc4]
theorem cell_of {b:Nat}{vs:List Value}{t:TypeId}(h:w.heap[b]? =some (.cells vs.toArray t (0,0)))(i:Nat):w.cell? ⟨b,i,none⟩=vs[i]? :=by
 simp[World.cell?,h]
def one':Value->Bool
 | .agg _ | .tuple _=>false
 | _=>true
theorem kT (b t:Nat):∀(us:List Value) (w:World) (vs:List Value) (o i:Nat),w.heap[b]? =some (.cells vs.toArray t (0,0))->o+i+us.length<=vs.length->us.all one'=true->
  ∃w',(storeCells ⟨b,o,none⟩ us i).run P w= .ok () w'/\w'.heap[b]? =some (.cells (vs.take (o+i)++(us++vs.drop (o+i+us.length))).toArray t (0,0))/\
   (∀n,n≠b->w'.heap[n]? =w.heap[n]?)/\w'.heap.size=w.heap.size/\w'.os=w.os/\w'.tape=w.tape/\w'.output=w.output
 | [],w,vs,o,i,h,_,_=>⟨w,by simp[storeCells],by simpa using h,fun _ _=>rfl,rfl,rfl,rfl,rfl⟩
 | u::us,w,vs,o,i,h,hl,h1=>by
  simp only[Qcx,jY]at h1;simp only[xH]at hl;have hi:o+i < vs.length:=by omega
  have hc:w.cell? ⟨b,o+i,none⟩=some vs[o+i]:=by rw[cell_of h];simp[hi]
  have hf:w.frozen? ⟨b,o+i,none⟩=false:=by simp[World.frozen?,h]
  have hset:(w.setCell ⟨b,o+i,none⟩ u).heap[b]? =some (.cells (vs.set (o+i) u).toArray t (0,0)):=by
   simp[World.setCell,Qco,h]
  obtain⟨w',hr,hb,hn,hs,h2,h3,h4⟩:=kT b t us (w.setCell ⟨b,o+i,none⟩ u) (vs.set (o+i) u) o (i+1) hset qbo h1.2;refine⟨w',?_,?_,fun n hne=>(hn n hne).trans ?_,hs.trans (by simp[World.setCell]),h2,h3,h4⟩
  ·simp only[storeCells,Sem.run_bind,store,lq];have hrun:(Sem.store Mode.plain ⟨b,o+i,none⟩ u (Sem.pure ())).run P w= .ok () (w.setCell ⟨b,o+i,none⟩ u):=by
    cases u<;>first | (simp[one']at h1;done) | simp[Sem.run,hc,hf]
   rw[hrun,Result.andThen_ok];exact hr
  ·rw[hb];congr 2;have e1:(vs.set (o+i) u).take (o+(i+1))=vs.take (o+i)++[u]:=by
    rw[show o+(i+1)=(o+i)+1 by omega,Qbv qcm,Qel,List.set_eq_of_length_le qbo];simp
   have e2:(vs.set (o+i) u).drop (o+(i+1)+us.length)=vs.drop (o+i+(u::us).length):=by
    rw[Qdr au];congr 1;simp;omega
   rw[e1,e2];simp
  ·simp only[World.setCell,Qco];rw[qC fun e=>hne e.symm]
end
end Go.Vc
namespace Go.Vc
open Go.RowKit
section
variable {D:Type}{P:Program}{S:Sh D}{T:TypeId->Option Ty}{M N:Nat->Prop}{w w':World}{w0:Bs}{g:Nat->Option Value}{blk:Nat->Option (Bk D)}{al:Nat->Prop}
 {a:Act} {o:Oper} {K:Act->World->Prop} {Q:Exit->Act->World->Prop} {slot:Nat->Sl D} {out:Out D} {fr:Nat}
theorem Ir {x:Lf D}{v:Value}(href:∀l u,g l=some u->isRef u=true)(hs:x.storable=true)(h:x.Rel S M w g v):one' v=true:=by
 cases x with
 | any=>simp[Lf.storable]at hs
 | val u=>simp only[Lf.Rel]at h;subst h;cases v<;>first | rfl | simp[Lf.storable]at hs
 | bool b=>simp only[Lf.Rel]at h;subst h;rfl
 | int k n=>simp only[Lf.Rel]at h;subst h;rfl
 | str s=>obtain⟨rfl,_⟩:=h;rfl
 | ptr l o=>obtain⟨b,_,rfl⟩:=h;rfl
 | dat d=>rcases dA.form h with⟨a,cap,rfl⟩ | ⟨r,rfl⟩<;>rfl
 | elt d i j=>obtain⟨a,n,cap,_,_,rfl⟩:=h;rfl
 | fn f caps=>obtain⟨vs,rfl,_⟩:=h;rfl
 | own l=>have:=href l v h;cases v<;>first | rfl | simp[isRef]at this
 | opt l i j sz=>obtain⟨b,n,cap,_,rfl⟩:=h;rfl
 | unk p=>obtain⟨b,rfl,_⟩:=h;rfl
 | part l i j sz f=>obtain⟨a,n,cap,_,rfl,_⟩:=h;rfl
 | glb i=>simp only[Lf.Rel]at h;subst h;rfl
 | Xb x=>obtain⟨rfl,_⟩:=h;cases x<;>rfl
 | xt e=>cases e<;>(obtain⟨u,rfl,_⟩:=h;rfl)
theorem rE {u:Sv D}{v:Value}(href:∀l u,g l=some u->isRef u=true)(hw:u.whole=true)(h:u.Rel S M w g v):aZ S M w g u.cells v.cells.toList:=by
 cases u with
 | lf x=>
  have h1:=Ir href hw h;have:v.cells= #[v]:=by cases v<;>first | rfl | simp[one']at h1
  rw[this];exact⟨h,trivial⟩
 | agg xs=>obtain⟨vs,rfl,hr⟩:=h;simpa[Sv.cells,Value.cells]using hr
theorem kG (href:∀l u,g l=some u->isRef u=true):∀{xs:List (Lf D)} {vs:List Value},xs.all Lf.storable=true->aZ S M w g xs vs->vs.all one'=true
 | [],[],_,_=>rfl
 | x::xs,v::vs,hs,h=>by
  simp only[Qcx,jY]at hs⊢;exact⟨Ir href hs.1 h.1,kG href hs.2 h.2⟩
theorem AQ {u:Sv D}(h:u.cells.all Lf.storable=true):u.whole=true:=by
 cases u with
 | lf x=>simpa[Sv.cells,Sv.whole]using h
 | agg xs=>rfl
theorem aZ.append:∀{xs ys:List (Lf D)} {vs us:List Value},aZ S M w g xs vs->aZ S M w g ys us->aZ S M w g (xs++ys) (vs++us)
 | [],_,[],_,_,h=>h
 | _::_,_,_::_,_,h,h'=>⟨h.1,aZ.append h.2 h'⟩
theorem aZ.take:∀(n:Nat) {xs:List (Lf D)} {vs:List Value},aZ S M w g xs vs->aZ S M w g (xs.take n) (vs.take n)
 | 0,_,_,_=>by simp[aZ]
 | _+1,[],[],_=>by simp[aZ]
 | n+1,_::_,_::_,h=>⟨h.1,aZ.take n h.2⟩
theorem aZ.drop:∀(n:Nat) {xs:List (Lf D)} {vs:List Value},aZ S M w g xs vs->aZ S M w g (xs.drop n) (vs.drop n)
 | 0,_,_,h=>by simpa using h
 | _+1,[],[],_=>by simp[aZ]
 | n+1,_::_,_::_,h=>by simpa using aZ.drop n h.2
theorem aZ.putAt {xs us:List (Lf D)}{vs ws:List Value}(h:aZ S M w g xs vs)(h':aZ S M w g us ws)(o:Nat):aZ S M w g (putAt xs o us) (vs.take o++(ws++vs.drop (o+ws.length))):=by
 unfold Vc.putAt;rw[h'.length];exact(h.take o).append (h'.append (h.drop _))
theorem La (h:Hp S w0 N blk g al w){l:Nat}{cs:List (Lf D)}(hl:blk l=some (.cells cs)){b:Nat}(hg:g l=some (.pointer (some ⟨b,0,none⟩))):
  ∃vs t,w.heap[b]? =some (.cells (List.toArray vs) t (0,0))/\aZ S (aW N blk g) w g cs vs:=by
 obtain⟨v,hv,b',vs,t,rfl,_,hh,hr⟩:=h.dH l _ hl;rw[hg]at hv;injection hv with hv
 injection hv with hv
 injection hv with hv
 injection hv with hv
 subst hv;exact⟨vs,t,hh,hr⟩
theorem X9 {e:TypeId}{cs:List (Lf D)}{vs:Array Value}(h:Hp S w0 N blk g al w)(hfr:∀n,fr<=n->n < fr+64->¬al n)(hr:(execOp a.eval o).run P w= .ok (.value (.pointer (some ⟨w.heap.size,0,none⟩))) (w.alloc (.cells vs e)))
  (hc:aZ S (aW N blk g) w g cs vs.toList) (hK:Post S w0 N blk g al w fr ⟨none, .one (.lf (.ptr fr 0)),[(fr,some (.cells cs))]⟩ o.dst a K):o.wp P a w K Q:=by
 obtain⟨h1,h2,h3⟩:=h.add (l:=fr) (bk:= .cells cs) (v:= .pointer (some ⟨w.heap.size,0,none⟩)) ((Below.refl w.heap.size w).alloc (lU _) (.cells vs e)) (hfr fr (lU _) au) (fun b hb=>by simp[d_]at hb;omega)
  (fun M' hk _=>⟨w.heap.size,vs.toList,e,rfl, .inl h.below.size,heap_alloc_new w _,hc.keep hk (fun l v hl=>by rw[bK _ _ _ _ qbf];exact hl)⟩)
 exact lm hr (hK _ _ _ h3 h2 (h1.weaken fun n hn=>hn.elim .inl fun e=> .inr ⟨Qdn e.symm,by omega⟩) ⟨w.heap.size,upd_same _ _ _,rfl⟩)
theorem adt {t:TypeId}{ty:Ty}(ho:o.op= .alloc t)(hT:fU P t ty)(h:Hp S w0 N blk g al w)(hfr:∀n,fr<=n->n < fr+64->¬al n)
  (hK:Post S w0 N blk g al w fr ⟨none, .one (.lf (.ptr fr 0)),[(fr,some (.cells (ty.zero.map xG)))]⟩ o.dst a K):o.wp P a w K Q:=by
 obtain⟨z,hz,hzc⟩:=Ap hT w;refine X9 (vs:=z.cells) (e:=t) h hfr ?_ (by rw[hzc];exact rG _) hK;simp[execOp,ho,Instr.alloc,hz,newVar,newRow,newObj,Sem.run]
theorem anl {t:TypeId}{x:Operand}{u:Sv D}(ho:o.op= .box t x)(h:Hp S w0 N blk g al w)(hfr:∀n,fr<=n->n < fr+64->¬al n)(hu:u.Rel S (aW N blk g) w g (a.eval x))(hw:u.whole=true)
  (hK:Post S w0 N blk g al w fr ⟨none, .one (.lf (.ptr fr 0)),[(fr,some (.cells u.cells))]⟩ o.dst a K):o.wp P a w K Q:=by
 refine X9 (vs:=(a.eval x).cells) (e:=t) h hfr ?_ (rE h.refs hw hu) hK;simp[execOp,ho,Instr.box,newVar,newRow,newObj,Sem.run]
theorem yh {d:D}{ad:Addr}{n cap i:Nat}(h:dA S M w d (.slice (some ad) n cap))(hi:i < S.len d):∀(m j:Nat),j+m<=S.size d->
  ∃vs:List Value,vs.length=m/\aZ S M w g (Bf S d i j m) vs/\∀k u,vs[k]? =some u->w.cell? (ad.add (i*S.size d+(j+k)))=some u
 | 0,j,_=>⟨[],rfl,trivial,fun k u hk=>by simp at hk⟩
 | m+1,j,hj=>by
  obtain⟨u,hu,hr⟩:=h.cell (g:=g) hi (show j < S.size d by omega);obtain⟨vs,hl,hrs,hc⟩:=yh h hi m (j+1) au;refine⟨u::vs,by simp[hl],⟨hr,hrs⟩,fun k x hk=> ?_⟩;cases k with
  | zero=>simp at hk;subst hk;exact hu
  | succ k=>
   have:=hc k x (by simpa using hk);rwa [show j+1+k=j+(k+1) by omega]at this
theorem nU {i j n m:Nat}(hi:i < n)(hj:j < m):i*m+j < n*m:=by
 have:(i+1)*m<=n*m:=L8 m hi;rw[Qc3]at this;omega
theorem VF (h:Hp S w0 N blk g al w){l i j b n cap:Nat}{e:TypeId}{d:D}(hl:blk l=some (.row e d))(hg:g l=some (.slice (some ⟨b,0,none⟩) n cap))(hi:i < S.len d)(hj:j < S.size d):
  ∃u,w.cell? ⟨b,i*S.size d+j,none⟩=some u/\(S.cell d i j).Rel S (aW N blk g) w g u:=by
 obtain⟨v,hv,_,xs,⟨hxl,hown⟩,hc⟩:=h.dH l _ hl;rw[hg]at hv;injection hv with hv
 subst hv;obtain⟨u,hu,_,hr⟩:=hc i j hi hj;refine⟨u,?_,hr⟩;rcases hown with⟨h0,_⟩ | ⟨b',cap',cur,hv',_,hh,_,_,_,htake⟩
 ·cases h0
 ·injection hv' with h1 h2 h3
  injection h1 with h1
  injection h1 with h1
  subst h1;have:w.cell? ⟨b,i*S.size d+j,none⟩=cur[i*S.size d+j]? :=by simp[World.cell?,hh]
  rw[this,<-hu,<-htake,LD,Qb (nU hi hj)];simp
theorem wH (h:Hp S w0 N blk g al w){l i b n cap:Nat}{e:TypeId}{d:D}(hl:blk l=some (.row e d))(hg:g l=some (.slice (some ⟨b,0,none⟩) n cap))(hi:i < S.len d):∀(m j:Nat),j+m<=S.size d->
  ∃vs:List Value,vs.length=m/\aZ S (aW N blk g) w g (Bf S d i j m) vs/\∀k u,vs[k]? =some u->w.cell? ⟨b,i*S.size d+(j+k),none⟩=some u
 | 0,j,_=>⟨[],rfl,trivial,fun k u hk=>by simp at hk⟩
 | m+1,j,hj=>by
  obtain⟨u,hu,hr⟩:=VF h hl hg hi (show j < S.size d by omega);obtain⟨vs,hl',hrs,hc⟩:=wH h hl hg hi m (j+1) au;refine⟨u::vs,by simp[hl'],⟨hr,hrs⟩,fun k x hk=> ?_⟩;cases k with
  | zero=>simp at hk;subst hk;exact hu
  | succ k=>
   have:=hc k x (by simpa using hk);rwa [show j+1+k=j+(k+1) by omega]at this
theorem age {t:TypeId}{x:Operand}{ty:Ty}(ho:o.op= .load t x)(hT:fU P t ty)(hTT:T t=some ty)(h:Hp S w0 N blk g al w)(hx:(aH slot x).Rel S (aW N blk g) w g (a.eval x))
  (hout:CO T S blk t (aH slot x)=some out) (hp:lZ out.pre) (hK:Post S w0 N blk g al w fr out o.dst a K):o.wp P a w K Q:=by
 have hagg:=w_ hT w;have hsz:=kH hT w;simp only[CO,hTT]at hout;split at hout
 ·
  rename_i l off he;rw[he]at hx;obtain⟨b,hg,hv⟩:=hx;split at hout
  ·rename_i cs hb;obtain⟨vs,t',hh,hr⟩:=La h hb hg;split at hout
   ·rename_i hag;split at hout
    ·rename_i hle;injection hout with hout
     subst hout;have hle':off+ty.size<=vs.length:=by rw[<-hr.length];exact Qa2 hle
     have hrun:=run_loadCells (P:=P) (w:=w) ⟨b,off,none⟩ ((vs.drop off).take ty.size) 0 #[] (fun k u hk=>by
      rw[lq,cell_of hh];simp only[LD,Qbk]at hk;split at hk
      ·rw[show off+(0+k)=off+k by omega];exact hk
      ·cases hk)
     rw[show((vs.drop off).take ty.size).length=ty.size by simp;omega]at hrun;refine bf (v:= .agg ((vs.drop off).take ty.size).toArray) ?_ h hK rfl ⟨_,rfl,(hr.drop off).take _⟩;simp[execOp,ho,Instr.loadAt,Instr.sureAddr,hv,loadVar,hagg,hag,hsz,loadCells,hrun]
    ·cases hout
   ·rename_i hag;split at hout
    ·rename_i y hy;injection hout with hout
     subst hout;obtain⟨v,hv',hrel⟩:=hr.get off hy;refine bf (v:=v) ?_ h hK rfl hrel;simp[execOp,ho,Instr.loadAt,Instr.sureAddr,hv,loadVar,hagg,hag,load,Sem.run,cell_of hh,hv']
    ·cases hout
  ·cases hout
 ·
  rename_i d i j he;rw[he]at hx;obtain⟨ad,n,cap,hd,hi,hv⟩:=hx;split at hout
  ·rename_i hag;split at hout
   ·rename_i hle;injection hout with hout
    subst hout;obtain⟨vs,hl,hr,hc⟩:=yh (g:=g) hd hi ty.size j (Qa2 hle);have hrun:=run_loadCells (P:=P) (w:=w) (ad.add (i*S.size d+j)) vs 0 #[] (fun k u hk=>by
     rw[add_add',show i*S.size d+j+(0+k)=i*S.size d+(j+k) by omega];exact hc k u hk)
    rw[hl]at hrun;refine bf (v:= .agg vs.toArray) ?_ h hK rfl ⟨_,rfl,hr⟩;simp[execOp,ho,Instr.loadAt,Instr.sureAddr,hv,loadVar,hagg,hag,hsz,loadCells,hrun]
   ·cases hout
  ·rename_i hag;split at hout
   ·rename_i hlt;injection hout with hout
    subst hout;obtain⟨u,hu,hr⟩:=hd.cell (g:=g) hi qb5;refine bf (v:=u) ?_ h hK rfl hr;simp[execOp,ho,Instr.loadAt,Instr.sureAddr,hv,loadVar,hagg,hag,load,Sem.run,hu]
   ·cases hout
 ·
  rename_i l i j sz he;rw[he]at hx;obtain⟨b,n,cap,hg,hv⟩:=hx;split at hout
  ·rename_i e d hb;split at hout
   ·rename_i hag;split at hout
    ·rename_i hle;injection hout with hout
     subst hout;simp only[jY]at hle;have hsz':sz=S.size d:=Qa hle.2;subst hsz';obtain⟨vs,hl,hr,hc⟩:=wH h hb hg hp ty.size j (Qa2 hle.1);have hrun:=run_loadCells (P:=P) (w:=w) ⟨b,i*S.size d+j,none⟩ vs 0 #[] (fun k u hk=>by
      rw[lq,show i*S.size d+j+(0+k)=i*S.size d+(j+k) by omega];exact hc k u hk)
     rw[hl]at hrun;refine bf (v:= .agg vs.toArray) ?_ h hK rfl ⟨_,rfl,hr⟩;simp[execOp,ho,Instr.loadAt,Instr.sureAddr,hv,loadVar,hagg,hag,hsz,loadCells,hrun]
    ·cases hout
   ·rename_i hag;split at hout
    ·rename_i hlt;injection hout with hout
     subst hout;simp only[jY]at hlt;have hsz':sz=S.size d:=Qa hlt.2;subst hsz';obtain⟨u,hu,hr⟩:=VF h hb hg hp (by simpa[Gf]using hlt.1);refine bf (v:=u) ?_ h hK rfl hr;simp[execOp,ho,Instr.loadAt,Instr.sureAddr,hv,loadVar,hagg,hag,load,Sem.run,hu]
    ·cases hout
  ·cases hout
 ·cases hout
theorem ami {t:TypeId}{x:Sl D}{v:Value}{ty:Ty}(hT:fU P t ty)(hTT:T t=some ty)(h:Hp S w0 N blk g al w)(hx:x.Rel S (aW N blk g) w g v)
  (hout:CO T S blk t x=some out) (hp:lZ out.pre):∃ad u,v= .pointer (some ad)/\(loadVar t ad).run P w= .ok u w/\out.val.Rel S (aW N blk g) w g u:=by
 have hagg:=w_ hT w;have hsz:=kH hT w;simp only[CO,hTT]at hout;split at hout
 ·
  rename_i l off;obtain⟨b,hg,hv⟩:=hx;split at hout
  ·rename_i cs hb;obtain⟨vs,t',hh,hr⟩:=La h hb hg;split at hout
   ·rename_i hag;split at hout
    ·rename_i hle;injection hout with hout
     subst hout;have hle':off+ty.size<=vs.length:=by rw[<-hr.length];exact Qa2 hle
     have hrun:=run_loadCells (P:=P) (w:=w) ⟨b,off,none⟩ ((vs.drop off).take ty.size) 0 #[] (fun k u hk=>by
      rw[lq,cell_of hh];simp only[LD,Qbk]at hk;split at hk
      ·rw[show off+(0+k)=off+k by omega];exact hk
      ·cases hk)
     rw[show((vs.drop off).take ty.size).length=ty.size by simp;omega]at hrun;exact⟨_, .agg ((vs.drop off).take ty.size).toArray,hv,by simp[loadVar,hagg,hag,hsz,loadCells,hrun],⟨_,rfl,(hr.drop off).take _⟩⟩
    ·cases hout
   ·rename_i hag;split at hout
    ·rename_i y hy;injection hout with hout
     subst hout;obtain⟨v,hv',hrel⟩:=hr.get off hy;exact⟨_,v,hv,by simp[loadVar,hagg,hag,load,Sem.run,cell_of hh,hv'],hrel⟩
    ·cases hout
  ·cases hout
 ·
  rename_i d i j;obtain⟨ad,n,cap,hd,hi,hv⟩:=hx;split at hout
  ·rename_i hag;split at hout
   ·rename_i hle;injection hout with hout
    subst hout;obtain⟨vs,hl,hr,hc⟩:=yh (g:=g) hd hi ty.size j (Qa2 hle);have hrun:=run_loadCells (P:=P) (w:=w) (ad.add (i*S.size d+j)) vs 0 #[] (fun k u hk=>by
     rw[add_add',show i*S.size d+j+(0+k)=i*S.size d+(j+k) by omega];exact hc k u hk)
    rw[hl]at hrun;exact⟨_, .agg vs.toArray,hv,by simp[loadVar,hagg,hag,hsz,loadCells,hrun],⟨_,rfl,hr⟩⟩
   ·cases hout
  ·rename_i hag;split at hout
   ·rename_i hlt;injection hout with hout
    subst hout;obtain⟨u,hu,hr⟩:=hd.cell (g:=g) hi qb5;exact⟨_,u,hv,by simp[loadVar,hagg,hag,load,Sem.run,hu],hr⟩
   ·cases hout
 ·
  rename_i l i j sz;obtain⟨b,n,cap,hg,hv⟩:=hx;split at hout
  ·rename_i e d hb;split at hout
   ·rename_i hag;split at hout
    ·rename_i hle;injection hout with hout
     subst hout;simp only[jY]at hle;have hsz':sz=S.size d:=Qa hle.2;subst hsz';obtain⟨vs,hl,hr,hc⟩:=wH h hb hg hp ty.size j (Qa2 hle.1);have hrun:=run_loadCells (P:=P) (w:=w) ⟨b,i*S.size d+j,none⟩ vs 0 #[] (fun k u hk=>by
      rw[lq,show i*S.size d+j+(0+k)=i*S.size d+(j+k) by omega];exact hc k u hk)
     rw[hl]at hrun;exact⟨_, .agg vs.toArray,hv,by simp[loadVar,hagg,hag,hsz,loadCells,hrun],⟨_,rfl,hr⟩⟩
    ·cases hout
   ·rename_i hag;split at hout
    ·rename_i hlt;injection hout with hout
     subst hout;simp only[jY]at hlt;have hsz':sz=S.size d:=Qa hlt.2;subst hsz';obtain⟨u,hu,hr⟩:=VF h hb hg hp (by simpa[Gf]using hlt.1);exact⟨_,u,hv,by simp[loadVar,hagg,hag,load,Sem.run,hu],hr⟩
    ·cases hout
  ·cases hout
 ·cases hout
end
end Go.Vc
namespace Go.Vc
open Go.RowKit
section
variable {D:Type}{P:Program}{S:Sh D}{T:TypeId->Option Ty}{M N:Nat->Prop}{w w':World}{w0:Bs}{g:Nat->Option Value}{blk:Nat->Option (Bk D)}{al:Nat->Prop}
 {a:Act} {o:Oper} {K:Act->World->Prop} {Q:Exit->Act->World->Prop} {slot:Nat->Sl D} {out:Out D} {fr:Nat}
theorem adD {x:Dl D}{p:Pv}{v:Value}(h:aCv x=some p)(hr:x.Rel S M w v):v=p.val/\p.fits:=by
 unfold aCv at h;split at h<;>first | (injection h with h;subst h;exact⟨hr,trivial⟩) | (injection h with h;subst h;exact hr) | (cases h;done)
theorem Yp:∀{xs:List (Dl D)} {ps:List Pv} {vs:List Value},OW xs=some ps->uy S M w xs vs->vs=ps.map Pv.val/\∀p∈ps,p.fits
 | [],ps,[],h,_=>by simp[OW]at h;subst h;exact⟨rfl,fun p hp=>by simp at hp⟩
 | x::xs,ps,v::vs,h,hr=>by
  unfold OW at h;split at h
  ·rename_i p ps' h1 h2;injection h with h
   subst h;obtain⟨q1,q2⟩:=adD h1 hr.1;obtain⟨q3,q4⟩:=Yp h2 hr.2;refine⟨by rw[q1,q3];rfl,fun p hp=> ?_⟩;rcases yR.1 hp with rfl | hp
   ·exact q2
   ·exact q4 p hp
  ·cases h
theorem asE {ag:Bool}{ps:List (Dl D)}{qs:List Pv}{t:TypeId}{u:Value}(h:OW ps=some qs)(hr:Nv S M w ag ps u):Value.iface t u=AB (some ⟨t,ag,qs⟩)/\∀p∈qs,p.fits:=by
 cases ag with
 | true=>
  obtain⟨vs,rfl,hr⟩:=hr;obtain⟨h1,h2⟩:=Yp h hr;exact⟨by rw[h1];rfl,h2⟩
 | false=>
  match ps,hr with
  | [x],hr=>
   have hr:x.Rel S M w u:=hr;unfold OW at h;split at h
   ·rename_i p ps' h1 h2;injection h with h
    subst h;injection h2 with h2
    subst h2;obtain⟨q1,q2⟩:=adD h1 hr;refine⟨by rw[q1];rfl,fun p hp=> ?_⟩;rcases yR.1 hp with rfl | hp
    ·exact q2
    ·cases hp
   ·cases h
theorem Lf.Le.rel {x y:Lf D}{v:Value}(h:x.Le S y)(hr:x.Rel S M w g v):y.Rel S M w g v:=by
 rcases h with rfl | ⟨rfl,d,rfl,hd,hno⟩ | ⟨b,rfl,rfl⟩ | ⟨t,ag,ps,qs,rfl,rfl,hq⟩ | ⟨d,rfl,rfl⟩
 ·exact hr
 ·simp only[Lf.Rel]at hr;subst hr;intro w' _;have:=Ac.mk (S:=S) (w:=w') d hno none 0 (fun _ _=> .bool false) au au (fun i j hi _=>by omega) (fun i j hi _=>by omega) (fun i j _ hi _=>by omega);rwa [hd]at this
 ·exact hr
 ·obtain⟨u,rfl,hu⟩:=hr;exact asE hq hu
 ·obtain⟨_,_,hd⟩:=hr;exact hd
theorem aeG {t:TypeId}{x y:Operand}{ty:Ty}(ho:o.op= .store t x y)(hT:fU P t ty)(hTT:T t=some ty)(h:Hp S w0 N blk g al w)(hx:(aH slot x).Rel S (aW N blk g) w g (a.eval x))
  (hy:(aH slot y).Rel S (aW N blk g) w g (a.eval y)) (hout:Ia T S blk t (aH slot x) (aH slot y)=some out) (hS:jd S) (hp:lZ out.pre) (hK:Post S w0 N blk g al w fr out o.dst a K):o.wp P a w K Q:=by
 have hsz:=kH hT w;unfold Ia at hout;split at hout
 ·rename_i ty' l off u hty hex CE;rw[hTT]at hty;injection hty with hty
  subst hty;rw[hex]at hx;rw[CE]at hy;obtain⟨b,hg,hv⟩:=hx;split at hout
  ·rename_i cs hb;split at hout
   ·rename_i hc;injection hout with hout
    subst hout;simp only[jY]at hc;obtain⟨⟨h1,h2⟩,h3⟩:=hc;have h1:=Qa h1;have h2:=Qa2 h2;obtain⟨vs,t',hh,hr⟩:=La h hb hg;have hu:=rE h.refs (AQ h3) hy;have hlen:=hu.length;obtain⟨w',hrun,hb',hn,hs,q1,q2,q3⟩:=kT (P:=P) b t' (a.eval y).cells.toList w vs off 0 hh (by rw[<-hr.length];omega) (kG h.refs h3 hu);have hrun':(execOp a.eval o).run P w= .ok .skip w':=by
     have hsz2:(a.eval y).cells.size=ty.size:=by rw[<-h1,hlen];simp
     simp[execOp,ho,Instr.storeAt,Instr.sureAddr,hv,storeVar,hsz,hsz2,hrun]
    obtain⟨hp',hk'⟩:=h.write (bk':= .cells (putAt cs off u.cells)) hb rfl rfl hg rfl q1 q2 q3 hs hn (fun hk=>by
     refine⟨b,_,t',rfl,(xJ.lt (h.dH l _ hb).choose_spec.2 rfl (by rw[Qc1 ((h.dH l _ hb).choose_spec.1.symm.trans hg)];rfl)).2,hb',?_⟩;simpa using(hr.putAt hu (off+0)).keep hk (More.refl _))
    exact KA hrun' (hK _ _ _ (More.refl _) hk' (hp'.weaken fun _ h=> .inl h) trivial)
   ·cases hout
  ·cases hout
 ·rename_i ty' l i j sz u hty hex CE;rw[hTT]at hty;injection hty with hty
  subst hty;rw[hex]at hx;rw[CE]at hy;obtain⟨b,n,cap,hg,hv⟩:=hx;split at hout
  ·rename_i e d hb;split at hout
   ·rename_i hc;split at hout
    ·rename_i d' hset;injection hout with hout
     subst hout;simp only[jY]at hc;obtain⟨⟨⟨h1,h2⟩,h4⟩,h3⟩:=hc;have h1:=Qa h1;have h2:=Qa2 h2;have h4:=Qa h4;subst h4;have hp:i < S.len d:=hp;obtain⟨es,el,ec⟩:=hS.set _ _ _ _ _ hset hp;obtain⟨v,hv',hm,xs,⟨hxl,hown⟩,hcell⟩:=h.dH l _ hb;rw[hg]at hv';injection hv' with hv'
     subst hv';have hu:=rE h.refs (AQ h3) hy;have hlen:=hu.length;rcases hown with⟨h0,_⟩ | ⟨b',cap',cur,hvv,_,hh,hnc,hcm,hcs,htake⟩
     ·cases h0
     ·injection hvv with q1 q2 q3
      injection q1 with q1
      injection q1 with q1
      subst q1 q2 q3;have hh':w.heap[b]? =some (.cells (cur.toList).toArray e (0,0)):=by simpa using hh
      have hrow:i*S.size d+S.size d<=S.len d*S.size d:=by rw[<-Qc3];exact L8 _ hp
      have hcap:S.len d*S.size d<=cur.toList.length:=by rw[O5,hcs];exact L8 _ hnc
      obtain⟨w',hrun,hb',hn,hs,q1,q2,q3⟩:=kT (P:=P) b e (a.eval y).cells.toList w cur.toList (i*S.size d+j) 0 hh' au (kG h.refs h3 hu);have hrun':(execOp a.eval o).run P w= .ok .skip w':=by
       have hsz2:(a.eval y).cells.size=ty.size:=by rw[<-h1,hlen];simp
       simp[execOp,ho,Instr.storeAt,Instr.sureAddr,hv,storeVar,hsz,hsz2,hrun]
      generalize hus:(a.eval y).cells.toList=us at*;obtain⟨hp',hk'⟩:=h.write (bk':= .row e d') hb rfl rfl hg rfl q1 q2 q3 hs hn (fun hk=>by
       refine⟨⟨hm.1,by rw[el];exact hm.2.1,hS.aHB _ _ _ _ _ hset hm.2.2⟩,(cur.toList.take (i*S.size d+j+0)++(us++cur.toList.drop (i*S.size d+j+0+us.length))).take (S.len d*S.size d),⟨?_, .inr ⟨b,cap,(cur.toList.take (i*S.size d+j+0)++(us++cur.toList.drop (i*S.size d+j+0+us.length))).toArray,by rw[el],uN _,hb',by rw[el];exact hnc,hcm,?_,by rw[el,es]⟩⟩,fun i' j' hi' hj'=> ?_⟩
       ·rw[el,es];simp only[uP,pz,PW];omega
       ·rw[es,<-hcs];simp only[Qcl,pz,uP,PW];have:=O5 (xs:=cur);omega
       ·rw[el]at hi';rw[es]at hj';rw[es];have hlt:=nU hi' hj';obtain⟨uo,hxo,hdo,hro⟩:=hcell i' j' hi' hj';have hold:cur.toList[i'*S.size d+j']? =some uo:=by rw[<-hxo,<-htake,LD,Qb hlt]
        rw[LD,Qb hlt];by_cases hin:i'=i/\j<=j'/\j' < j+u.cells.length
        ·obtain⟨rfl,hj1,hj2⟩:=hin;obtain⟨x,hx1,hx2⟩:=(ec i' j' hi' hj').1 ⟨rfl,hj1,by simpa using hj2⟩;obtain⟨uv,huv,hrv⟩:=hu.norm.get (j' - j) hx1;refine⟨uv,?_,hS.data _ _ _ (by rw[el];exact hi') (by rw[es];exact hj'),?_⟩
         ·rw[Qa6 qbo,Qa9 qbt,<-huv];congr 1;simp only[uP];omega
         ·exact(hx2.rel hrv).keep hk (More.refl _)
        ·rw[(ec i' j' hi' hj').2 (by simpa using hin)];refine⟨uo,?_,hdo,hro.keep hk (More.refl _)⟩;rw[<-hold];have hpos:i'*S.size d+j' < i*S.size d+j\/i*S.size d+j+us.length<=i'*S.size d+j':=by
          rcases Nat.lt_trichotomy i' i with hlt' | rfl | hgt
          ·left
           have:(i'+1)*S.size d<=i*S.size d:=L8 _ hlt';rw[Qc3]at this;omega
          ·by_cases hjj:j<=j'
           ·right
            have:¬j' < j+u.cells.length:=fun hh=>hin ⟨rfl,hjj,hh⟩
            omega
           ·left;omega
          ·right
           have:(i+1)*S.size d<=i'*S.size d:=L8 _ hgt;rw[Qc3]at this;omega
         rcases hpos with hpos | hpos
         ·rw[Qa9 qbt,LD,Qb au]
         ·rw[Qa6 qbt,Qa6 qbt,Qbk];congr 1;simp only[uP];omega)
      exact KA hrun' (hK _ _ _ (More.refl _) hk' (hp'.weaken fun _ h=> .inl h) trivial)
    ·cases hout
   ·cases hout
  ·cases hout
 ·cases hout
theorem aeL {t:TypeId}{x:Operand}{f:Nat}{ty:Ty}(ho:o.op= .fieldAddr t x f)(hT:fU P t ty)(hTT:T t=some ty)(h:Hp S w0 N blk g al w)(hx:(aH slot x).Rel S (aW N blk g) w g (a.eval x))
  (hout:DC T t (aH slot x) f=some out) (hK:Post S w0 N blk g al w fr out o.dst a K):o.wp P a w K Q:=by
 simp only[DC,hTT]at hout;split at hout
 ·rename_i off sz _ l ofs hof he;rw[he]at hx;obtain⟨b,hg,hv⟩:=hx;obtain⟨fs,fd,hs,hf,hfo,hfs,_⟩:=I5 hT hof;split at hout
  ·cases hout
  ·rename_i hne;have hne:sz≠0:=fun e=>hne (by simp[e])
   injection hout with hout
   subst hout;refine bf (v:= .pointer (some ⟨b,ofs+off,none⟩)) ?_ h hK rfl ⟨b,hg,rfl⟩;simp[execOp,ho,Instr.fieldAt,run_underlying hs,hf,hv,Instr.sureAddr,fieldPlace,qL hfs hne,hne,hfo,lq]
 ·rename_i off sz _ d i j hof he;rw[he]at hx;obtain⟨ad,n,cap,hd,hi,hv⟩:=hx;obtain⟨fs,fd,hs,hf,hfo,hfs,_⟩:=I5 hT hof;split at hout
  ·cases hout
  ·rename_i hne;have hne:sz≠0:=fun e=>hne (by simp[e])
   injection hout with hout
   subst hout;refine bf (v:= .pointer (some (ad.add (i*S.size d+(j+off))))) ?_ h hK rfl ⟨ad,n,cap,hd,hi,rfl⟩;simp[execOp,ho,Instr.fieldAt,run_underlying hs,hf,hv,Instr.sureAddr,fieldPlace,qL hfs hne,hne,hfo,add_add',Qc4]
 ·rename_i off sz _ l i j z hof he;rw[he]at hx;obtain⟨b,n,cap,hg,hv⟩:=hx;obtain⟨fs,fd,hs,hf,hfo,hfs,_⟩:=I5 hT hof;split at hout
  ·cases hout
  ·rename_i hne;have hne:sz≠0:=fun e=>hne (by simp[e])
   injection hout with hout
   subst hout;refine bf (v:= .pointer (some ⟨b,i*z+(j+off),none⟩)) ?_ h hK rfl ⟨b,n,cap,hg,rfl⟩;simp[execOp,ho,Instr.fieldAt,run_underlying hs,hf,hv,Instr.sureAddr,fieldPlace,qL hfs hne,hne,hfo,lq,Qc4]
 ·cases hout
theorem agz {t:TypeId}{x:Operand}{f:Nat}{ty:Ty}(ho:o.op= .field t x f)(hT:fU P t ty)(hTT:T t=some ty)(h:Hp S w0 N blk g al w)(hx:(aH slot x).Rel S (aW N blk g) w g (a.eval x))
  (hout:akl T t (aH slot x) f=some out) (hK:Post S w0 N blk g al w fr out o.dst a K):o.wp P a w K Q:=by
 simp only[akl,hTT]at hout;split at hout
 ·rename_i off sz ag cs hof he;rw[he]at hx;obtain⟨vs,hv,hr⟩:=hx;obtain⟨fs,fd,hs,hf,hfo,hfs,hfa⟩:=I5 hT hof;split at hout
  ·cases hout
  ·rename_i hne;have hne:sz≠0:=fun e=>hne (by simp[e])
   have hia:=fun w=>apV hfs hne w
   rw[hfa]at hia;split at hout
   ·rename_i hag;split at hout
    ·rename_i hle;injection hout with hout
     subst hout;refine bf (v:= .agg ((vs.drop off).take sz).toArray) ?_ h hK rfl ⟨_,rfl,(hr.drop off).take _⟩;simp[execOp,ho,Instr.field,run_underlying hs,hf,hv,asAgg,part,hia,hag,qL hfs hne,hfo]
    ·cases hout
   ·rename_i hag;split at hout
    ·rename_i y hy;injection hout with hout
     subst hout;obtain⟨v,hv',hrel⟩:=hr.get off hy;refine bf (v:=v) ?_ h hK rfl hrel;simp[execOp,ho,Instr.field,run_underlying hs,hf,hv,asAgg,part,hia,hag,hfo,hv']
    ·cases hout
 ·cases hout
theorem Wu {x:Operand}{i:Nat}(ho:o.op= .extract x i)(h:Hp S w0 N blk g al w)(hx:(aH slot x).Rel S (aW N blk g) w g (a.eval x))
  (hout:UQ (aH slot x) i=some out) (hK:Post S w0 N blk g al w fr out o.dst a K):o.wp P a w K Q:=by
 unfold UQ at hout;split at hout
 ·rename_i xs he;rw[he]at hx;obtain⟨vs,hv,hr⟩:=hx;split at hout
  ·rename_i y hy;injection hout with hout
   subst hout;obtain⟨v,hv',hrel⟩:=hr.get i hy;refine bf (v:=v) ?_ h hK rfl hrel;simp[execOp,ho,Instr.extract,hv,hv']
  ·cases hout
 ·cases hout
theorem acb {t:TypeId}{x ix:Operand}(ho:o.op= .indexAddr t x ix)(hTy:∀t ty,T t=some ty->fU P t ty)(h:Hp S w0 N blk g al w)(hx:(aH slot x).Rel S (aW N blk g) w g (a.eval x))
  (hi:(aH slot ix).Rel S (aW N blk g) w g (a.eval ix)) (hout:LX T S blk t (aH slot x) (aH slot ix)=some out) (hp:lZ out.pre) (hK:Post S w0 N blk g al w fr out o.dst a K):o.wp P a w K Q:=by
 unfold LX at hout;split at hout
 ·cases hout
 ·rename_i ty hty;split at hout
  ·cases hout
  ·rename_i e hel;split at hout
   ·cases hout
   ·rename_i te hte;have hsl:=kY (hTy _ _ hty) hel;have hsz:=kH (hTy _ _ hte) w;split at hout
    ·rename_i d k n hex hei;rw[hex]at hx;rw[hei]at hi;split at hout
     ·rename_i hc;simp only[jY]at hc;have h1:=Qa hc.1;have h2:0 < te.size:=by simpa[Gf]using hc.2
      injection hout with hout
      subst hout;obtain⟨hp0,hp1⟩:=hp;simp only[Sl.Rel,Sv.Rel,Lf.Rel]at hi;obtain⟨av,cap,hv,hcap⟩:=dA.slice hx au;have hlt:n.toNat < S.len d:=by omega
      rw[hv]at hx;obtain⟨ad,rfl⟩:=dA.Af hx hlt au;refine bf (v:= .pointer (some (ad.add (n.toNat*S.size d+0)))) ?_ h hK rfl ⟨ad,_,cap,hx,hlt,rfl⟩;simp[execOp,ho,Instr.indexAt,hi,asIntOf,run_underlying hsl,hv,hp0,hp1,hsz,h1]
     ·cases hout
    ·rename_i l k n hex hei;rw[hex]at hx;rw[hei]at hi;split at hout
     ·rename_i e' d hb;split at hout
      ·rename_i hc;simp only[jY]at hc;have h1:=Qa hc.1;have h2:0 < te.size:=by simpa[Gf]using hc.2
       injection hout with hout
       subst hout;obtain⟨hp0,hp1⟩:=hp;simp only[Sl.Rel,Sv.Rel,Lf.Rel]at hi hx;obtain⟨v,hv,_,xs,⟨hxl,hown⟩,_⟩:=h.dH l _ hb;rw[hx]at hv;injection hv with hv
       rcases hown with⟨h0,hz⟩ | ⟨b,cap,cur,hv',_⟩
       ·omega
       ·rw[hv']at hv;refine bf (v:= .pointer (some ⟨b,n.toNat*te.size+0,none⟩)) ?_ h hK rfl ⟨b,_,cap,hx.trans (by rw[hv]),rfl⟩;simp[execOp,ho,Instr.indexAt,hi,asIntOf,run_underlying hsl,hv,hp0,hp1,hsz,lq]
      ·cases hout
     ·rename_i d hb;split at hout
      ·rename_i hc;simp only[jY]at hc;have h1:=Qa hc.1;have h2:0 < te.size:=by simpa[Gf]using hc.2
       injection hout with hout
       subst hout;obtain⟨hp0,hp1⟩:=hp;simp only[Sl.Rel,Sv.Rel,Lf.Rel]at hi hx;obtain⟨v,hv,hdat⟩:=h.dH l _ hb;rw[hx]at hv;injection hv with hv
       have hdat:dA S (aW N blk g) w d v:=hdat;obtain⟨av,cap,hv2,hcap⟩:=dA.slice hdat au;have hlt:n.toNat < S.len d:=by omega
       rw[hv2]at hdat hv;obtain⟨ad,rfl⟩:=dA.Af hdat hlt au;refine bf (v:= .pointer (some (ad.add (n.toNat*S.size d+0)))) ?_ h hK rfl ⟨ad,_,cap,hdat,hlt,rfl⟩;simp[execOp,ho,Instr.indexAt,hi,asIntOf,run_underlying hsl,hv,hp0,hp1,hsz,h1]
      ·cases hout
     ·cases hout
    ·cases hout
theorem lI {op:BinOp}{t:TypeId}{x y:Operand}{u v:Value}(hu:one' u=true)(hn:u≠ .nilIface):(eqGuard op t x y u v).run P w= .ok () w:=by
 cases u<;>first | (simp[one']at hu;done) | (simp at hn;done) | (cases op<;>rfl)
theorem BH {us:List Value}{i:Nat}{u:Value}{r:List Value}(h:us.drop i=u::r):us[i]? =some u/\us.drop (i+1)=r:=by
 constructor
 ·have:=Qd (·[0]?) h;simpa using this
 ·have:=Qd (·.drop 1) h;simpa[Qdm]using this
theorem aiL {d:Nat}{t:TypeId}{k:Nat}{x y:Lf D}{u v:Value}{e:Bool}(hk:U4 P t=some k)(hx:x.Rel S M w g u)(hy:y.Rel S M w g v)(he:eq1 k x y=some e):
  (Op.equalIn (d+1) t u v).run P w= .ok e w/\(isAgg t).run P w= .ok false w:=by
 unfold U4 at hk;split at hk
 ·rename_i hu;injection hk with hk
  subst hk;simp only[eq1]at he;split at he
  ·injection he with he
   subst he;cases hx;cases hy;exact⟨by simp[Op.equalIn,run_underlying hu],by simp[isAgg,run_underlying hu]⟩
  ·cases he
 ·rename_i hu;injection hk with hk
  subst hk;simp only[eq1]at he;split at he
  ·split at he
   ·rename_i hkk;injection he with he
    subst he;cases hx;cases hy;simp only[WB,Qc6]at hkk;subst hkk;exact⟨by simp[Op.equalIn,run_underlying hu],by simp[isAgg,run_underlying hu]⟩
   ·cases he
  ·cases he
 ·rename_i hu;injection hk with hk
  subst hk;simp only[eq1]at he;split at he
  ·rename_i a' b';injection he with he
   subst he;obtain⟨rfl,_⟩:=hx;obtain⟨rfl,_⟩:=hy;refine⟨?_,by simp[isAgg,run_underlying hu]⟩;have:((⟨a'.toArray⟩:ByteArray)==⟨b'.toArray⟩)=(a'==b'):=by
    show(a'.toArray==b'.toArray)=_
    simp
   simp[Op.equalIn,run_underlying hu,this]
  ·cases he
 ·cases hk
theorem akS {d:Nat}{us vs:Array Value}:∀(fs:List Field) (i:Nat) (ks:List Nat) (xs ys:List (Lf D)) (r:Bool),eqFields P i fs=some ks->uU ks xs ys=some r->
  aZ S M w g xs (us.toList.drop i)->aZ S M w g ys (vs.toList.drop i)->
  (forIn (m:=Sem) fs ((none:Option Bool),()) fun f _=>if f.name≠ "_" then do
    let a<-part f.type us f.offset
    let b<-part f.type vs f.offset
    let e<-Op.equalIn (d+1) f.type a b
    if (!e)=true then pure (ForInStep.done (some false,()))else pure (ForInStep.yield (none,()))
   else pure (ForInStep.yield (none,()))).run P w= .ok (if r then none else some false,()) w
 | [],i,ks,xs,ys,r,hf,he,hx,hy=>by
  simp only[eqFields,KZ]at hf;subst hf;cases xs with
  | cons x xs=>simp[uU]at he
  | nil=>
   cases ys with
   | cons y ys=>simp[uU]at he
   | nil=>
    simp only[uU,KZ]at he;subst he;simp
 | f::fs,i,ks,xs,ys,r,hf,he,hx,hy=>by
  unfold eqFields at hf;split at hf
  ·rename_i k ks' hk hks;split at hf
   ·rename_i hc;simp only[jY,Qbi]at hc;obtain⟨⟨c1,c2⟩,c3⟩:=hc;have c1:=Qa c1;have c2:f.name≠ "_" :=by simpa using c2
    injection hf with hf
    subst hf;cases xs with
    | nil=>simp[uU]at he
    | cons x xs=>
     cases ys with
     | nil=>simp[uU]at he
     | cons y ys=>
      unfold uU at he;split at he
      ·rename_i e r' he1 hr';injection he with he
       subst he;generalize hux:us.toList.drop i=U at hx;generalize hvx:vs.toList.drop i=V at hy;cases U with
       | nil=>exact hx.elim
       | cons u U=>
        cases V with
        | nil=>exact hy.elim
        | cons v V=>
         obtain⟨u1,u2⟩:=BH hux;obtain⟨v1,v2⟩:=BH hvx;obtain⟨e1,e3⟩:=aiL (d:=d) hk hx.1 hy.1 he1;have ih:=akS (d:=d) (us:=us) (vs:=vs) fs (i+1) ks' xs ys r' hks hr' (by rw[u2];exact hx.2) (by rw[v2];exact hy.2);have p1:(part f.type us f.offset).run P w= .ok u w:=by
          have:us[i]? =some u:=by simpa using u1
          simp[part,e3,c1,this]
         have p2:(part f.type vs f.offset).run P w= .ok v w:=by
          have:vs[i]? =some v:=by simpa using v1
          simp[part,e3,c1,this]
         rw[List.forIn_cons];simp only[c2,ne_eq,not_false_eq_true,if_true,Sem.run_bind,p1,p2,e1,Result.andThen_ok];cases e with
         | false=>simp
         | true=>
          simp only[Qby,Qbr,if_false,Sem.run_pure,Result.andThen_ok,Qcw];simpa only[c2,ne_eq,not_false_eq_true,if_true]using ih
      ·cases he
   ·cases hf
  ·cases hf
theorem arM {d n0:Nat}{e:TypeId}{k:Nat}{us vs:Array Value}(hk:U4 P e=some k):∀(n i:Nat) (xs ys:List (Lf D)) (r:Bool),uU (List.replicate n k) xs ys=some r->
  aZ S M w g xs (us.toList.drop i)->aZ S M w g ys (vs.toList.drop i)->
  (forIn (m:=Sem) (List.range' i n) ((none:Option Bool),()) fun i _=>do
    let a<-part e us (i*1)
    let b<-part e vs (i*1)
    let c<-Op.equalIn (d+1) e a b
    if (!c)=true then pure (ForInStep.done (some false,()))else pure (ForInStep.yield (none,()))).run P w= .ok (if r then none else some false,()) w
 | 0,i,xs,ys,r,he,hx,hy=>by
  cases xs with
  | cons x xs=>simp[uU]at he
  | nil=>
   cases ys with
   | cons y ys=>simp[uU]at he
   | nil=>
    simp only[List.replicate,uU,KZ]at he;subst he;simp
 | n+1,i,xs,ys,r,he,hx,hy=>by
  rw[List.replicate_succ]at he;cases xs with
  | nil=>simp[uU]at he
  | cons x xs=>
   cases ys with
   | nil=>simp[uU]at he
   | cons y ys=>
    unfold uU at he;split at he
    ·rename_i c r' he1 hr';injection he with he
     subst he;generalize hux:us.toList.drop i=U at hx;generalize hvx:vs.toList.drop i=V at hy;cases U with
     | nil=>exact hx.elim
     | cons u U=>
      cases V with
      | nil=>exact hy.elim
      | cons v V=>
       obtain⟨u1,u2⟩:=BH hux;obtain⟨v1,v2⟩:=BH hvx;obtain⟨e1,e3⟩:=aiL (d:=d) hk hx.1 hy.1 he1;have ih:=arM (d:=d) (n0:=n0) (us:=us) (vs:=vs) hk n (i+1) xs ys r' hr' (by rw[u2];exact hx.2) (by rw[v2];exact hy.2);have p1:(part e us (i*1)).run P w= .ok u w:=by
        have:us[i]? =some u:=by simpa using u1
        simp[part,e3,this]
       have p2:(part e vs (i*1)).run P w= .ok v w:=by
        have:vs[i]? =some v:=by simpa using v1
        simp[part,e3,this]
       rw[List.range'_succ,List.forIn_cons];simp only[Sem.run_bind,p1,p2,e1,Result.andThen_ok];cases c with
       | false=>simp
       | true=>
        simp only[Qby,Qbr,if_false,Sem.run_pure,Result.andThen_ok,Qcw];exact ih
    ·cases he
theorem Xp {t:TypeId}{ty:Ty}{us vs:List Value}{xs ys:List (Lf D)}{k:Nat}{ks:List Nat}{r:Bool}(hT:fU P t ty)(hk:ty.eqs=k::ks)(he:uU (k::ks) xs ys=some r)(hx:aZ S M w g xs us)(hy:aZ S M w g ys vs):
  (Op.equal t (.agg us.toArray) (.agg vs.toArray)).run P w= .ok r w/\P.eqGuardType P.depth t=false:=by
 obtain⟨i,d,z,lt,hi,hd,hz,rfl⟩:=mF hT;cases d with
 | struct fs=>
  simp only[ad8]at hk;split at hk
  ·cases hk
  ·rename_i hg;simp only[Qbt,not_or,Bool.not_eq_true]at hg;obtain⟨g1,g2⟩:=hg;refine⟨?_,g2⟩;split at hk
   ·rename_i ks' hks;subst hk
    suffices key:∀d,(Op.equalIn (d+1+1) t (.agg us.toArray) (.agg vs.toArray)).run P w= .ok r w from key 9998
    intro d;have:=akS (P:=P) (w:=w) (d:=d) (us:=us.toArray) (vs:=vs.toArray) fs.toList 0 _ xs ys r hks he qct (by simpa using hy);rw[Array.forIn_toList]at this;simp only[Op.equalIn,Sem.run_bind,run_underlying hd,Result.andThen_ok,program];simp only[Sem.run,Result.andThen_ok,g1,Qbr,if_false];rw[Sem.run_bind];refine(Qd (fun x=>Result.andThen x _) this).trans ?_;rw[Result.andThen_ok];cases r<;>rfl
   ·cases hk
 | array n e=>
  simp only[ad8]at hk;split at hk
  ·cases hk
  ·rename_i hg;simp only[Bool.not_eq_true]at hg;refine⟨?_,hg⟩;split at hk
   ·rename_i k' i' hk' hi';split at hk
    ·rename_i hsz;have hsz:=Qa hsz
     suffices key:∀d,(Op.equalIn (d+1+1) t (.agg us.toArray) (.agg vs.toArray)).run P w= .ok r w from key 9998
     intro d;have:=arM (P:=P) (w:=w) (d:=d) (n0:=0) (us:=us.toArray) (vs:=vs.toArray) hk' n 0 xs ys r (by rw[hk];exact he) qct (by simpa using hy);have hs1:(sizeOf e).run P w= .ok 1 w:=by simp[sizeOf,typeInfo,hi',hsz]
     obtain⟨d',hd'⟩:∃d',d'=d+1:=⟨_,rfl⟩;rw[<-hd']at this⊢;simp only[Op.equalIn,Sem.run_bind,run_underlying hd,Result.andThen_ok,hs1,Std.Legacy.Range.forIn_eq_forIn_range',Std.Legacy.Range.size];rw[show(n - 0+1 - 1) / 1=n by simp];refine(Qd (fun x=>Result.andThen x _) this).trans ?_;rw[Result.andThen_ok];cases r<;>rfl
    ·cases hk
   ·cases hk
 | _=>simp[ad8]at hk
theorem afz {op:BinOp}{t yt:TypeId}{x y:Operand}(ho:o.op= .binOp op t x y yt)(hTy:∀t ty,T t=some ty->fU P t ty)(h:Hp S w0 N blk g al w)(hx:(aH slot x).Rel S (aW N blk g) w g (a.eval x))
  (hy:(aH slot y).Rel S (aW N blk g) w g (a.eval y)) (hout:akU T S op t (aH slot x) (aH slot y)=some out) (hK:Post S w0 N blk g al w fr out o.dst a K):o.wp P a w K Q:=by
 unfold akU at hout;split at hout
 ·cases hout
 ·rename_i ty hty;split at hout
  ·rename_i e d he hex CE;split at hout
   rotate_left
   ·cases hout
   rename_i hz;have hz:0 < S.size d:=by simpa[Gf]using hz
   have hsl:=kY (hTy _ _ hty) he;rw[hex]at hx;rw[CE]at hy;have hx:dA S (aW N blk g) w d (a.eval x):=hx;have hy:a.eval y= .slice none 0 0:=hy;obtain⟨av,cap,hv,hcap⟩:=dA.slice hx hz;have hnil:av.isNone=true->S.len d=0:=fun hn=>by
    rw[hv]at hx;rcases Qcz (S.len d)with h0 | h0
    ·exact h0
    ·obtain⟨ad,rfl⟩:=dA.Af hx h0 hz;cases hn
   have hgd:=fun w=>lI (P:=P) (w:=w) (op:=op) (t:=t) (x:=x) (y:=y) (u:= .slice av (S.len d) cap) (v:= .slice none 0 0) rfl oJ
   split at hout
   ·injection hout with hout;subst hout
    refine bf (v:= .bool av.isNone) ?_ h hK rfl ⟨_,rfl,hnil⟩;simp[execOp,ho,hv,hy,hgd,Lib.run_eql_slice_nil w t e av (S.len d) cap 0 0 hsl]
   ·injection hout with hout;subst hout
    refine bf (v:= .bool (!av.isNone)) ?_ h hK rfl ⟨_,rfl,fun hb=>hnil (by simpa using hb)⟩;simp[execOp,ho,hv,hy,hgd,run_neq_slice_nil_any w t e av (S.len d) cap 0 0 hsl]
   ·cases hout
  ·rename_i e he hex CE;have hsl:=kY (hTy _ _ hty) he;rw[hex]at hx;rw[CE]at hy;have hx:a.eval x= .slice none 0 0:=hx;have hy:a.eval y= .slice none 0 0:=hy;have hgd:=fun w=>lI (P:=P) (w:=w) (op:=op) (t:=t) (x:=x) (y:=y) (u:= .slice none 0 0) (v:= .slice none 0 0) rfl oJ
   split at hout
   ·injection hout with hout;subst hout
    refine bf (v:= .bool true) ?_ h hK rfl rfl;simp[execOp,ho,hx,hy,hgd,Lib.run_eql_slice_nil w t e none 0 0 0 0 hsl]
   ·injection hout with hout;subst hout
    refine bf (v:= .bool false) ?_ h hK rfl rfl;simp[execOp,ho,hx,hy,hgd,run_neq_slice_nil_any w t e none 0 0 0 0 hsl]
   ·cases hout
  ·cases hout
theorem amE {op:BinOp}{t yt:TypeId}{x y:Operand}(ho:o.op= .binOp op t x y yt)(hTy:∀t ty,T t=some ty->fU P t ty)(h:Hp S w0 N blk g al w)(hx:(aH slot x).Rel S (aW N blk g) w g (a.eval x))
  (hy:(aH slot y).Rel S (aW N blk g) w g (a.eval y)) (hout:aDQ T op t (aH slot x) (aH slot y)=some out) (hp:lZ out.pre) (hK:Post S w0 N blk g al w fr out o.dst a K):o.wp P a w K Q:=by
 unfold aDQ at hout;split at hout
 ·rename_i k n k' m hex CE;rw[hex]at hx;rw[CE]at hy;simp only[Sl.Rel,Sv.Rel,Lf.Rel]at hx hy;split at hout
  ·
   have hgd:=fun w=>lI (P:=P) (w:=w) (op:= .shl) (t:=t) (x:=x) (y:=y) (u:= .int k n) (v:= .int k' m) rfl oJ
   injection hout with hout
   subst hout;have hp:0<=m:=hp;refine bf (v:=_) ?_ h hK rfl rfl;simp[execOp,ho,hx,hy,hgd,binOp,Op.shift,show ¬m < 0 by omega,WQ]
  ·have hgd:=fun w=>lI (P:=P) (w:=w) (op:= .shr) (t:=t) (x:=x) (y:=y) (u:= .int k n) (v:= .int k' m) rfl oJ
   injection hout with hout
   subst hout;have hp:0<=m:=hp;refine bf (v:=_) ?_ h hK rfl rfl;simp[execOp,ho,hx,hy,hgd,binOp,Op.shift,show ¬m < 0 by omega,Aq]
  ·split at hout
   rotate_left
   ·cases hout
   rename_i hns aIN hk;have hk:k=k':=by simpa[WB]using hk
   subst hk;have hgd:=fun w=>lI (P:=P) (w:=w) (op:=op) (t:=t) (x:=x) (y:=y) (u:= .int k n) (v:= .int k m) rfl oJ
   unfold aE_ at hout;split at hout<;>first
    | (
      injection hout with hout;subst hout
      refine bf (v:=_) ?_ h hK rfl rfl;first
       | (simp[execOp,ho,hx,hy,hgd,binOp,Op.intArith,dD];done)
       | (simp[execOp,ho,hx,hy,hgd,binOp,Op.intBits,vk,orI,agt,aGs];done)
       | (simp[execOp,ho,hx,hy,hgd,binOp,Op.intCmp];done)
       | (simp[execOp,ho,hx,hy,hgd,binOp,Op.intDiv,show m≠0 from hp];done)
       | (simp[execOp,ho,hx,hy,hgd,binOp,Op.intDiv,show m≠0 from hp,dD];done))
    | cases hout
 ·rename_i s u hex CE;rw[hex]at hx;rw[CE]at hy;simp only[Sl.Rel,Sv.Rel,Lf.Rel]at hx hy;obtain⟨hx,hxl⟩:=hx;obtain⟨hy,hyl⟩:=hy;have hgd:=fun w=>lI (P:=P) (w:=w) (op:=op) (t:=t) (x:=x) (y:=y) (u:= .string ⟨s.toArray⟩) (v:= .string ⟨u.toArray⟩) rfl oJ
  unfold aGa at hout;split at hout<;>first
   | (
     injection hout with hout;subst hout
     refine bf (v:=_) ?_ h hK rfl rfl;simp[execOp,ho,hx,hy,hgd,binOp,Op.stringOp,bne];done)
   | (cases hout;done)
   | skip
  injection hout with hout
  subst hout;have hsum:=run_string_add_sum (P:=P) w ⟨s.toArray⟩ ⟨u.toArray⟩ (by simpa[ByteArray.size,lZ]using hp);rw[ByteArray.mk_append_mk]at hsum;refine bf (v:= .string ⟨(s++u).toArray⟩) ?_ h hK rfl ⟨rfl,by simpa[lZ]using hp⟩;simp[execOp,ho,hx,hy,hgd,binOp,hsum]
 ·rename_i xs ys hex CE;rw[hex]at hx;rw[CE]at hy;obtain⟨us,hux,hrx⟩:=hx;obtain⟨vs,hvy,hry⟩:=hy;split at hout
  ·rename_i ty hty;split at hout
   ·cases hout
   ·rename_i ks hne;cases hks:ty.eqs with
    | nil=>exact absurd hks hne
    | cons k ks'=>
     rw[hks]at hout;split at hout
     ·rename_i r he;injection hout with hout;subst hout
      obtain⟨h1,h2⟩:=Xp (hTy _ _ hty) hks he hrx.norm hry.norm;refine bf (v:= .bool r) ?_ h hK rfl rfl;have hgd:(eqGuard .eql t x y (.agg us.toArray) (.agg vs.toArray)).run P w= .ok () w:=by
       simp only[eqGuard,program];simp[Sem.run,h2]
      simp[execOp,ho,hux,hvy,hgd,binOp,h1]
     ·rename_i r he;injection hout with hout;subst hout
      obtain⟨h1,h2⟩:=Xp (hTy _ _ hty) hks he hrx.norm hry.norm;refine bf (v:= .bool (!r)) ?_ h hK rfl rfl;have hgd:(eqGuard .neq t x y (.agg us.toArray) (.agg vs.toArray)).run P w= .ok () w:=by
       simp only[eqGuard,program];simp[Sem.run,h2]
      simp[execOp,ho,hux,hvy,hgd,binOp,h1]
     ·cases hout
  ·cases hout
 ·split at hout
  ·rename_i s u hbx hby
   have hx:=FM hbx hx;have hy:=FM hby hy;have hgd:=fun w=>lI (P:=P) (w:=w) (op:=op) (t:=t) (x:=x) (y:=y) (u:= .bool s) (v:= .bool u) rfl oJ
   split at hout
   ·rename_i ty hty;split at hout
    ·rename_i hk;obtain⟨d,hd,hkd⟩:=ny (hTy _ _ hty);have hk:ty.kind=1:=by simpa using hk
     rw[hk]at hkd;have hd:P.underlying t=some .bool:=by cases d<;>simp_all [kindOf]
     have heq:∀n,(Op.equalIn (n+1) t (.bool s) (.bool u)).run P w= .ok (s==u) w:=fun n=>by simp[Op.equalIn,run_underlying hd]
     have heq':(Op.equal t (.bool s) (.bool u)).run P w= .ok (s==u) w:=heq 9999;split at hout<;>first
      | (
        injection hout with hout;subst hout
        refine bf (v:=_) ?_ h hK rfl rfl;simp[execOp,ho,hx,hy,hgd,binOp,heq',bne];done)
      | cases hout
    ·cases hout
   ·cases hout
  ·cases hout
theorem arb {op:UnOp}{t:TypeId}{x:Operand}(ho:o.op= .unOp op t x)(h:Hp S w0 N blk g al w)(hx:(aH slot x).Rel S (aW N blk g) w g (a.eval x))
  (hout:xUn op (aH slot x)=some out) (hp:lZ out.pre) (hK:Post S w0 N blk g al w fr out o.dst a K):o.wp P a w K Q:=by
 unfold xUn at hout;split at hout
 ·rename_i b he;rw[he]at hx;simp only[Sl.Rel,Sv.Rel,Lf.Rel]at hx;injection hout with hout;subst hout
  refine bf (v:=_) ?_ h hK rfl rfl;simp[execOp,ho,hx,Op.unary]
 ·rename_i b he;rw[he]at hx;simp only[Sl.Rel,Sv.Rel,Lf.Rel]at hx;injection hout with hout;subst hout
  refine bf (v:=_) ?_ h hK rfl rfl;simp[execOp,ho,hx,Op.unary]
 ·rename_i p he;rw[he]at hx;obtain⟨b,hb,hpb⟩:=hx;injection hout with hout;subst hout
  refine bf (v:= .bool (!b)) ?_ h hK rfl ⟨!b,rfl,by simpa using hpb⟩;simp[execOp,ho,hb,Op.unary]
 ·rename_i k n he;rw[he]at hx;simp only[Sl.Rel,Sv.Rel,Lf.Rel]at hx;injection hout with hout;subst hout
  refine bf (v:=_) ?_ h hK rfl rfl;simp[execOp,ho,hx,Op.unary,Op.intArith,dD]
 ·rename_i k n he;rw[he]at hx;simp only[Sl.Rel,Sv.Rel,Lf.Rel]at hx;injection hout with hout;subst hout
  refine bf (v:=_) ?_ h hK rfl rfl;simp[execOp,ho,hx,Op.unary,Op.intBits,agt]
 ·cases hout
theorem agi {c x y:Operand}(ho:o.op= .pick c x y)(h:Hp S w0 N blk g al w)(hc:(aH slot c).Rel S (aW N blk g) w g (a.eval c))(hx:(aH slot x).Rel S (aW N blk g) w g (a.eval x))
  (hy:(aH slot y).Rel S (aW N blk g) w g (a.eval y)) (hout:ajq slot c x y=some out) (hK:Post S w0 N blk g al w fr out o.dst a K):o.wp P a w K Q:=by
 unfold ajq at hout;split at hout
 ·rename_i he;rw[he]at hc;simp only[Sl.Rel,Sv.Rel,Lf.Rel]at hc;injection hout with hout;subst hout
  exact bf (v:=a.eval x) qcn h hK rfl hx
 ·rename_i he;rw[he]at hc;simp only[Sl.Rel,Sv.Rel,Lf.Rel]at hc;injection hout with hout;subst hout
  exact bf (v:=a.eval y) qcn h hK rfl hy
 ·rename_i t he;rw[he]at hc;simp only[Sl.Rel,Sv.Rel,Lf.Rel]at hc;split at hout
  ·rename_i p q hp hq;have hx:=FM hp hx;have hy:=FM hq hy;injection hout with hout;subst hout
   cases t
   ·exact bf (v:=a.eval y) qcn h hK rfl hy
   ·exact bf (v:=a.eval x) qcn h hK rfl hx
  ·cases hout
 ·cases hout
end
end Go.Vc
namespace Go.Vc
open Go.RowKit
section
variable {D:Type}{P:Program}{S:Sh D}{T:TypeId->Option Ty}{Γ:FuncId->Option (Ct D)}{M N:Nat->Prop}{w w':World}{w0:Bs}{g:Nat->Option Value}{blk:Nat->Option (Bk D)}{al:Nat->Prop}
 {a:Act} {o:Oper} {K:Act->World->Prop} {Q:Exit->Act->World->Prop} {slot:Nat->Sl D} {out:Out D} {fr:Nat}
theorem YU:∀(us:List Value) (off k:Nat) (cs:Array Value),off+k+us.length<=cs.size->
  ((us.zipIdx k).foldl (fun(cs:Array Value) (p:Value×Nat)=>cs.setIfInBounds (off+p.2) p.1) cs).toList=cs.toList.take (off+k)++(us++cs.toList.drop (off+k+us.length))
 | [],off,k,cs,_=>by simp
 | u::us,off,k,cs,h=>by
  simp only[xH]at h;have hlt:off+k < cs.toList.length:=by simp;omega
  rw[List.zipIdx_cons,List.foldl_cons,YU us off (k+1) _ qbo];simp only[Array.toList_setIfInBounds];have e1:(cs.toList.set (off+k) u).take (off+(k+1))=cs.toList.take (off+k)++[u]:=by
   rw[show off+(k+1)=(off+k)+1 by omega,Qbv (by simpa using hlt),Qel,List.set_eq_of_length_le qbo];simp
  have e2:(cs.toList.set (off+k) u).drop (off+(k+1)+us.length)=cs.toList.drop (off+k+(u::us).length):=by
   rw[Qdr au];congr 1;simp;omega
  rw[e1,e2];simp
theorem adk {v:Value}{off:Nat}{cs:Array Value}(h:off+v.cells.size<=cs.size):
  (v.cells.zipIdx.foldl (fun(cs:Array Value) (p:Value×Nat)=>cs.setIfInBounds (off+p.2) p.1) cs).toList=cs.toList.take off++(v.cells.toList++cs.toList.drop (off+v.cells.toList.length)):=by
 rw[<-Array.foldl_toList,Array.toList_zipIdx];simpa using YU v.cells.toList off 0 cs qbq
theorem ai8 {ty:Ty}{place:Nat->Option (Nat×Nat)}(href:∀l u,g l=some u->isRef u=true)(hs:∀t,(slot t).Rel S M w g (a.tmps.getD t undef))
  (hpl:∀f off sz ag,ty.anB[f]? =some (off,sz,ag)->place f=some (off,sz)):
  ∀(parts:List (Nat×Operand)) (cs cs':List (Lf D)) (vs:Array Value),aZ S M w g cs vs.toList->H_ ty slot parts cs=some cs'->
   ∃vs',Instr.fill place vs (parts.map fun p=>(p.1,a.eval p.2))=some vs'/\aZ S M w g cs' vs'.toList
 | [],cs,cs',vs,h,hf=>⟨vs,rfl,by injection hf with hf;subst hf;exact h⟩
 | (f,x)::r,cs,cs',vs,h,hf=>by
  unfold H_ at hf;split at hf
  ·rename_i off sz ag u ho hu;split at hf
   ·rename_i hc;simp only[jY]at hc;obtain⟨⟨h1,h2⟩,h3⟩:=hc;have h2:=Qa h2;have h3:=Qa2 h3;have hx:=oG hs x;rw[hu]at hx;have hc:=rE href h1 hx;have hl:=hc.length;have hvl:=h.length;have hsz:(a.eval x).cells.size=sz:=by rw[<-h2,hl];simp
    have hfit:off+(a.eval x).cells.size<=vs.size:=by
     have:vs.toList.length=vs.size:=by simp
     omega
    obtain⟨vs',hv',hr'⟩:=ai8 href hs hpl r _ cs' _ (by rw[adk hfit];exact h.putAt hc off) hf;refine⟨vs',?_,hr'⟩;simp only[F_,Instr.fill,hpl f off sz ag ho];rw[qC (by simp[hsz];omega)];exact hv'
   ·cases hf
  ·cases hf
theorem B_:∀(fs:List Field),(∀f∈fs,cellsIn P f.type≠0)->
  (fs.mapM fun f=>(do pure (f.offset,<-sizeOf f.type):Sem (Nat×Nat))).run P w= .ok (fs.map fun f=>(f.offset,cellsIn P f.type)) w
 | [],_=>rfl
 | f::fs,h=>by
  have hf:=qL (P:=P) rfl (h f oJ) w;have ih:=B_ fs fun x hx=>h x (by simp[hx])
  simp only[List.mapM_cons,Sem.run_bind,hf,Result.andThen_ok,Sem.run_pure,ih,F_]
theorem adn {t:TypeId}{parts:Array (Nat×Operand)}(ho:o.op= .build t parts)(hTy:∀t ty,T t=some ty->fU P t ty)(h:Hp S w0 N blk g al w)
  (hs:∀t,(slot t).Rel S (aW N blk g) w g (a.tmps.getD t undef)) (hout:Zm T slot t parts=some out) (hK:Post S w0 N blk g al w fr out o.dst a K):o.wp P a w K Q:=by
 unfold Zm at hout;split at hout
 ·rename_i ty hty;have hT:=hTy _ _ hty;split at hout
  ·rename_i hc;simp only[jY]at hc;split at hout
   ·rename_i cs hf;injection hout with hout
    subst hout;obtain⟨z,hz,hzc⟩:=Ap hT w;obtain⟨i,d,z',lt,hi,hd,hz',rfl⟩:=mF hT;cases d with
    | struct fs=>
     have hall:∀f∈fs.toList,cellsIn P f.type≠0:=by
      intro f hm;have:=hc.2;simp only[M_,List.all_map,MX,Function.comp,Qbi]at this;intro e;have:=this f hm;rw[e]at this;simp at this
     obtain⟨vs',hv',hr'⟩:=ai8 (a:=a) (place:=fun f=>((fs.toList.map fun f=>(f.offset,cellsIn P f.type)).toArray)[f]?) h.refs hs (fun f off sz ag ho=>by
      simp only[M_,Qbb,Qcm,V6]at ho;obtain⟨fd,h1,rfl,rfl,_⟩:=ho;simp at h1;simp[h1]) parts.toList _ cs z.cells (by rw[hzc];exact rG _) hf
     refine bf (v:= .agg vs') ?_ h hK rfl ⟨vs'.toList,by simp,hr'⟩;have hm:=B_ (P:=P) (w:=w) fs.toList hall;have hmap:parts.toList.map (fun p=>(p.1,a.eval p.2))=(parts.map fun(i,x)=>(i,a.eval x)).toList:=by simp
     rw[hmap]at hv';simp only[execOp,ho,Instr.build,Sem.run_bind,hz,Result.andThen_ok,run_underlying hd];rw[Qdp];simp only[Sem.run_map,hm,Result.andThen_ok,Sem.run_pure];simp at hv';simp[hv']
    | _=>simp[kindOf]at hc
   ·cases hout
  ·cases hout
 ·cases hout
theorem TE {sz:Nat}(href:∀l u,g l=some u->isRef u=true)(hs:∀t,(slot t).Rel S M w g (a.tmps.getD t undef)):
  ∀(parts:List (Nat×Operand)) (cs cs':List (Lf D)) (vs:Array Value),aZ S M w g cs vs.toList->xR sz slot parts cs=some cs'->
   ∃vs',Instr.fill (fun i=>some (i*sz,sz)) vs (parts.map fun p=>(p.1,a.eval p.2))=some vs'/\aZ S M w g cs' vs'.toList
 | [],cs,cs',vs,h,hf=>⟨vs,rfl,by injection hf with hf;subst hf;exact h⟩
 | (f,x)::r,cs,cs',vs,h,hf=>by
  unfold xR at hf;split at hf
  ·rename_i u hu;split at hf
   ·rename_i hc;simp only[jY]at hc;obtain⟨⟨h1,h2⟩,h3⟩:=hc;have h2:=Qa h2;have h3:=Qa2 h3;have hx:=oG hs x;rw[hu]at hx;have hc:=rE href h1 hx;have hl:=hc.length;have hvl:=h.length;have hsz:(a.eval x).cells.size=sz:=by rw[<-h2,hl];simp
    have hfit:f*sz+(a.eval x).cells.size<=vs.size:=by
     have:vs.toList.length=vs.size:=by simp
     omega
    obtain⟨vs',hv',hr'⟩:=TE href hs r _ cs' _ (by rw[adk hfit];exact h.putAt hc (f*sz)) hf;refine⟨vs',?_,hr'⟩;simp only[F_,Instr.fill];rw[qC (by simp[hsz];omega)];exact hv'
   ·cases hf
  ·cases hf
theorem Ht {x:Lf D}{u:Value}(hd:x.jJ=true)(h:x.Rel S M w g u)(hs:∀b,b < w.heap.size->¬M b->w'.heap[b]? =w.heap[b]?):Lf.plain x u/\∀d',x= .dat d'->Ac S w' d' u:=by
 cases x<;>first | (simp[Lf.jJ]at hd;done) | exact⟨h,fun d' e=>by cases e⟩ | exact⟨trivial,fun d' e=>by cases e;exact h w' hs⟩
theorem alC {d:D}{b n:Nat}{e:TypeId}{vs:Array Value}{cs:List (Lf D)}(hS:jd S)(hm:S.make e n cs=some d)(hb:w.heap[b]? =some (.cells vs e (0,0)))(hnM:¬M b)(hr:aZ S M w g cs vs.toList)(hn:n<=9223372036854775807):
  dA S M w d (.slice (some ⟨b,0,none⟩) n n):=by
 intro w' hs;obtain⟨h1,h2,h3⟩:=hS.make e n cs d hm;have hb':=(hs b (sJ hb) hnM).trans hb;have key:∀i j,i < n->j < S.size d->∃u,vs.toList[i*S.size d+j]? =some u/\Lf.plain (S.cell d i j) u/\∀d',S.cell d i j= .dat d'->Ac S w' d' u:=by
  intro i j hi hj;obtain⟨x,hc,hle⟩:=h3 i j hi hj;obtain⟨u,hu,hru⟩:=hr.get _ hc;exact⟨u,hu,Ht (hS.data d i j au hj) (hle.rel hru) hs⟩
 have:=Ac.mk (S:=S) (w:=w') d (hS.ab_ _ _ _ _ hm) (some ⟨b,0,none⟩) n (fun i j=>(vs.toList[i*S.size d+j]?).getD undef) au au
  (fun i j hi hj=>by
   obtain⟨u,hu,_⟩:=key i j au hj;refine⟨_,rfl,?_⟩;simp only[hu,Qc9];rw[lq,BZ];simp[World.cell?,hb',<-hu])
  (fun i j hi hj=>by
   obtain⟨u,hu,hp,_⟩:=key i j au hj;simpa[hu]using hp)
  (fun i j d' hi hj he=>by
   obtain⟨u,hu,_,hd⟩:=key i j au hj;simpa[hu]using hd d' he)
 rwa [h1]at this
theorem sound_row {t:TypeId}{n:Nat}{parts:Array (Nat×Operand)}(hS:jd S)(ho:o.op= .buildSlice t n parts)(hTy:∀t ty,T t=some ty->fU P t ty)(h:Hp S w0 N blk g al w)
  (hs:∀t,(slot t).Rel S (aW N blk g) w g (a.tmps.getD t undef)) (hfr:∀n,fr<=n->n < fr+64->¬al n) (hout:axN T S slot fr t n parts=some out) (hK:Post S w0 N blk g al w fr out o.dst a K):o.wp P a w K Q:=by
 unfold axN at hout;split at hout
 ·cases hout
 ·rename_i ty hty;split at hout
  ·cases hout
  ·rename_i e hel;split at hout
   ·cases hout
   ·rename_i te hte;have hsl:=kY (hTy _ _ hty) hel;have hsz:=kH (hTy _ _ hte) w;obtain⟨z,hz,hzc⟩:=Ap (hTy _ _ hte) w;split at hout
    ·rename_i hc;simp only[jY]at hc;obtain⟨⟨h1,h2⟩,h3⟩:=hc;have h1:=Qa2 h1;have h2:0 < te.size:=by simpa[Gf]using h2
     have h3:=Qa h3;have hzs:z.cells.size=te.size:=by rw[<-h3,<-hzc];simp
     split at hout
     ·rename_i cs hf;split at hout
      ·rename_i d hm;let zs:Array Value:=(Array.range (n*te.size)).map fun k=>z.cells[k % z.cells.size]!
       have hzr:aZ S (aW N blk g) w g ((List.range (n*te.size)).map fun k=>(xG ((te.zero[k % te.size]?).getD (.bool false)):Lf D)) zs.toList:=by
        have:zs.toList=(List.range (n*te.size)).map fun k=>(te.zero[k % te.size]?).getD (.bool false):=by
         simp only[zs,Array.toList_map,Array.toList_range];apply Qbn;intro k _;have hk:k % te.size < z.cells.size:=by rw[hzs];exact Qc5 _ h2
         rw[hzs,<-hzc];simp[hk]
        rw[this];have hz:=rG (S:=S) (M:=aW N blk g) (w:=w) (g:=g) (D:=D) ((List.range (n*te.size)).map fun k=>(te.zero[k % te.size]?).getD (.bool false));rw[Qc2]at hz;exact hz
       obtain⟨vs',hv',hr'⟩:=TE (a:=a) h.refs hs parts.toList _ cs zs hzr hf;have hB:Below w.heap.size w (w.alloc (.cells vs' e)):=(Below.refl w.heap.size w).alloc (lU _) _;obtain⟨hp',hk'⟩:=h.grow hB;have hrun:(execOp a.eval o).run P w= .ok (.value (.slice (some ⟨w.heap.size,0,none⟩) n n)) (w.alloc (.cells vs' e)):=by
        have hmap:parts.toList.map (fun p=>(p.1,a.eval p.2))=(parts.map fun(i,x)=>(i,a.eval x)).toList:=by simp
        rw[hmap]at hv';simp only[execOp,ho,Instr.buildSlice,Sem.run_bind,run_underlying hsl,Result.andThen_ok,hsz];rw[qC au];by_cases hn:n*te.size=0
        ·simp only[hn,if_true,Sem.run_bind,Sem.run_pure,Result.andThen_ok];have e0:zs= #[]:=by simp[zs,hn]
         rw[e0]at hv';simp at hv';simp[hv',newRow,newObj,Sem.run,show Array.range 0= #[]from rfl]
        ·simp only[hn,if_false,Sem.run_bind,Sem.run_pure,Result.andThen_ok,hz];simp only[zs]at hv';simp at hv';simp[hv',newRow,newObj,Sem.run]
       split at hout
       ·injection hout with hout
        subst hout;obtain⟨q1,q2,q3⟩:=hS.make _ _ _ _ hm;have hvl:vs'.toList.length=n*S.size d:=by rw[<-q2,Qbl];exact hr'.length.symm
        obtain⟨g1,g2,g3⟩:=h.add (l:=fr) (bk:= .row e d) (v:= .slice (some ⟨w.heap.size,0,none⟩) n n) hB (hfr fr (lU _) au) (fun b hb=>by simp[d_]at hb;omega)
         (fun M' hk _=>by
          refine⟨⟨fun b hb=> .inl ?_,⟨by rw[q1];have:n*1<=n*te.size:=Qdv n h2;omega,hS.ab_ _ _ _ _ hm⟩⟩,vs'.toList,⟨by rw[q1];exact hvl, .inr ⟨w.heap.size,n,vs',by rw[q1],uN _,heap_alloc_new w _,by omega,?_,by simpa using hvl,?_⟩⟩,fun i j hi hj=> ?_⟩
          ·simp only[d_,KZ]at hb;have:=h.below.size;omega
          ·have:n*1<=n*te.size:=Qdv n h2;simp only[maxLen];omega
          ·rw[q1,<-hvl];exact DT
          ·rw[q1]at hi;obtain⟨x,hc,hle⟩:=q3 i j hi hj;obtain⟨u,hu,hru⟩:=hr'.norm.get _ hc;refine⟨u,hu,hS.data d i j au hj,(hle.rel hru).keep hk (fun l v hl=> ?_)⟩;rw[bK _ _ _ _ qbf];exact hl)
        exact lm hrun (hK _ _ _ g3 g2 (g1.weaken fun n hn=>hn.elim .inl fun e=> .inr ⟨Qdn e.symm,by omega⟩) (upd_same _ _ _))
       injection hout with hout
       subst hout;refine lm hrun (hK _ _ _ (More.refl _) hk' (hp'.weaken fun _ h=> .inl h) ?_);exact alC hS hm (heap_alloc_new w _) (fun hmm=>by have:=h.mlt hmm;omega) (hr'.norm.keep hk' (More.refl _)) (by have:n*1<=n*te.size:=Qdv n h2;omega)
      ·cases hout
     ·cases hout
    ·cases hout
theorem amm {c:Call}{x:Operand}(ho:o.op= .call c)(hc:c.callee= .builtin .len)(hx':c.args.toList=[x])(hTy:∀t ty,T t=some ty->fU P t ty)(h:Hp S w0 N blk g al w)
  (hx:(aH slot x).Rel S (aW N blk g) w g (a.eval x)) (hout:ams S T blk c.argTypes (aH slot x)=some out) (hK:Post S w0 N blk g al w fr out o.dst a K):o.wp P a w K Q:=by
 have hargs:c.args= #[x]:=by rw[<-Io];exact hx'
 unfold ams at hout;split at hout
 ·cases hout
 ·rename_i t ht;split at hout
  ·cases hout
  ·rename_i ty hty;obtain⟨d',hd,hkd⟩:=ny (hTy _ _ hty);split at hout
   ·rename_i d he;rw[he]at hx;split at hout
    ·rename_i hk;have hk:ty.kind=4/\0 < S.size d:=by simpa using hk
     obtain⟨hk,hzz⟩:=hk;obtain⟨av,cap,hv,_⟩:=dA.slice hx hzz;rw[hk]at hkd;cases d'<;>simp[kindOf]at hkd
     injection hout with hout
     subst hout;refine bf (v:= .int .i64 (S.len d)) ?_ h hK rfl rfl;simp[execOp,ho,resolve,hc,invoke,builtin,Builtin.len_,hargs,ht,run_underlying hd,hv,goInt]
    ·cases hout
   ·rename_i s he;rw[he]at hx;simp only[Sl.Rel,Sv.Rel,Lf.Rel]at hx;split at hout
    ·rename_i hk;have hk:ty.kind=3:=by simpa using hk
     rw[hk]at hkd;cases d'<;>simp[kindOf]at hkd
     injection hout with hout
     subst hout;refine bf (v:= .int .i64 s.length) ?_ h hK rfl rfl;have hbs:(ByteArray.mk s.toArray).size=s.length:=by show s.toArray.size=_;simp
     simp[execOp,ho,resolve,hc,invoke,builtin,Builtin.len_,hargs,ht,run_underlying hd,hx,goInt,hbs]
    ·cases hout
   ·rename_i l he;rw[he]at hx;simp only[Sl.Rel,Sv.Rel,Lf.Rel]at hx;split at hout
    ·rename_i e d hb;split at hout
     ·rename_i hk;have hk:ty.kind=4:=by simpa using hk
      rw[hk]at hkd;cases d'<;>simp[kindOf]at hkd
      injection hout with hout
      subst hout;obtain⟨v,hv,_,xs,⟨_,hown⟩,_⟩:=h.dH l _ hb;rw[hx]at hv;injection hv with hv
      have hsl:∃av cap,a.eval x= .slice av (S.len d) cap:=by
       rcases hown with⟨h0,hz⟩ | ⟨b,cap,cur,hv',_⟩
       ·exact⟨none,0,by rw[hv,h0,hz]⟩
       ·exact⟨_,cap,hv.trans hv'⟩
      obtain⟨av,cap,hv'⟩:=hsl;refine bf (v:= .int .i64 (S.len d)) ?_ h hK rfl rfl;simp[execOp,ho,resolve,hc,invoke,builtin,Builtin.len_,hargs,ht,run_underlying hd,hv',goInt]
     ·cases hout
    ·rename_i d hb;split at hout
     ·rename_i hk;have hk:ty.kind=4/\0 < S.size d:=by simpa using hk
      obtain⟨hk,hzz⟩:=hk;rw[hk]at hkd;cases d'<;>simp[kindOf]at hkd
      injection hout with hout
      subst hout;obtain⟨v,hv,hdat⟩:=h.dH l _ hb;rw[hx]at hv;injection hv with hv
      obtain⟨av,cap,hv',_⟩:=dA.slice (show dA S (aW N blk g) w d v from hdat) hzz;rw[hv']at hv;refine bf (v:= .int .i64 (S.len d)) ?_ h hK rfl rfl;simp[execOp,ho,resolve,hc,invoke,builtin,Builtin.len_,hargs,ht,run_underlying hd,hv,goInt]
     ·cases hout
    ·cases hout
   ·rename_i he;rw[he]at hx;simp only[Sl.Rel,Sv.Rel,Lf.Rel]at hx;split at hout
    ·rename_i hk;have hk:ty.kind=4:=by simpa using hk
     rw[hk]at hkd;cases d'<;>simp[kindOf]at hkd
     injection hout with hout
     subst hout;refine bf (v:= .int .i64 0) ?_ h hK rfl rfl;simp[execOp,ho,resolve,hc,invoke,builtin,Builtin.len_,hargs,ht,run_underlying hd,hx,goInt]
    ·cases hout
   ·cases hout
theorem X6 {c:Call}{x y:Operand}{b:Builtin}(hb:b= .min\/b= .max)(ho:o.op= .call c)(hc:c.callee= .builtin b)(hx':c.args.toList=[x,y])(h:Hp S w0 N blk g al w)
  (hx:(aH slot x).Rel S (aW N blk g) w g (a.eval x)) (hy:(aH slot y).Rel S (aW N blk g) w g (a.eval y)) (hout:ayA b (aH slot x) (aH slot y)=some out) (hK:Post S w0 N blk g al w fr out o.dst a K):o.wp P a w K Q:=by
 have hargs:c.args= #[x,y]:=by rw[<-Io];exact hx'
 unfold ayA at hout;split at hout
 ·rename_i k n k' m hex CE;rw[hex]at hx;rw[CE]at hy;simp only[Sl.Rel,Sv.Rel,Lf.Rel]at hx hy;injection hout with hout
  subst hout;refine bf (v:= .int k (min n m)) ?_ h hK rfl rfl;have:(if m < n then m else n)=min n m:=by split<;>omega
  simp[execOp,ho,resolve,hc,invoke,builtin,Builtin.min_,Builtin.min2,hargs,hx,hy,this]
 ·rename_i k n k' m hex CE;rw[hex]at hx;rw[CE]at hy;simp only[Sl.Rel,Sv.Rel,Lf.Rel]at hx hy;injection hout with hout
  subst hout;refine bf (v:= .int k (max n m)) ?_ h hK rfl rfl;have:(if n < m then m else n)=max n m:=by split<;>omega
  simp[execOp,ho,resolve,hc,invoke,builtin,Builtin.max_,Builtin.max2,hargs,hx,hy,this]
 ·cases hout
end
end Go.Vc
namespace Go.Vc
open Go.RowKit
section
variable {D:Type}{P:Program}{S:Sh D}{T:TypeId->Option Ty}{M N:Nat->Prop}{w w':World}{w0:Bs}{g:Nat->Option Value}{blk:Nat->Option (Bk D)}{al:Nat->Prop}
 {a:Act} {o:Oper} {K:Act->World->Prop} {Q:Exit->Act->World->Prop} {slot:Nat->Sl D} {out:Out D} {fr:Nat}
theorem ajA {p:Nat->Value->Prop}:∀(n:Nat),(∀k,k < n->∃u,p k u)->∃l:List Value,l.length=n/\∀k u,l[k]? =some u->p k u
 | 0,_=>⟨[],rfl,fun k u h=>by simp at h⟩
 | n+1,h=>by
  obtain⟨l,hl,hp⟩:=ajA n fun k hk=>h k au
  obtain⟨u,hu⟩:=h n au;refine⟨l++[u],by simp[hl],fun k x hx=> ?_⟩;by_cases hk:k < l.length
  ·rw[Qa9 hk]at hx;exact hp k x hx
  ·rw[Qa6 au]at hx;have hkl:k - l.length=0:=by
    rcases Qcz (k - l.length)with h0 | h0
    ·exact h0
    ·rw[Qc qbo]at hx;cases hx
   rw[hkl]at hx;simp at hx;subst hx;have:k=n:=by omega
   subst this;exact hu
theorem Iu {x:Lf D}{v:Value}(hd:x.jJ=true)(h:x.Rel S M w g v):v.oneCell'=true:=by
 cases x with
 | bool b=>simp only[Lf.Rel]at h;subst h;rfl
 | int k n=>simp only[Lf.Rel]at h;subst h;rfl
 | str s=>obtain⟨rfl,_⟩:=h;rfl
 | dat d=>rcases dA.form h with⟨a,cap,rfl⟩ | ⟨r,rfl⟩<;>rfl
 | Xb x=>obtain⟨rfl,_⟩:=h;cases x<;>rfl
 | _=>simp[Lf.jJ]at hd
theorem pg (v:Value)(h:∃a n c,v= .slice a n c):v.ownBlock=d_ v:=by
 obtain⟨a,n,c,rfl⟩:=h;cases a<;>rfl
theorem IC (hS:jd S){d:D}{v:Value}(h:dA S M w d v)(hz:0 < S.size d):∃(av:Option Addr) (cap:Nat) (news:List Value),v= .slice av (S.len d) cap/\news.length=S.len d*S.size d/\
  (∀ad,av=some ad->∀j u,news[j]? =some u->w.cell? (ad.add j)=some u)/\(av=none->S.len d=0)/\(∀u∈news,u.oneCell'=true)/\
  ∀i j,i < S.len d->j < S.size d->∃u,news[i*S.size d+j]? =some u/\(S.cell d i j).Rel S M w g u:=by
 obtain⟨av,cap,rfl,hcap⟩:=h.slice hz;rcases Qcz (S.len d)with h0 | h0
 ·exact⟨av,cap,[],rfl,by simp[h0],fun _ _ j u hj=>by simp at hj,fun _=>h0,fun u hu=>by simp at hu,fun i j hi=>by omega⟩
 ·obtain⟨ad,rfl⟩:=h.Af h0 hz;obtain⟨l,hl,hp⟩:=ajA (p:=fun k u=>w.cell? (ad.add k)=some u/\(S.cell d (k / S.size d) (k % S.size d)).Rel S M w g u/\k / S.size d < S.len d) (S.len d*S.size d) fun k hk=>by
   have hi:k / S.size d < S.len d:=by rw[Qd4 hz];exact hk
   obtain⟨u,hu,hr⟩:=h.cell (g:=g) hi (Qc5 k hz);have:k / S.size d*S.size d+k % S.size d=k:=by rw[Qcv];exact Nat.div_add_mod k (S.size d)
   rw[this]at hu;exact⟨u,hu,hr,hi⟩
  refine⟨some ad,cap,l,rfl,hl,fun ad' e j u hj=>by injection e with e;subst e;exact(hp j u hj).1,(fun e=>by cases e),fun u hu=> ?_,fun i j hi hj=> ?_⟩
  ·obtain⟨k,hk⟩:=Qd7 hu;obtain⟨_,hr,hi⟩:=hp k u hk;exact Iu (hS.data _ _ _ hi (Qc5 k hz)) hr
  ·have hlt:=nU hi hj;obtain⟨u,hu⟩:∃u,l[i*S.size d+j]? =some u:=⟨_,Wy au⟩;obtain⟨_,hr,_⟩:=hp _ u hu;have h1:(i*S.size d+j) / S.size d=i:=by rw[Qcv,Nat.mul_add_div hz,Nat.div_eq_of_lt hj,MB]
   have h2:(i*S.size d+j) % S.size d=j:=by rw[Qcv,Qe,Qb1 hj]
   rw[h1,h2]at hr;exact⟨u,hu,hr⟩
theorem ao0 (hS:jd S)(h:Hp S w0 N blk g al w){l:Nat}{e:TypeId}{d:D}{v:Value}(hb:blk l=some (.row e d))(hg:g l=some v):∃(av:Option Addr) (cap:Nat) (news:List Value),v= .slice av (S.len d) cap/\news.length=S.len d*S.size d/\
  (∀ad,av=some ad->∀j u,news[j]? =some u->w.cell? (ad.add j)=some u)/\(av=none->S.len d=0)/\(∀u∈news,u.oneCell'=true)/\
  ∀i j,i < S.len d->j < S.size d->∃u,news[i*S.size d+j]? =some u/\(S.cell d i j).Rel S (aW N blk g) w g u:=by
 obtain⟨v',hv',hm,xs,hown,hcell⟩:=h.dH l _ hb;rw[hg]at hv';injection hv' with hv'
 subst hv';have hone:∀u∈xs,u.oneCell'=true:=by
  intro u hu;obtain⟨k,hk⟩:=Qd7 hu;have hkl:k < xs.length:=(Qaz.1 hk).1;rw[hown.1]at hkl;have hz:0 < S.size d:=by
   rcases Qcz (S.size d)with h0 | h0
   ·rw[h0]at hkl;simp at hkl
   ·exact h0
  have hi:k / S.size d < S.len d:=by rw[Qd4 hz];exact hkl
  obtain⟨u',hu',hda,hr⟩:=hcell _ _ hi (Qc5 k hz);have:k / S.size d*S.size d+k % S.size d=k:=by rw[Qcv];exact Nat.div_add_mod k (S.size d)
  rw[this,hk]at hu';injection hu' with hu'
  subst hu';exact Iu hda hr
 rcases hown.2 with⟨h0,hn⟩ | ⟨b,cap,cur,hv,hrest⟩
 ·exact⟨none,0,xs,by rw[h0,hn],hown.1,fun _ e=>by(cases e),fun _=>hn,hone,fun i j hi hj=>by omega⟩
 ·refine⟨_,cap,xs,hv,hown.1,fun ad e j u hj=> ?_,(fun e=>by cases e),hone,fun i j hi hj=> ?_⟩
  ·injection e with e
   subst e;subst hv;exact hown.cells (g:=b) rfl j u hj
  ·obtain⟨u,hu,_,hr⟩:=hcell i j hi hj;exact⟨u,hu,hr⟩
theorem GN (hS:jd S)(h:Hp S w0 N blk g al w){y:Sl D}{v:Value}{d:D}(hy:y.Rel S (aW N blk g) w g v)(hd:Jd blk y=some d)(hz:0 < S.size d):∃(av:Option Addr) (cap:Nat) (news:List Value),v= .slice av (S.len d) cap/\news.length=S.len d*S.size d/\
  (∀ad,av=some ad->∀j u,news[j]? =some u->w.cell? (ad.add j)=some u)/\(av=none->S.len d=0)/\(∀u∈news,u.oneCell'=true)/\
  ∀i j,i < S.len d->j < S.size d->∃u,news[i*S.size d+j]? =some u/\(S.cell d i j).Rel S (aW N blk g) w g u:=by
 unfold Jd at hd;split at hd
 ·injection hd with hd
  subst hd;exact IC hS hy hz
 ·split at hd
  ·rename_i e d' hb;injection hd with hd
   subst hd;exact ao0 hS h hb hy
  ·rename_i d' hb;injection hd with hd
   subst hd;obtain⟨v',hv',hok⟩:=h.dH _ _ hb;have hy:g _=some v:=hy;rw[hy]at hv';injection hv' with hv'
   subst hv';exact IC hS hok hz
  ·cases hd
 ·cases hd
theorem Dk (t ty e:TypeId)(i:TypeInfo)(z:Value)(size bytes:Nat)(ht:P.underlying t=some (.slice e))(hi:P.info? e=some i)(hz:i.zero=some z)
  (hsize:i.size=size) (hby:i.bytes=bytes) (hzs:z.cells.size=size) (hsz:0 < size)
  (v:Value) (n:Nat) (xs:List Value) (hown:w.ownsRow 0 e size v n xs)
  (av:Option Addr) (m c:Nat) (news:List Value) (hl:news.length=m*size) (hnews:∀ad,av=some ad->∀j u,news[j]? =some u->w.cell? (ad.add j)=some u) (hnone:av=none->m=0) (h1:∀u∈news,u.oneCell'=true)
  (h63:n+m<=maxLen) (hbytes:(n+m)*bytes<=140737488355328):
  ∃v' w',(Builtin.append_ #[t,t] ty #[v, .slice av m c]).run P w= .ok v' w'/\w'.ownsRow 0 e size v' (n+m) (xs++news)/\w.grownBy w' v.ownBlock/\(v'.ownBlock=v.ownBlock\/v'.ownBlock=some w.heap.size):=by
 cases av with
 | some ad=>
  obtain⟨v',w',h2,h3,h4,_,h5⟩:=run_append_own_at (P:=P) w 0 t ty e i z size bytes ht hi hz hsize hby hzs hsz v n xs hown ad m c news hl (hnews ad rfl) h1 h63 hbytes (uN _);exact⟨v',w',h2,h3,h4,h5⟩
 | none=>
  obtain rfl:=hnone rfl;obtain rfl:news=[]:=Qda (by simpa using hl);refine⟨v,w,?_,by simpa using hown,⟨rfl,rfl,rfl,lU _,fun _ _ _=>rfl⟩, .inl rfl⟩;rcases hown.2 with⟨rfl,rfl⟩ | ⟨b,cap,cur,rfl,_,hh,hnc,_⟩
  ·simp[Builtin.append_,run_underlying ht,sizeOf,typeInfo,hi,Builtin.lenOf,Builtin.firstCells]
  ·simp[Builtin.append_,run_underlying ht,sizeOf,typeInfo,hi,Builtin.lenOf,Builtin.firstCells,hnc,storeCells]
theorem qR {t:TypeId}{ty:Ty}(h:fU P t ty):∃i z,P.info? t=some i/\i.zero=some z/\i.size=ty.size/\i.bytes=ty.bytes/\z.cells.toList=ty.zero:=by
 obtain⟨i,d,z,lt,hi,hd,hz,rfl⟩:=mF h;exact⟨i,z,hi,hz,rfl,rfl,rfl⟩
theorem TW {al:Nat->Prop}{fr:Nat}:∀n,(al n\/n=fr)->al n\/(fr<=n/\n < fr+64):=fun n hn=>hn.elim .inl fun e=> .inr ⟨Qdn e.symm,by omega⟩
theorem abV {c:Call}{x y:Operand}(hS:jd S)(ho:o.op= .call c)(hc:c.callee= .builtin .append)(hx':c.args.toList=[x,y])(hTy:∀t ty,T t=some ty->fU P t ty)(h:Hp S w0 N blk g al w)(hfr:∀n,fr<=n->n < fr+64->¬al n)
  (hx:(aH slot x).Rel S (aW N blk g) w g (a.eval x)) (hy:(aH slot y).Rel S (aW N blk g) w g (a.eval y)) (hout:Ff T S blk fr c.argTypes (aH slot x) (aH slot y)=some out) (hp:lZ out.pre)
  (hK:Post S w0 N blk g al w fr out o.dst a K):o.wp P a w K Q:=by
 have hargs:c.args= #[x,y]:=by rw[<-Io];exact hx'
 have hmg:∀v',More g (upd g fr (some v')):=fun v' l v hl=>by
  rw[bK _ _ _ _ qbf];exact hl
 unfold Ff at hout;split at hout
 ·rename_i t t' htt;split at hout
  ·rename_i VY;have VY:=Qa VY;subst VY;have hat:c.argTypes= #[t,t]:=by rw[<-Io];exact htt
   split at hout
   ·cases hout
   ·rename_i ty hty;split at hout
    ·cases hout
    ·rename_i e hel;split at hout
     ·cases hout
     ·rename_i te hte;split at hout
      ·cases hout
      ·rename_i d2 hd2;have hsl:=kY (hTy _ _ hty) hel;obtain⟨i,z,hi,hz,q1,q2,q3⟩:=qR (hTy _ _ hte);split at hout
       ·rename_i hcc;simp only[jY]at hcc;have e1:=Qa hcc.1.1;have e2:0 < te.size:=by simpa[Gf]using hcc.1.2
        have e3:=Qa hcc.2;have hzs:z.cells.size=te.size:=by rw[<-e3,<-q3];simp
        obtain⟨av,cap,news,hv2,hl2,hc2,hn2,h12,hcell2⟩:=GN hS h hy hd2 au;have run:∀(v1:Value) (n:Nat) (xs:List Value),a.eval x=v1->w.ownsRow 0 e te.size v1 n xs->bT (n+S.len d2) te.bytes->
          ∃v' w',(execOp a.eval o).run P w= .ok (.value v') w'/\w'.ownsRow 0 e te.size v' (n+S.len d2) (xs++news)/\w.grownBy w' v1.ownBlock/\(v'.ownBlock=v1.ownBlock\/v'.ownBlock=some w.heap.size):=by
         intro v1 n xs hv1 hown hroom;obtain⟨v',w',r1,r2,r3,r4⟩:=Dk (P:=P) (w:=w) t o.type e i z te.size te.bytes hsl hi hz q1 q2 hzs e2 v1 n xs hown av (S.len d2) cap news (by rw[e1];exact hl2) hc2 hn2 h12 (by have:=hroom.1;simp only[maxLen];omega) hroom.2;refine⟨v',w',?_,r2,r3,r4⟩;simp only[execOp,ho,resolve,hc,invoke,builtin,hargs,hat,Sem.run_bind,Sem.run_pure,Result.andThen_ok,Qci,F_,Qcu,hv1,hv2,r1]
        split at hout
        ·rename_i hex;injection hout with hout
         subst hout;rw[hex]at hx;obtain⟨v',w',r1,r2,r3,r4⟩:=run (.slice none 0 0) 0 [] hx (World.ownsRow_nil w 0 e te.size) (by rw[BZ];exact hp);have hB:Below w.heap.size w w':=⟨r3.os,r3.tape,r3.output,r3.size,fun k hk=>r3.block k hk (by simp[Value.ownBlock])⟩;have Ae:∃a n c,v'= .slice a n c:=by rcases r2.2 with⟨rfl,_⟩ | ⟨b,cp,cur,rfl,_⟩<;>exact⟨_,_,_,rfl⟩
         have hpos:∀b,d_ v'=some b->w.heap.size<=b:=by
          intro b hb;rw[pg v' Ae]at r4;rcases r4 with r4 | r4
          ·rw[hb]at r4;simp[Value.ownBlock]at r4
          ·rw[hb]at r4;injection r4 with r4;omega
         obtain⟨g1,g2,g3⟩:=h.add (l:=fr) (bk:= .row e d2) (v:=v') hB (hfr fr (lU _) au) hpos (fun M' hk _=>by
          refine⟨⟨fun b hb=> .inl (Ak h.below.size (hpos b hb)),⟨by have:bT (S.len d2) te.bytes:=hp;have:=this.1;omega,hS.anA au⟩⟩,news,?_,fun i' j hi' hj=> ?_⟩
          ·have:=r2;rw[BZ,Qcc,e1]at this;exact this
          ·obtain⟨u,hu,hr⟩:=hcell2 i' j hi' hj;exact⟨u,hu,hS.data _ _ _ hi' hj,hr.keep hk (hmg _)⟩)
         exact lm r1 (hK _ _ _ g3 g2 (g1.weaken TW) (upd_same _ _ _))
        ·rename_i l hex;rw[hex]at hx;have hx:g l=some (a.eval x):=hx;split at hout
         ·rename_i e' d1 hb;split at hout
          ·rename_i hee;have hee:=Qa hee;subst hee;split at hout
           ·rename_i d FV;injection hout with hout
            subst hout;obtain⟨c1,c2,c3,c4,c5⟩:=hS.cat _ _ _ FV;obtain⟨v1,hv1,hm,xs,hown,hcell⟩:=h.dH l _ hb;rw[hx]at hv1;injection hv1 with hv1
            have es:te.size=S.size d1:=by omega
            rw[<-es]at hown;obtain⟨v',w',r1,r2,r3,r4⟩:=run v1 (S.len d1) xs hv1 hown hp;have hsl1:∃a n c,v1= .slice a n c:=by rcases hown.2 with⟨rfl,_⟩ | ⟨b,cp,cur,rfl,_⟩<;>exact⟨_,_,_,rfl⟩
            have Ae:∃a n c,v'= .slice a n c:=by rcases r2.2 with⟨rfl,_⟩ | ⟨b,cp,cur,rfl,_⟩<;>exact⟨_,_,_,rfl⟩
            rw[pg v' Ae,pg v1 hsl1]at r4;rw[pg v1 hsl1]at r3;obtain⟨g1,g2,g3⟩:=h.move (l:=l) (fr:=fr) (bk':= .row e d) (v:=v1) (v':=v') qch (hv1▸hx) (hfr fr (lU _) au) r3.os r3.tape r3.output r3.size (fun n hn hne=>r3.block n hn fun e=>hne e.symm)
             (fun b hb'=>by
              rcases r4 with r4 | r4
              ·exact .inl (r4▸hb')
              ·rw[hb']at r4;injection r4 with r4;exact .inr au)
             (fun M' hk _=>by
              refine⟨⟨fun b hb'=> ?_,⟨by have:bT (S.len d1+S.len d2) te.bytes:=hp;have:=this.1;omega,hS.V3 _ _ _ ‹_›⟩⟩,xs++news,?_,fun i' j hi' hj=> ?_⟩
              ·rcases r4 with r4 | r4
               ·exact hm.1 b (r4▸hb')
               ·rw[hb']at r4;injection r4 with r4;exact .inl (r4▸h.below.size)
              ·have:=r2;rw[show te.size=S.size d by omega,<-c3]at this;exact this
              ·rw[c3]at hi';have hxl:xs.length=S.len d1*S.size d:=by rw[hown.1];congr 1;omega
               by_cases hlt:i' < S.len d1
               ·obtain⟨u,hu,hda,hr⟩:=hcell i' j hlt au;rw[c4 i' j hlt];refine⟨u,?_,hda,hr.keep hk (hmg _)⟩;rw[Qa9 (by rw[hxl];exact nU hlt hj),<-hu,c1]
               ·obtain⟨k,rfl⟩:∃k,i'=S.len d1+k:=⟨i' - S.len d1,by omega⟩;obtain⟨u,hu,hr⟩:=hcell2 k j au au;rw[c5 k j au];refine⟨u,?_,hS.data _ _ _ au au,hr.keep hk (hmg _)⟩;rw[Qa6 (by rw[hxl,QX];omega),<-hu,hxl,QX,c2];congr 1;omega)
            exact lm r1 (hK _ _ _ g3 g2 (g1.weaken TW) (upd_same _ _ _))
           ·cases hout
          ·cases hout
         ·cases hout
        ·cases hout
       ·cases hout
  ·cases hout
 ·cases hout
theorem adA {t:TypeId}{x ix:Operand}(ho:o.op= .index t x ix)(hTy:∀t ty,T t=some ty->fU P t ty)(h:Hp S w0 N blk g al w)(hx:(aH slot x).Rel S (aW N blk g) w g (a.eval x))
  (hi:(aH slot ix).Rel S (aW N blk g) w g (a.eval ix)) (hout:afn T t (aH slot x) (aH slot ix)=some out) (hp:lZ out.pre) (hK:Post S w0 N blk g al w fr out o.dst a K):o.wp P a w K Q:=by
 unfold afn at hout;split at hout
 ·cases hout
 ·rename_i ty hty;split at hout
  ·rename_i s k n hex hei;rw[hex]at hx;rw[hei]at hi;simp only[Sl.Rel,Sv.Rel,Lf.Rel]at hx hi;obtain⟨hx,hxl⟩:=hx;split at hout
   ·rename_i hk;obtain⟨d,hd,hkd⟩:=ny (hTy _ _ hty);have hk:ty.kind=3:=by simpa using hk
    rw[hk]at hkd;have hd:P.underlying t=some .string:=by cases d<;>simp_all [kindOf]
    injection hout with hout
    subst hout;obtain⟨p1,p2⟩:=hp;have hlt:n.toNat < s.length:=by omega
    refine bf (v:= .int .u8 ((s.getD n.toNat 0).toNat:Nat)) ?_ h hK rfl rfl;have hget:(ByteArray.mk s.toArray)[n.toNat]? =some (s.getD n.toNat 0):=by
     have hsz:n.toNat < (ByteArray.mk s.toArray).size:=by show n.toNat < s.toArray.size;simpa using hlt
     rw[getElem?_pos (ByteArray.mk s.toArray) n.toNat hsz];congr 1;show s.toArray[n.toNat]=_
     simp[List.getD,hlt]
    simp[execOp,ho,Instr.index,hi,asIntOf,run_underlying hd,hx,p1,hget]
   ·cases hout
  ·cases hout
theorem XY {k k':IntKind}(h:alq (rV k)=some k'):k=k':=by cases k<;>simp[rV,alq]at h<;>exact h
theorem agD {t dst:TypeId}{x:Operand}(ho:o.op= .convert t dst x)(hTy:∀t ty,T t=some ty->fU P t ty)(h:Hp S w0 N blk g al w)(hx:(aH slot x).Rel S (aW N blk g) w g (a.eval x))
  (hout:aqp T t dst (aH slot x)=some out) (hp:lZ out.pre) (hK:Post S w0 N blk g al w fr out o.dst a K):o.wp P a w K Q:=by
 unfold aqp at hout;split at hout
 ·rename_i tys ty k0 n Px hty hex;rw[hex]at hx;simp only[Sl.Rel,Sv.Rel,Lf.Rel]at hx;split at hout
  ·rename_i k hk;injection hout with hout
   subst hout;obtain⟨d,hd,hkd⟩:=ny (hTy _ _ hty);obtain⟨d0,hd0,_⟩:=ny (hTy _ _ Px);have hd:P.underlying dst=some (.int k):=by
    rw[<-hkd]at hk;cases d<;>simp[kindOf,alq]at hk
    rw[hd,XY hk]
   refine bf (v:= .int k (dD k n)) ?_ h hK rfl rfl;simp[execOp,ho,convert,run_underlying hd0,run_underlying hd,hx,Conv.intToInt,dD]
  ·cases hout
 ·cases hout
theorem aiU (hs:∀t,(slot t).Rel S (aW N blk g) w g (a.tmps.getD t undef)):∀(xs:List Operand) (ls:List Nat),DU slot xs=some ls->ls.map g=(xs.map a.eval).map some
 | [],ls,h=>by simp[DU]at h;subst h;rfl
 | x::r,ls,h=>by
  unfold DU at h;split at h
  ·rename_i l ls' hx hr;injection h with h
   subst h;have:=oG hs x;rw[hx]at this;obtain⟨b,hg,hv⟩:=this;simp only[F_,aiU hs r ls' hr,hv,hg]
  ·cases h
theorem agK {t:TypeId}{x y:Operand}(hS:jd S)(ho:o.op= .makeSlice t x y)(hTy:∀t ty,T t=some ty->fU P t ty)(h:Hp S w0 N blk g al w)(hfr:∀n,fr<=n->n < fr+64->¬al n)(hx:(aH slot x).Rel S (aW N blk g) w g (a.eval x))
  (hy:(aH slot y).Rel S (aW N blk g) w g (a.eval y)) (hout:asF T S fr t (aH slot x) (aH slot y)=some out) (hp:lZ out.pre) (hK:Post S w0 N blk g al w fr out o.dst a K):o.wp P a w K Q:=by
 unfold asF at hout;split at hout
 ·cases hout
 ·rename_i ty hty;split at hout
  ·cases hout
  ·rename_i e hel;split at hout
   ·cases hout
   ·rename_i te hte;have hsl:=kY (hTy _ _ hty) hel;obtain⟨i,z,hi,hz,q1,q2,q3⟩:=qR (hTy _ _ hte);split at hout
    ·rename_i k n k' m hex CE;rw[hex]at hx;rw[CE]at hy;simp only[Sl.Rel,Sv.Rel,Lf.Rel]at hx hy;split at hout
     ·rename_i hc;simp only[jY]at hc;have e2:0 < te.size:=by simpa[Gf]using hc.1
      have e3:=Qa hc.2;have hzs:z.cells.size=te.size:=by rw[<-e3,<-q3];simp
      split at hout
      ·rename_i d hd;injection hout with hout
       subst hout;obtain⟨rfl,p1,p2,p3⟩:=hp;obtain⟨z1,z2,z3⟩:=hS.zero _ _ _ _ hd;have hsd:S.size d=te.size:=by rw[<-z2,Qbl,e3]
       have hrun:=run_make (P:=P) w t e i z hsl hi hz k k' n n p1 (PE _) (by rw[q2,Int.mul_comm];exact p2) au;have hrun':(execOp a.eval o).run P w= .ok (.value (.slice (some ⟨w.heap.size,0,none⟩) n.toNat n.toNat)) (w.alloc (.cells (madeCells z.cells (n.toNat*i.size)) e)):=by
        simp only[execOp,ho,hx,hy,Sem.run_bind,hrun,Result.andThen_ok,Sem.run_pure]
       have hB:Below w.heap.size w (w.alloc (.cells (madeCells z.cells (n.toNat*i.size)) e)):=(Below.refl w.heap.size w).alloc (lU _) _;obtain⟨g1,g2,g3⟩:=h.add (l:=fr) (bk:= .row e d) (v:= .slice (some ⟨w.heap.size,0,none⟩) n.toNat n.toNat) hB (hfr fr (lU _) au) (fun b hb=>by simp[d_]at hb;omega)
        (fun M' hk _=>by
         refine⟨⟨fun b hb=> .inl ?_,by rw[z1];omega,hS.aca _ _ _ _ hd⟩,(madeCells z.cells (n.toNat*i.size)).toList,⟨?_, .inr ⟨w.heap.size,n.toNat,_,by rw[z1],uN _,heap_alloc_new w _,by omega,by simp only[maxLen];omega,?_,?_⟩⟩,fun i' j hi' hj=> ?_⟩
         ·simp only[d_,KZ]at hb;have:=h.below.size;omega
         ·rw[O5,size_madeCells,z1,hsd,q1]
         ·rw[size_madeCells,hsd,q1]
         ·rw[Qb0];rw[O5,size_madeCells,z1,hsd,q1];exact lU _
         ·rw[z1]at hi';obtain⟨x0,hx0,hle⟩:=z3 i' j hi' hj;have hlt:=nU hi' hj;have hjz:j < z.cells.size:=by omega
          have hmod:(i'*S.size d+j) % z.cells.size=j:=by rw[hzs,<-hsd,Qcv,Qe,Qb1 hj]
          refine⟨z.cells[j],?_,hS.data _ _ _ au hj,hle.rel ?_⟩
          ·have hlt':i'*S.size d+j < n.toNat*i.size:=by rw[q1,<-hsd];exact hlt
           simp[madeCells,hlt',hmod,hjz]
          ·have hzj:te.zero[j]? =some z.cells[j]:=by rw[<-q3];simp[hjz]
           simp only[Qbb,hzj,GZ,KZ]at hx0;rw[<-hx0];exact(zZ _).norm)
       exact lm hrun' (hK _ _ _ g3 g2 (g1.weaken TW) (upd_same _ _ _))
      ·cases hout
     ·cases hout
    ·cases hout
end
end Go.Vc
