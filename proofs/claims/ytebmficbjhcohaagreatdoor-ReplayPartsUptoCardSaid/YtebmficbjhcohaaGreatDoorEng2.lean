/- Own engine: Vd4, Vd5, Vd6, Vd7, Vdf. -/
import Derived.Test.YtebmficbjhcohaaGreatDoorEng1
import Derived.WalkSpells
import Derived.Maps.AppendAt
import Derived.Laws.MakeOwn
set_option linter.unusedVariables false
set_option linter.unusedSimpArgs false
namespace Go.Vc
open Go.RowKit
def kw {a:Type}:(Nat->a)->List (Nat×a)->(Nat->a)
 | f,[]=>f
 | f,(k,v)::r=>kw (upd f k v) r
def aEq {D:Type}:Dl D->Option Pv
 | .bool b=>some (.bool b)
 | .int k n=>some (.int k n)
 | .str s=>some (.str s)
 | _=>none
def NP {D:Type}:List (Dl D)->Option (List Pv)
 | []=>some []
 | x::b=>(match aEq x,NP b with
  | some p,some a=>some (p::a)
  | _,_=>none)
def Lf.Le {D:Type}(S:Sh D)(x y:Lf D):Prop:=x=y\/(x= .val (.slice none 0 0)/\∃d,y= .dat d/\S.len d=0/\S.mp d=none)\/(∃b,x= .val (.bool b)/\y= .bool b)\/(∃t c a e,x= .xt (.ifd t c a)/\y= .O_ (some ⟨t,c,e⟩)/\NP a=some e)\/∃d,x= .xt (.clip d)/\y= .dat d
structure iL {D:Type}(S:Sh D):Prop where
 make:∀e n cs d,S.make e n cs=some d->S.len d=n/\cs.length=n*S.size d/\
  ∀i j,i < n->j < S.size d->∃x,cs[i*S.size d+j]? =some x/\x.Le S (S.cell d i j)
 data:∀d i j,i < S.len d->j < S.size d->(S.cell d i j).jE=true
 zero:∀e n zs d,S.zero e n zs=some d->S.len d=n/\zs.length=S.size d/\∀i j,i < n->j < S.size d->∃x,zs[j]? =some x/\x.Le S (S.cell d i j)
 set:∀d i j xs d',S.set d i j xs=some d'->i < S.len d->S.size d'=S.size d/\S.len d'=S.len d/\
  ∀i' j',i' < S.len d->j' < S.size d->(i'=i/\j<=j'/\j' < j+xs.length->∃x,xs[j' - j]? =some x/\x.Le S (S.cell d' i' j'))/\(¬(i'=i/\j<=j'/\j' < j+xs.length)->S.cell d' i' j'=S.cell d i' j')
 cat:∀d1 d2 d,S.cat d1 d2=some d->S.size d1=S.size d/\S.size d2=S.size d/\S.len d=S.len d1+S.len d2/\
  (∀i j,i < S.len d1->S.cell d i j=S.cell d1 i j)/\∀i j,i < S.len d2->S.cell d (S.len d1+i) j=S.cell d2 i j
 sub:∀d i j d',S.sub d i j=some d'->i<=j->j<=S.len d->S.size d'=S.size d/\S.len d'=j - i/\∀k c,k < j - i->S.cell d' k c=S.cell d (i+k) c
 text:∀e s d,S.text e s=some d->S.size d=1/\S.len d=s.length/\∀i,i < s.length->S.cell d i 0= .int .u8 (s.getD i 0).toNat
 Wv:∀e n cs d,S.make e n cs=some d->S.mp d=none
 Wx:∀e n zs d,S.zero e n zs=some d->S.mp d=none
 aBS:∀d i j xs d',S.set d i j xs=some d'->S.mp d=none->S.mp d'=none
 Wu:∀d1 d2 d,S.cat d1 d2=some d->S.mp d=none
 Et:∀d i j d',S.sub d i j=some d'->S.mp d=none/\S.mp d'=none
 aFW:∀e s d,S.text e s=some d->S.mp d=none
 xn:∀d m,S.mp d=some m->S.len d=0/\S.size d=0/\azC S m
 avK:∀t d,S.aoi t=some d->∃m,S.mp d=some m/\m.kvs=[]
 aFV:∀i d,S.KR i=some d->S.mp d=none
theorem iL.aoj {D:Type}{S:Sh D}(h:iL S){d:D}(b:0 < S.size d):S.mp d=none:=by
 cases a:S.mp d with
 | none=>rfl
 | some m=>have:=(h.xn d m a).2.1;omega
def g_ {D:Type}(S:Sh D)(M:Nat->Prop)(w:World)(g:Nat->Option Value):List (Sl D)->List Value->Prop
 | [],[]=>True
 | x::b,v::a=>x.Rel S M w g v/\g_ S M w g b a
 | _,_=>False
def noG:Nat->Option Value:=fun _=>none
def jT {D:Type}(a:List (Bk D)):Nat->Option (Bk D):=fun i=>a[i]?
structure dJ {D:Type}(P:Program)(S:Sh D)(f:FuncId)(ct:Ct D):Prop where
 enters:∀(args:Array Value) (w:World),(callFunc f args).run P w= .ok (.enter f args) w
 calls:∀(X N:Nat->Prop) (g:Nat->Option Value) (w:World) (args:List Value) (lq:List (Sl D)) (dn:List (Bk D)) (p:Option DP) (r:Sl D) (post:List (Nat×Bk D)) (keep:List Nat),
  Hp S ⟨w,X⟩ N (jT dn) g (· < dn.length) w->g_ S (aV N (jT dn) g) w g lq args->ct lq dn=some (p,r,post,keep)->lY p->
  Calls P f args.toArray w fun e w'=>∃v g',e= .returned v/\More g g'/\Hp S ⟨w,X⟩ N (rC post keep dn) g' (fun _=>True) w'/\r.Rel S (aV N (rC post keep dn) g') w' g' v
section
variable {D:Type}{P:Program}{S:Sh D}{T:TypeId->Option Ty}{M N:Nat->Prop}{w w':World}{w0:Bs}{g:Nat->Option Value}{blk:Nat->Option (Bk D)}{al:Nat->Prop}
 {a:Act} {o:Oper} {K:Act->World->Prop} {Q:Exit->Act->World->Prop} {slot:Nat->Sl D} {out:Out D} {fr:Nat}
def Post (S:Sh D)(f:Bs)(N:Nat->Prop)(c:Nat->Option (Bk D))(g:Nat->Option Value)(h:Nat->Prop)(w:World)(e:Nat)(b:Out D)(d:Option Tmp)(a:Act)(K:Act->World->Prop):Prop:=
 ∀v w' g',More g g'->Keeps (aV N c g) w (aV N (kw c b.blks) g') w'->Hp S f N (kw c b.blks) g' (fun n=>h n\/(e<=n/\n < e+64)) w'->
  b.val.Rel S (aV N (kw c b.blks) g') w' g' v->K (a.put d v) w'
theorem Hp.weaken {a:Nat->Prop}(h:Hp S w0 N blk g al w)(b:∀n,al n->a n):Hp S w0 N blk g a w:=⟨h.below,h.hN,h.dn,h.sep,fun l v c=>b l (h.al l v c),h.refs,h.gl⟩
theorem kJ {v:Value}(c:(execOp a.eval o).run P w= .ok (.value v) w')(b:K (a.put o.dst v) w'):o.wp P a w K Q:=by
 simp only[Oper.wp,c,Oper.upon_value];exact b
theorem JG (c:(execOp a.eval o).run P w= .ok .skip w')(b:K (a.put o.dst undef) w'):o.wp P a w K Q:=by
 simp only[Oper.wp,c,Oper.upon_skip];exact b
theorem amz {v:Value}(h:Hp S w0 N blk g al w)(c:Post S w0 N blk g al w fr out o.dst a K)(b:out.blks=[])(d:out.val.Rel S (aV N blk g) w g v):K (a.put o.dst v) w:=by
 refine c v w g (More.refl _) ?_ ?_ ?_<;>rw[b]
 ·exact Keeps.refl _ _
 ·exact h.weaken fun _ h=> .inl h
 ·exact d
theorem bf {v:Value}(e:(execOp a.eval o).run P w= .ok (.value v) w)(h:Hp S w0 N blk g al w)(d:Post S w0 N blk g al w fr out o.dst a K)(c:out.blks=[])
  (b:out.val.Rel S (aV N blk g) w g v):o.wp P a w K Q:=kJ e (amz h d c b)
theorem zV (v:Value):(xx v:Lf D).Rel S M w g v:=by
 cases v with
 | string s=>
  show(if s.data.size.ble 9223372036854775807=true then Lf.str s.data.toList else Lf.val (Value.string s):Lf D).Rel S M w g _
  split
  ·rename_i h;cases s;exact⟨by simp,by simpa using U5 h⟩
  ·rfl
 | nilIface=>exact⟨rfl,trivial⟩
 | _=>rfl
theorem EP {x:Sl D}{v:Value}{b:Bool}(h:bOf x=some b)(a:x.Rel S M w g v):v= .bool b:=by
 unfold bOf at h;split at h
 ·injection h with h;subst h;exact a
 ·injection h with h;subst h;exact a
 ·cases h
theorem Lf.Rel.norm {x:Lf D}{v:Value}(h:x.Rel S M w g v):x.norm.Rel S M w g v:=by
 unfold Lf.norm;split
 ·exact h
 ·exact h
theorem aZ.norm:∀{b:List (Lf D)} {a:List Value},aZ S M w g b a->aZ S M w g (b.map Lf.norm) a
 | [],[],_=>trivial
 | _::_,_::_,h=>⟨h.1.norm,aZ.norm h.2⟩
theorem Sv.Rel.norm {x:Sv D}{v:Value}(h:x.Rel S M w g v):x.norm.Rel S M w g v:=by
 cases x with
 | lf x=>exact Lf.Rel.norm h
 | agg d=>obtain⟨a,c,b⟩:=h;exact⟨a,c,b.norm⟩
theorem iF.norm:∀{b:List (Sv D)} {a:List Value},iF S M w g b a->iF S M w g (b.map Sv.norm) a
 | [],[],_=>trivial
 | _::_,_::_,h=>⟨h.1.norm,iF.norm h.2⟩
theorem Sl.Rel.norm {x:Sl D}{v:Value}(h:x.Rel S M w g v):x.norm.Rel S M w g v:=by
 cases x with
 | one x=>exact Sv.Rel.norm h
 | sO d=>obtain⟨a,c,b⟩:=h;exact⟨a,c,b.norm⟩
theorem g_.norm:∀{b:List (Sl D)} {a:List Value},g_ S M w g b a->g_ S M w g (b.map Sl.norm) a
 | [],[],_=>trivial
 | _::_,_::_,h=>⟨h.1.norm,g_.norm h.2⟩
theorem qY:∀(a:List Value),aZ S M w g (a.map (xx:Value->Lf D)) a
 | []=>trivial
 | v::a=>⟨zV v,qY a⟩
theorem anB (v:Value):(aAe v:Sl D).Rel S M w g v:=by
 cases v with
 | agg cs=>exact⟨cs.toList,by simp,qY _⟩
 | string s=>exact zV (.string s)
 | nilIface=>exact⟨rfl,trivial⟩
 | _=>rfl
theorem oz (b:∀t,(slot t).Rel S M w g (a.tmps.getD t undef))(x:Operand):(aB slot x).Rel S M w g (a.eval x):=by
 cases x with
 | tmp t=>exact b t
 | const v=>exact anB v
 | global n=>trivial
 | func f=>exact⟨[],rfl,rfl⟩
theorem Ll (c:∀t,(slot t).Rel S M w g (a.tmps.getD t undef)):∀(b:List Operand),g_ S M w g (b.map (aB slot)) (b.map a.eval)
 | []=>trivial
 | x::b=>⟨oz c x,Ll c b⟩
theorem mD {t:TypeId}{a:Ty}(h:fB P t a):∃i d z j,P.info? t=some i/\P.underlying t=some d/\i.zero=some z/\
  a=⟨kindOf d,Gs P t,i.size,i.bytes,z.cells.toList,Lt P d,afq d,acW P t d,j,auD d,yV z,ai3 d⟩:=by
 unfold fB anx at h;split at h
 ·rename_i i d g s;split at h
  ·rename_i z q;injection h with h
   refine⟨i,d,z,a.lit,g,s,q,?_⟩;cases a;simp only[Ty.mk.injEq]at h⊢;obtain⟨p,k,r,n,e,f,m,l,_,o,b,c⟩:=h;exact⟨p.symm,k.symm,r.symm,n.symm,e.symm,f.symm,m.symm,l.symm,trivial,o.symm,b.symm,c.symm⟩
  ·cases h
 ·cases h
theorem wz {t:TypeId}{b:Ty}(h:fB P t b)(w:World):(isAgg t).run P w= .ok b.agg w:=by
 obtain⟨i,d,z,f,e,a,c,rfl⟩:=mD h;simp only[isAgg,Sem.run_bind,run_underlying a,Result.andThen_ok,Gs,a];cases d<;>rfl
theorem kU {t:TypeId}{a:Ty}(h:fB P t a)(w:World):(sizeOf t).run P w= .ok a.size w:=by
 obtain⟨i,d,z,e,b,f,c,rfl⟩:=mD h;simp[sizeOf,typeInfo,b]
theorem A7 {t:TypeId}{a:Ty}(h:fB P t a)(w:World):∃z,(zeroValue t).run P w= .ok z w/\z.cells.toList=a.zero:=by
 obtain⟨i,d,z,e,c,f,b,rfl⟩:=mD h;exact⟨z,by simp[zeroValue,typeInfo,c,b],rfl⟩
theorem kG {t e:TypeId}{b:Ty}(h:fB P t b)(a:b.elem=some e):P.underlying t=some (.slice e):=by
 obtain⟨i,d,z,j,g,c,f,rfl⟩:=mD h;cases d<;>simp[afq]at a
 subst a;exact c
theorem aDA {t e:TypeId}{n:Nat}{b:Ty}(h:fB P t b)(a:b.arr=some (e,n)):P.underlying t=some (.array n e):=by
 obtain⟨i,d,z,j,g,c,f,rfl⟩:=mD h;cases d<;>simp[auD]at a
 obtain⟨rfl,rfl⟩:=a;exact c
theorem agG {t:TypeId}{a:Ty}(h:fB P t a)(w:World):∃z,(zeroValue t).run P w= .ok z w/\z.cells.toList=a.zero/\yV z=a.zag:=by
 obtain⟨i,d,z,e,c,f,b,rfl⟩:=mD h;exact⟨z,by simp[zeroValue,typeInfo,c,b],rfl,rfl⟩
theorem ni {t:TypeId}{a:Ty}(h:fB P t a):∃d,P.underlying t=some d/\kindOf d=a.kind:=by
 obtain⟨i,d,z,f,e,b,c,rfl⟩:=mD h;exact⟨d,b,rfl⟩
theorem I8 {t:TypeId}{k:Ty}{f c j:Nat}{g:Bool}(h:fB P t k)(e:k.aiA[f]? =some (c,j,g)):
  ∃b a,P.underlying t=some (.struct b)/\b[f]? =some a/\a.offset=c/\cellsIn P a.type=j/\Gs P a.type=g:=by
 obtain⟨i,d,z,r,q,p,s,rfl⟩:=mD h;cases d with
 | struct b=>
  simp only[Lt,Qbf,Qca,WB]at e;obtain⟨a,n,l,o,m⟩:=e;exact⟨b,a,p,by simpa using n,l,o,m⟩
 | _=>simp[Lt]at e
theorem qx {t:TypeId}{n:Nat}(h:cellsIn P t=n)(b:n≠0)(w:World):(sizeOf t).run P w= .ok n w:=by
 unfold cellsIn at h;split at h
 ·unfold Program.cellsOf at h;cases a:P.info? t with
  | none=>rw[a]at h;simp at h;exact absurd h.symm b
  | some i=>rw[a]at h;simp at h;simp[sizeOf,typeInfo,a,h]
 ·exact absurd h.symm b
theorem aqC {t:TypeId}{n:Nat}(h:cellsIn P t=n)(c:n≠0)(w:World):(isAgg t).run P w= .ok (Gs P t) w:=by
 unfold cellsIn at h;split at h
 ·rename_i b;obtain⟨d,a⟩:=Qbs.1 b;simp only[isAgg,Sem.run_bind,run_underlying a,Result.andThen_ok,Gs,a];cases d<;>rfl
 ·exact absurd h.symm c
theorem run_loadCells (c:Addr):∀(b:List Value) (i:Nat) (a:Array Value),(∀k u,b[k]? =some u->w.cell? (c.add (i+k))=some u)->
  (loadCellsFrom c i b.length a).run P w= .ok (a++b.toArray) w
 | [],i,a,_=>by simp[loadCellsFrom]
 | v::b,i,a,h=>by
  have d:=h 0 v rfl;simp only[Pj]at d;have e:=run_loadCells c b (i+1) (a.push v) fun k u f=>by
   have:=h (k+1) u (by simpa using f);rwa [show i+(k+1)=i+1+k by omega]at this
  simp only[AB,loadCellsFrom,Sem.run_bind,load];simp only[Sem.run,d,Result.andThen_ok];rw[e];congr 1;simp
theorem lM (b o n:Nat):(⟨b,o,none⟩:Addr).add n=⟨b,o+n,none⟩:=by
 unfold Addr.add;split
 ·subst_vars;rfl
 ·rfl
theorem add_add' (a:Addr)(i j:Nat):(a.add i).add j=a.add (i+j):=by
 unfold Addr.add;by_cases b:i=0<;>by_cases c:j=0<;>simp[b,c,Qdl]
theorem cell_of {b:Nat}{a:List Value}{t:TypeId}(h:w.heap[b]? =some (.cells a.toArray t (0,0)))(i:Nat):w.cell? ⟨b,i,none⟩=a[i]? :=by
 simp[World.cell?,h]
def one':Value->Bool
 | .agg _ | .tuple _=>false
 | _=>true
theorem lF (b t:Nat):∀(d:List Value) (w:World) (a:List Value) (o i:Nat),w.heap[b]? =some (.cells a.toArray t (0,0))->o+i+d.length<=a.length->d.all one'=true->
  ∃c,(storeCells ⟨b,o,none⟩ d i).run P w= .ok () c/\c.heap[b]? =some (.cells (a.take (o+i)++(d++a.drop (o+i+d.length))).toArray t (0,0))/\
   (∀n,n≠b->c.heap[n]? =w.heap[n]?)/\c.heap.size=w.heap.size/\c.os=w.os/\c.tape=w.tape/\c.output=w.output
 | [],w,a,o,i,h,_,_=>⟨w,by simp[storeCells],by simpa using h,fun _ _=>rfl,rfl,rfl,rfl,rfl⟩
 | u::d,w,a,o,i,h,l,j=>by
  simp only[Qci,iT]at j;simp only[AB]at l;have hi:o+i < a.length:=by omega
  have A:w.cell? ⟨b,o+i,none⟩=some a[o+i]:=by rw[cell_of h];simp[hi]
  have y:w.frozen? ⟨b,o+i,none⟩=false:=by simp[World.frozen?,h]
  have k:(w.setCell ⟨b,o+i,none⟩ u).heap[b]? =some (.cells (a.set (o+i) u).toArray t (0,0)):=by
   simp[World.setCell,Qcc,h]
  obtain⟨c,q,r,m,s,v,z,x⟩:=lF b t d (w.setCell ⟨b,o+i,none⟩ u) (a.set (o+i) u) o (i+1) k qbt j.2;refine⟨c,?_,?_,fun n f=>(m n f).trans ?_,s.trans (by simp[World.setCell]),v,z,x⟩
  ·simp only[storeCells,Sem.run_bind,store,lM];have g:(Sem.store Mode.plain ⟨b,o+i,none⟩ u (Sem.pure ())).run P w= .ok () (w.setCell ⟨b,o+i,none⟩ u):=by
    cases u<;>first | (simp[one']at j;done) | simp[Sem.run,A,y]
   rw[g,Result.andThen_ok];exact q
  ·rw[r];congr 2;have p:(a.set (o+i) u).take (o+(i+1))=a.take (o+i)++[u]:=by
    rw[show o+(i+1)=(o+i)+1 by omega,Qbr qct,Qeb,List.set_eq_of_length_le qbt];simp
   have B:(a.set (o+i) u).drop (o+(i+1)+d.length)=a.drop (o+i+(u::d).length):=by
    rw[Qdc au];congr 1;simp;omega
   rw[p,B];simp
  ·simp only[World.setCell,Qcc];rw[lW fun e=>f e.symm]
end
end Go.Vc
namespace Go.Vc
open Go.RowKit
section
variable {D:Type}{P:Program}{S:Sh D}{T:TypeId->Option Ty}{M N:Nat->Prop}{w w':World}{w0:Bs}{g:Nat->Option Value}{blk:Nat->Option (Bk D)}{al:Nat->Prop}
 {a:Act} {o:Oper} {K:Act->World->Prop} {Q:Exit->Act->World->Prop} {slot:Nat->Sl D} {out:Out D} {fr:Nat}
theorem IA {x:Lf D}{v:Value}(m:∀l u,g l=some u->isRef u=true)(q:x.storable=true)(h:x.Rel S M w g v):one' v=true:=by
 cases x with
 | any=>simp[Lf.storable]at q
 | val u=>simp only[Lf.Rel]at h;subst h;cases v<;>first | rfl | simp[Lf.storable]at q
 | bool b=>simp only[Lf.Rel]at h;subst h;rfl
 | int k n=>simp only[Lf.Rel]at h;subst h;rfl
 | str s=>obtain⟨rfl,_⟩:=h;rfl
 | ptr l o=>obtain⟨b,_,rfl⟩:=h;rfl
 | dat d=>rcases dD.form h with⟨a,c,rfl⟩ | ⟨r,rfl⟩<;>rfl
 | elt d i j=>obtain⟨a,n,c,_,_,rfl⟩:=h;rfl
 | fn f y=>obtain⟨z,rfl,_⟩:=h;rfl
 | own l=>have:=m l v h;cases v<;>first | rfl | simp[isRef]at this
 | opt l i j t=>obtain⟨b,n,c,_,rfl⟩:=h;rfl
 | unk p=>obtain⟨b,rfl,_⟩:=h;rfl
 | part l i j t f=>obtain⟨a,n,c,_,rfl,_⟩:=h;rfl
 | glb i=>simp only[Lf.Rel]at h;subst h;rfl
 | O_ x=>obtain⟨rfl,_⟩:=h;cases x<;>rfl
 | xt e=>cases e<;>(obtain⟨u,rfl,_⟩:=h;rfl)
theorem qZ {u:Sv D}{v:Value}(a:∀l u,g l=some u->isRef u=true)(b:u.whole=true)(h:u.Rel S M w g v):aZ S M w g u.cells v.cells.toList:=by
 cases u with
 | lf x=>
  have c:=IA a b h;have:v.cells= #[v]:=by cases v<;>first | rfl | simp[one']at c
  rw[this];exact⟨h,trivial⟩
 | agg f=>obtain⟨e,rfl,d⟩:=h;simpa[Sv.cells,Value.cells]using d
theorem kF (a:∀l u,g l=some u->isRef u=true):∀{d:List (Lf D)} {b:List Value},d.all Lf.storable=true->aZ S M w g d b->b.all one'=true
 | [],[],_,_=>rfl
 | x::d,v::b,c,h=>by
  simp only[Qci,iT]at c⊢;exact⟨IA a c.1 h.1,kF a c.2 h.2⟩
theorem AO {u:Sv D}(h:u.cells.all Lf.storable=true):u.whole=true:=by
 cases u with
 | lf x=>simpa[Sv.cells,Sv.whole]using h
 | agg a=>rfl
theorem aZ.append:∀{c d:List (Lf D)} {a b:List Value},aZ S M w g c a->aZ S M w g d b->aZ S M w g (c++d) (a++b)
 | [],_,[],_,_,h=>h
 | _::_,_,_::_,_,h,e=>⟨h.1,aZ.append h.2 e⟩
theorem aZ.take:∀(n:Nat) {b:List (Lf D)} {a:List Value},aZ S M w g b a->aZ S M w g (b.take n) (a.take n)
 | 0,_,_,_=>by simp[aZ]
 | _+1,[],[],_=>by simp[aZ]
 | n+1,_::_,_::_,h=>⟨h.1,aZ.take n h.2⟩
theorem aZ.drop:∀(n:Nat) {b:List (Lf D)} {a:List Value},aZ S M w g b a->aZ S M w g (b.drop n) (a.drop n)
 | 0,_,_,h=>by simpa using h
 | _+1,[],[],_=>by simp[aZ]
 | n+1,_::_,_::_,h=>by simpa using aZ.drop n h.2
theorem aZ.putAt {e c:List (Lf D)}{b a:List Value}(h:aZ S M w g e b)(d:aZ S M w g c a)(o:Nat):aZ S M w g (putAt e o c) (b.take o++(a++b.drop (o+a.length))):=by
 unfold Vc.putAt;rw[d.length];exact(h.take o).append (d.append (h.drop _))
theorem MS (h:Hp S w0 N blk g al w){l:Nat}{cs:List (Lf D)}(e:blk l=some (.cells cs)){b:Nat}(f:g l=some (.pointer (some ⟨b,0,none⟩))):
  ∃c t,w.heap[b]? =some (.cells (List.toArray c) t (0,0))/\aZ S (aV N blk g) w g cs c:=by
 obtain⟨v,a,j,c,t,rfl,_,d,i⟩:=h.dn l _ e;rw[f]at a;injection a with a
 injection a with a
 injection a with a
 injection a with a
 subst a;exact⟨c,t,d,i⟩
theorem YO {e:TypeId}{cs:List (Lf D)}{vs:Array Value}(h:Hp S w0 N blk g al w)(hfr:∀n,fr<=n->n < fr+64->¬al n)(q:(execOp a.eval o).run P w= .ok (.value (.pointer (some ⟨w.heap.size,0,none⟩))) (w.alloc (.cells vs e)))
  (k:aZ S (aV N blk g) w g cs vs.toList) (m:Post S w0 N blk g al w fr ⟨none, .one (.lf (.ptr fr 0)),[(fr,some (.cells cs))]⟩ o.dst a K):o.wp P a w K Q:=by
 obtain⟨p,f,j⟩:=h.add (l:=fr) (bk:= .cells cs) (v:= .pointer (some ⟨w.heap.size,0,none⟩)) ((Below.refl w.heap.size w).alloc (oC _) (.cells vs e)) (hfr fr (oC _) au) (fun b c=>by simp[eP]at c;omega)
  (fun M' i _=>⟨w.heap.size,vs.toList,e,rfl, .inl h.below.size,heap_alloc_new w _,k.keep i (fun l v hl=>by rw[bM _ _ _ _ qbk];exact hl)⟩)
 exact kJ q (m _ _ _ j f (p.weaken fun n d=>d.elim .inl fun e=> .inr ⟨Qc9 e.symm,by omega⟩) ⟨w.heap.size,upd_same _ _ _,rfl⟩)
theorem adz {t:TypeId}{d:Ty}(i:o.op= .alloc t)(k:fB P t d)(h:Hp S w0 N blk g al w)(c:∀n,fr<=n->n < fr+64->¬al n)
  (j:Post S w0 N blk g al w fr ⟨none, .one (.lf (.ptr fr 0)),[(fr,some (.cells (d.zero.map xx)))]⟩ o.dst a K):o.wp P a w K Q:=by
 obtain⟨z,f,b⟩:=A7 k w;refine YO (vs:=z.cells) (e:=t) h c ?_ (by rw[b];exact qY _) j;simp[execOp,i,Instr.alloc,f,newVar,newRow,newObj,Sem.run]
theorem anO {t:TypeId}{x:Operand}{u:Sv D}(c:o.op= .box t x)(h:Hp S w0 N blk g al w)(b:∀n,fr<=n->n < fr+64->¬al n)(d:u.Rel S (aV N blk g) w g (a.eval x))(f:u.whole=true)
  (i:Post S w0 N blk g al w fr ⟨none, .one (.lf (.ptr fr 0)),[(fr,some (.cells u.cells))]⟩ o.dst a K):o.wp P a w K Q:=by
 refine YO (vs:=(a.eval x).cells) (e:=t) h b ?_ (qZ h.refs f d) i;simp[execOp,c,Instr.box,newVar,newRow,newObj,Sem.run]
theorem yf {d:D}{l:Addr}{n c i:Nat}(h:dD S M w d (.slice (some l) n c))(f:i < S.len d):∀(m j:Nat),j+m<=S.size d->
  ∃a:List Value,a.length=m/\aZ S M w g (BO S d i j m) a/\∀k u,a[k]? =some u->w.cell? (l.add (i*S.size d+(j+k)))=some u
 | 0,j,_=>⟨[],rfl,trivial,fun k u b=>by simp at b⟩
 | m+1,j,s=>by
  obtain⟨u,p,o⟩:=h.cell (g:=g) f (show j < S.size d by omega);obtain⟨a,q,e,r⟩:=yf h f m (j+1) au;refine⟨u::a,by simp[q],⟨o,e⟩,fun k x b=> ?_⟩;cases k with
  | zero=>simp at b;subst b;exact p
  | succ k=>
   have:=r k x (by simpa using b);rwa [show j+1+k=j+(k+1) by omega]at this
theorem oQ {i j n m:Nat}(a:i < n)(b:j < m):i*m+j < n*m:=by
 have:(i+1)*m<=n*m:=Qba m a;rw[Qcf]at this;omega
theorem Tm (h:Hp S w0 N blk g al w){l i j b n q:Nat}{e:TypeId}{d:D}(t:blk l=some (.row e d))(x:g l=some (.slice (some ⟨b,0,none⟩) n q))(o:i < S.len d)(m:j < S.size d):
  ∃u,w.cell? ⟨b,i*S.size d+j,none⟩=some u/\(S.cell d i j).Rel S (aV N blk g) w g u:=by
 obtain⟨v,c,_,I,⟨E,k⟩,C⟩:=h.dn l _ t;rw[x]at c;injection c with c
 subst c;obtain⟨u,s,_,z⟩:=C i j o m;refine⟨u,?_,z⟩;rcases k with⟨B,_⟩ | ⟨F,A,r,p,_,y,_,_,_,f⟩
 ·cases B
 ·injection p with a G H
  injection a with a
  injection a with a
  subst a;have:w.cell? ⟨b,i*S.size d+j,none⟩=r[i*S.size d+j]? :=by simp[World.cell?,y]
  rw[this,<-s,<-f,Zp,mV (oQ o m)];simp
theorem wo (h:Hp S w0 N blk g al w){l i b n r:Nat}{e:TypeId}{d:D}(f:blk l=some (.row e d))(q:g l=some (.slice (some ⟨b,0,none⟩) n r))(p:i < S.len d):∀(m j:Nat),j+m<=S.size d->
  ∃a:List Value,a.length=m/\aZ S (aV N blk g) w g (BO S d i j m) a/\∀k u,a[k]? =some u->w.cell? ⟨b,i*S.size d+(j+k),none⟩=some u
 | 0,j,_=>⟨[],rfl,trivial,fun k u c=>by simp at c⟩
 | m+1,j,z=>by
  obtain⟨u,t,v⟩:=Tm h f q p (show j < S.size d by omega);obtain⟨a,s,o,y⟩:=wo h f q p m (j+1) au;refine⟨u::a,by simp[s],⟨v,o⟩,fun k x c=> ?_⟩;cases k with
  | zero=>simp at c;subst c;exact t
  | succ k=>
   have:=y k x (by simpa using c);rwa [show j+1+k=j+(k+1) by omega]at this
theorem aga {t:TypeId}{x:Operand}{A:Ty}(E:o.op= .load t x)(hT:fB P t A)(Y:T t=some A)(h:Hp S w0 N blk g al w)(F:(aB slot x).Rel S (aV N blk g) w g (a.eval x))
  (c:xO T S blk t (aB slot x)=some out) (hp:lY out.pre) (G:Post S w0 N blk g al w fr out o.dst a K):o.wp P a w K Q:=by
 have q:=wz hT w;have I:=kU hT w;simp only[xO,Y]at c;split at c
 ·
  rename_i l p H;rw[H]at F;obtain⟨b,L,B⟩:=F;split at c
  ·rename_i cs J;obtain⟨z,t',X,s⟩:=MS h J L;split at c
   ·rename_i m;split at c
    ·rename_i r;injection c with c
     subst c;have hle':p+A.size<=z.length:=by rw[<-s.length];exact U5 r
     have f:=run_loadCells (P:=P) (w:=w) ⟨b,p,none⟩ ((z.drop p).take A.size) 0 #[] (fun k u C=>by
      rw[lM,cell_of X];simp only[Zp,Qbj]at C;split at C
      ·rw[show p+(0+k)=p+k by omega];exact C
      ·cases C)
     rw[show((z.drop p).take A.size).length=A.size by simp;omega]at f;refine bf (v:= .agg ((z.drop p).take A.size).toArray) ?_ h G rfl ⟨_,rfl,(s.drop p).take _⟩;simp[execOp,E,Instr.loadAt,Instr.sureAddr,B,loadVar,q,m,I,loadCells,f]
    ·cases c
   ·rename_i m;split at c
    ·rename_i y hy;injection c with c
     subst c;obtain⟨v,V,U⟩:=s.get p hy;refine bf (v:=v) ?_ h G rfl U;simp[execOp,E,Instr.loadAt,Instr.sureAddr,B,loadVar,q,m,load,Sem.run,cell_of X,V]
    ·cases c
  ·cases c
 ·
  rename_i d i j H;rw[H]at F;obtain⟨ad,n,cap,hd,W,B⟩:=F;split at c
  ·rename_i m;split at c
   ·rename_i r;injection c with c
    subst c;obtain⟨z,O,s,R⟩:=yf (g:=g) hd W A.size j (U5 r);have f:=run_loadCells (P:=P) (w:=w) (ad.add (i*S.size d+j)) z 0 #[] (fun k u C=>by
     rw[add_add',show i*S.size d+j+(0+k)=i*S.size d+(j+k) by omega];exact R k u C)
    rw[O]at f;refine bf (v:= .agg z.toArray) ?_ h G rfl ⟨_,rfl,s⟩;simp[execOp,E,Instr.loadAt,Instr.sureAddr,B,loadVar,q,m,I,loadCells,f]
   ·cases c
  ·rename_i m;split at c
   ·rename_i hlt;injection c with c
    subst c;obtain⟨u,M,s⟩:=hd.cell (g:=g) W qb9;refine bf (v:=u) ?_ h G rfl s;simp[execOp,E,Instr.loadAt,Instr.sureAddr,B,loadVar,q,m,load,Sem.run,M]
   ·cases c
 ·
  rename_i l i j Z H;rw[H]at F;obtain⟨b,n,cap,L,B⟩:=F;split at c
  ·rename_i e d J;split at c
   ·rename_i m;split at c
    ·rename_i r;injection c with c
     subst c;simp only[iT]at r;have D:Z=S.size d:=Qa r.2;subst D;obtain⟨z,O,s,R⟩:=wo h J L hp A.size j (U5 r.1);have f:=run_loadCells (P:=P) (w:=w) ⟨b,i*S.size d+j,none⟩ z 0 #[] (fun k u C=>by
      rw[lM,show i*S.size d+j+(0+k)=i*S.size d+(j+k) by omega];exact R k u C)
     rw[O]at f;refine bf (v:= .agg z.toArray) ?_ h G rfl ⟨_,rfl,s⟩;simp[execOp,E,Instr.loadAt,Instr.sureAddr,B,loadVar,q,m,I,loadCells,f]
    ·cases c
   ·rename_i m;split at c
    ·rename_i hlt;injection c with c
     subst c;simp only[iT]at hlt;have D:Z=S.size d:=Qa hlt.2;subst D;obtain⟨u,M,s⟩:=Tm h J L hp (by simpa[CE]using hlt.1);refine bf (v:=u) ?_ h G rfl s;simp[execOp,E,Instr.loadAt,Instr.sureAddr,B,loadVar,q,m,load,Sem.run,M]
    ·cases c
  ·cases c
 ·cases c
theorem anS {t:TypeId}{x:Sl D}{v:Value}{s:Ty}(W:fB P t s)(R:T t=some s)(h:Hp S w0 N blk g al w)(K:x.Rel S (aV N blk g) w g v)
  (a:xO T S blk t x=some out) (V:lY out.pre):∃E u,v= .pointer (some E)/\(loadVar t E).run P w= .ok u w/\out.val.Rel S (aV N blk g) w g u:=by
 have o:=wz W w;have C:=kU W w;simp only[xO,R]at a;split at a
 ·
  rename_i l m;obtain⟨b,G,z⟩:=K;split at a
  ·rename_i cs F;obtain⟨r,t',Q,q⟩:=MS h F G;split at a
   ·rename_i f;split at a
    ·rename_i p;injection a with a
     subst a;have aa:m+s.size<=r.length:=by rw[<-q.length];exact U5 p
     have c:=run_loadCells (P:=P) (w:=w) ⟨b,m,none⟩ ((r.drop m).take s.size) 0 #[] (fun k u A=>by
      rw[lM,cell_of Q];simp only[Zp,Qbj]at A;split at A
      ·rw[show m+(0+k)=m+k by omega];exact A
      ·cases A)
     rw[show((r.drop m).take s.size).length=s.size by simp;omega]at c;exact⟨_, .agg ((r.drop m).take s.size).toArray,z,by simp[loadVar,o,f,C,loadCells,c],⟨_,rfl,(q.drop m).take _⟩⟩
    ·cases a
   ·rename_i f;split at a
    ·rename_i y Z;injection a with a
     subst a;obtain⟨v,M,L⟩:=q.get m Z;exact⟨_,v,z,by simp[loadVar,o,f,load,Sem.run,cell_of Q,M],L⟩
    ·cases a
  ·cases a
 ·
  rename_i d i j;obtain⟨E,n,X,Y,O,z⟩:=K;split at a
  ·rename_i f;split at a
   ·rename_i p;injection a with a
    subst a;obtain⟨r,I,q,J⟩:=yf (g:=g) Y O s.size j (U5 p);have c:=run_loadCells (P:=P) (w:=w) (E.add (i*S.size d+j)) r 0 #[] (fun k u A=>by
     rw[add_add',show i*S.size d+j+(0+k)=i*S.size d+(j+k) by omega];exact J k u A)
    rw[I]at c;exact⟨_, .agg r.toArray,z,by simp[loadVar,o,f,C,loadCells,c],⟨_,rfl,q⟩⟩
   ·cases a
  ·rename_i f;split at a
   ·rename_i hlt;injection a with a
    subst a;obtain⟨u,H,q⟩:=Y.cell (g:=g) O qb9;exact⟨_,u,z,by simp[loadVar,o,f,load,Sem.run,H],q⟩
   ·cases a
 ·
  rename_i l i j U;obtain⟨b,n,X,G,z⟩:=K;split at a
  ·rename_i e d F;split at a
   ·rename_i f;split at a
    ·rename_i p;injection a with a
     subst a;simp only[iT]at p;have B:U=S.size d:=Qa p.2;subst B;obtain⟨r,I,q,J⟩:=wo h F G V s.size j (U5 p.1);have c:=run_loadCells (P:=P) (w:=w) ⟨b,i*S.size d+j,none⟩ r 0 #[] (fun k u A=>by
      rw[lM,show i*S.size d+j+(0+k)=i*S.size d+(j+k) by omega];exact J k u A)
     rw[I]at c;exact⟨_, .agg r.toArray,z,by simp[loadVar,o,f,C,loadCells,c],⟨_,rfl,q⟩⟩
    ·cases a
   ·rename_i f;split at a
    ·rename_i hlt;injection a with a
     subst a;simp only[iT]at hlt;have B:U=S.size d:=Qa hlt.2;subst B;obtain⟨u,H,q⟩:=Tm h F G V (by simpa[CE]using hlt.1);exact⟨_,u,z,by simp[loadVar,o,f,load,Sem.run,H],q⟩
    ·cases a
  ·cases a
 ·cases a
end
end Go.Vc
namespace Go.Vc
open Go.RowKit
section
variable {D:Type}{P:Program}{S:Sh D}{T:TypeId->Option Ty}{M N:Nat->Prop}{w w':World}{w0:Bs}{g:Nat->Option Value}{blk:Nat->Option (Bk D)}{al:Nat->Prop}
 {a:Act} {o:Oper} {K:Act->World->Prop} {Q:Exit->Act->World->Prop} {slot:Nat->Sl D} {out:Out D} {fr:Nat}
theorem aem {x:Dl D}{p:Pv}{v:Value}(h:aEq x=some p)(a:x.Rel S M w v):v=p.val/\p.fits:=by
 unfold aEq at h;split at h<;>first | (injection h with h;subst h;exact⟨a,trivial⟩) | (injection h with h;subst h;exact a) | (cases h;done)
theorem Yk:∀{d:List (Dl D)} {a:List Pv} {c:List Value},NP d=some a->ui S M w d c->c=a.map Pv.val/\∀p∈a,p.fits
 | [],a,[],h,_=>by simp[NP]at h;subst h;exact⟨rfl,fun p b=>by simp at b⟩
 | x::d,a,v::c,h,e=>by
  unfold NP at h;split at h
  ·rename_i p m l i;injection h with h
   subst h;obtain⟨j,g⟩:=aem l e.1;obtain⟨k,f⟩:=Yk i e.2;refine⟨by rw[j,k];rfl,fun p b=> ?_⟩;rcases CW.1 b with rfl | b
   ·exact g
   ·exact f p b
  ·cases h
theorem aq3 {e:Bool}{c:List (Dl D)}{g:List Pv}{t:TypeId}{u:Value}(h:NP c=some g)(a:Nr S M w e c u):Value.iface t u=Bj (some ⟨t,e,g⟩)/\∀p∈g,p.fits:=by
 cases e with
 | true=>
  obtain⟨l,rfl,a⟩:=a;obtain⟨f,b⟩:=Yk h a;exact⟨by rw[f];rfl,b⟩
 | false=>
  match c,a with
  | [x],a=>
   have a:x.Rel S M w u:=a;unfold NP at h;split at h
   ·rename_i p k f b;injection h with h
    subst h;injection b with b
    subst b;obtain⟨j,i⟩:=aem f a;refine⟨by rw[j];rfl,fun p d=> ?_⟩;rcases CW.1 d with rfl | d
    ·exact i
    ·cases d
   ·cases h
theorem Lf.Le.rel {x y:Lf D}{v:Value}(h:x.Le S y)(a:x.Rel S M w g v):y.Rel S M w g v:=by
 rcases h with rfl | ⟨rfl,d,rfl,c,f⟩ | ⟨b,rfl,rfl⟩ | ⟨t,n,m,o,rfl,rfl,l⟩ | ⟨d,rfl,rfl⟩
 ·exact a
 ·simp only[Lf.Rel]at a;subst a;intro w' _;have:=BZ.mk (S:=S) (w:=w') d f none 0 (fun _ _=> .bool false) au au (fun i j e _=>by omega) (fun i j e _=>by omega) (fun i j _ e _=>by omega);rwa [c]at this
 ·exact a
 ·obtain⟨u,rfl,k⟩:=a;exact aq3 l k
 ·obtain⟨_,_,c⟩:=a;exact c
theorem adO {t:TypeId}{x y:Operand}{ty:Ty}(ho:o.op= .store t x y)(hT:fB P t ty)(hTT:T t=some ty)(h:Hp S w0 N blk g al w)(hx:(aB slot x).Rel S (aV N blk g) w g (a.eval x))
  (hy:(aB slot y).Rel S (aV N blk g) w g (a.eval y)) (c:BJ T S blk t (aB slot x) (aB slot y)=some out) (hS:iL S) (hp:lY out.pre) (hK:Post S w0 N blk g al w fr out o.dst a K):o.wp P a w K Q:=by
 have hsz:=kU hT w;unfold BJ at c;split at c
 ·rename_i ty' l off u f hex CY;rw[hTT]at f;injection f with f
  subst f;rw[hex]at hx;rw[CY]at hy;obtain⟨b,J,hv⟩:=hx;split at c
  ·rename_i cs C;split at c
   ·rename_i hc;injection c with c
    subst c;simp only[iT]at hc;obtain⟨⟨G,Z⟩,V⟩:=hc;have G:=Qa G;have Z:=U5 Z;obtain⟨vs,t',hh,hr⟩:=MS h C J;have E:=qZ h.refs (AO V) hy;have A:=E.length;obtain⟨w',H,X,hn,hs,s,U,W⟩:=lF (P:=P) b t' (a.eval y).cells.toList w vs off 0 hh (by rw[<-hr.length];omega) (kF h.refs V E);have z:(execOp a.eval o).run P w= .ok .skip w':=by
     have B:(a.eval y).cells.size=ty.size:=by rw[<-G,A];simp
     simp[execOp,ho,Instr.storeAt,Instr.sureAddr,hv,storeVar,hsz,B,H]
    obtain⟨hp',Y⟩:=h.write (bk':= .cells (putAt cs off u.cells)) C rfl rfl J rfl s U W hs hn (fun hk=>by
     refine⟨b,_,t',rfl,(xC.lt (h.dn l _ C).choose_spec.2 rfl (by rw[Qdp ((h.dn l _ C).choose_spec.1.symm.trans J)];rfl)).2,X,?_⟩;simpa using(hr.putAt E (off+0)).keep hk (More.refl _))
    exact JG z (hK _ _ _ (More.refl _) Y (hp'.weaken fun _ h=> .inl h) trivial)
   ·cases c
  ·cases c
 ·rename_i ty' l i j sz u f hex CY;rw[hTT]at f;injection f with f
  subst f;rw[hex]at hx;rw[CY]at hy;obtain⟨b,n,cap,J,hv⟩:=hx;split at c
  ·rename_i e d C;split at c
   ·rename_i hc;split at c
    ·rename_i d' R;injection c with c
     subst c;simp only[iT]at hc;obtain⟨⟨⟨G,Z⟩,h4⟩,V⟩:=hc;have G:=Qa G;have Z:=U5 Z;have h4:=Qa h4;subst h4;have hp:i < S.len d:=hp;obtain⟨L,D,ec⟩:=hS.set _ _ _ _ _ R hp;obtain⟨v,I,hm,xs,⟨hxl,hown⟩,hcell⟩:=h.dn l _ C;rw[J]at I;injection I with I
     subst I;have E:=qZ h.refs (AO V) hy;have A:=E.length;rcases hown with⟨h0,_⟩ | ⟨b',cap',k,hvv,_,hh,hnc,hcm,hcs,htake⟩
     ·cases h0
     ·injection hvv with s U W
      injection s with s
      injection s with s
      subst s U W;have hh':w.heap[b]? =some (.cells (k.toList).toArray e (0,0)):=by simpa using hh
      have hrow:i*S.size d+S.size d<=S.len d*S.size d:=by rw[<-Qcf];exact Qba _ hp
      have hcap:S.len d*S.size d<=k.toList.length:=by rw[WJ,hcs];exact Qba _ hnc
      obtain⟨w',H,X,hn,hs,s,U,W⟩:=lF (P:=P) b e (a.eval y).cells.toList w k.toList (i*S.size d+j) 0 hh' au (kF h.refs V E);have z:(execOp a.eval o).run P w= .ok .skip w':=by
       have B:(a.eval y).cells.size=ty.size:=by rw[<-G,A];simp
       simp[execOp,ho,Instr.storeAt,Instr.sureAddr,hv,storeVar,hsz,B,H]
      generalize hus:(a.eval y).cells.toList=M at*;obtain⟨hp',Y⟩:=h.write (bk':= .row e d') C rfl rfl J rfl s U W hs hn (fun hk=>by
       refine⟨⟨hm.1,by rw[D];exact hm.2.1,hS.aBS _ _ _ _ _ R hm.2.2⟩,(k.toList.take (i*S.size d+j+0)++(M++k.toList.drop (i*S.size d+j+0+M.length))).take (S.len d*S.size d),⟨?_, .inr ⟨b,cap,(k.toList.take (i*S.size d+j+0)++(M++k.toList.drop (i*S.size d+j+0+M.length))).toArray,by rw[D],vP _,X,by rw[D];exact hnc,hcm,?_,by rw[D,L]⟩⟩,fun p m q r=> ?_⟩
       ·rw[D,L];simp only[zC,qO,Qbe];omega
       ·rw[L,<-hcs];simp only[Qc2,qO,zC,Qbe];have:=WJ (xs:=k);omega
       ·rw[D]at q;rw[L]at r;rw[L];have hlt:=oQ q r;obtain⟨uo,hxo,hdo,hro⟩:=hcell p m q r;have hold:k.toList[p*S.size d+m]? =some uo:=by rw[<-hxo,<-htake,Zp,mV hlt]
        rw[Zp,mV hlt];by_cases O:p=i/\j<=m/\m < j+u.cells.length
        ·obtain⟨rfl,hj1,hj2⟩:=O;obtain⟨x,hx1,hx2⟩:=(ec p m q r).1 ⟨rfl,hj1,by simpa using hj2⟩;obtain⟨uv,huv,hrv⟩:=E.norm.get (m - j) hx1;refine⟨uv,?_,hS.data _ _ _ (by rw[D];exact q) (by rw[L];exact r),?_⟩
         ·rw[Qay qbt,Qa6 qby,<-huv];congr 1;simp only[zC];omega
         ·exact(hx2.rel hrv).keep hk (More.refl _)
        ·rw[(ec p m q r).2 (by simpa using O)];refine⟨uo,?_,hdo,hro.keep hk (More.refl _)⟩;rw[<-hold];have F:p*S.size d+m < i*S.size d+j\/i*S.size d+j+M.length<=p*S.size d+m:=by
          rcases Nat.lt_trichotomy p i with hlt' | rfl | hgt
          ·left
           have:(p+1)*S.size d<=i*S.size d:=Qba _ hlt';rw[Qcf]at this;omega
          ·by_cases hjj:j<=m
           ·right
            have:¬m < j+u.cells.length:=fun hh=>O ⟨rfl,hjj,hh⟩
            omega
           ·left;omega
          ·right
           have:(i+1)*S.size d<=p*S.size d:=Qba _ hgt;rw[Qcf]at this;omega
         rcases F with F | F
         ·rw[Qa6 qby,Zp,mV au]
         ·rw[Qay qby,Qay qby,Qbj];congr 1;simp only[zC];omega)
      exact JG z (hK _ _ _ (More.refl _) Y (hp'.weaken fun _ h=> .inl h) trivial)
    ·cases c
   ·cases c
  ·cases c
 ·cases c
theorem aeA {t:TypeId}{x:Operand}{f:Nat}{R:Ty}(E:o.op= .fieldAddr t x f)(F:fB P t R)(M:T t=some R)(h:Hp S w0 N blk g al w)(s:(aB slot x).Rel S (aV N blk g) w g (a.eval x))
  (c:wQ T t (aB slot x) f=some out) (G:Post S w0 N blk g al w fr out o.dst a K):o.wp P a w K Q:=by
 simp only[wQ,M]at c;split at c
 ·rename_i p y _ l I r u;rw[u]at s;obtain⟨b,H,A⟩:=s;obtain⟨O,J,B,C,m,q,_⟩:=I8 F r;split at c
  ·cases c
  ·rename_i k;have k:y≠0:=fun e=>k (by simp[e])
   injection c with c
   subst c;refine bf (v:= .pointer (some ⟨b,I+p,none⟩)) ?_ h G rfl ⟨b,H,rfl⟩;simp[execOp,E,Instr.fieldAt,run_underlying B,C,A,Instr.sureAddr,fieldPlace,qx q k,k,m,lM]
 ·rename_i p y _ d i j r u;rw[u]at s;obtain⟨L,n,D,V,U,A⟩:=s;obtain⟨O,J,B,C,m,q,_⟩:=I8 F r;split at c
  ·cases c
  ·rename_i k;have k:y≠0:=fun e=>k (by simp[e])
   injection c with c
   subst c;refine bf (v:= .pointer (some (L.add (i*S.size d+(j+p))))) ?_ h G rfl ⟨L,n,D,V,U,rfl⟩;simp[execOp,E,Instr.fieldAt,run_underlying B,C,A,Instr.sureAddr,fieldPlace,qx q k,k,m,add_add',Qdl]
 ·rename_i p y _ l i j z r u;rw[u]at s;obtain⟨b,n,D,H,A⟩:=s;obtain⟨O,J,B,C,m,q,_⟩:=I8 F r;split at c
  ·cases c
  ·rename_i k;have k:y≠0:=fun e=>k (by simp[e])
   injection c with c
   subst c;refine bf (v:= .pointer (some ⟨b,i*z+(j+p),none⟩)) ?_ h G rfl ⟨b,n,D,H,rfl⟩;simp[execOp,E,Instr.fieldAt,run_underlying B,C,A,Instr.sureAddr,fieldPlace,qx q k,k,m,lM,Qdl]
 ·cases c
theorem agD {t:TypeId}{x:Operand}{f:Nat}{A:Ty}(n:o.op= .field t x f)(J:fB P t A)(q:T t=some A)(h:Hp S w0 N blk g al w)(E:(aB slot x).Rel S (aV N blk g) w g (a.eval x))
  (b:aja T t (aB slot x) f=some out) (F:Post S w0 N blk g al w fr out o.dst a K):o.wp P a w K Q:=by
 simp only[aja,q]at b;split at b
 ·rename_i d s R cs D G;rw[G]at E;obtain⟨H,z,u⟩:=E;obtain⟨O,M,B,C,k,l,r⟩:=I8 J D;split at b
  ·cases b
  ·rename_i c;have c:s≠0:=fun e=>c (by simp[e])
   have i:=fun w=>aqC l c w
   rw[r]at i;split at b
   ·rename_i j;split at b
    ·rename_i L;injection b with b
     subst b;refine bf (v:= .agg ((H.drop d).take s).toArray) ?_ h F rfl ⟨_,rfl,(u.drop d).take _⟩;simp[execOp,n,Instr.field,run_underlying B,C,z,asAgg,part,i,j,qx l c,k]
    ·cases b
   ·rename_i j;split at b
    ·rename_i y I;injection b with b
     subst b;obtain⟨v,p,m⟩:=u.get d I;refine bf (v:=v) ?_ h F rfl m;simp[execOp,n,Instr.field,run_underlying B,C,z,asAgg,part,i,j,k,p]
    ·cases b
 ·cases b
theorem WQ {x:Operand}{i:Nat}(l:o.op= .extract x i)(h:Hp S w0 N blk g al w)(e:(aB slot x).Rel S (aV N blk g) w g (a.eval x))
  (b:zU (aB slot x) i=some out) (m:Post S w0 N blk g al w fr out o.dst a K):o.wp P a w K Q:=by
 unfold zU at b;split at b
 ·rename_i q j;rw[j]at e;obtain⟨p,f,n⟩:=e;split at b
  ·rename_i y k;injection b with b
   subst b;obtain⟨v,d,c⟩:=n.get i k;refine bf (v:=v) ?_ h m rfl c;simp[execOp,l,Instr.extract,f,d]
  ·cases b
 ·cases b
theorem aeK {t:TypeId}{x D:Operand}(H:o.op= .indexAddr t x D)(G:∀t I,T t=some I->fB P t I)(h:Hp S w0 N blk g al w)(m:(aB slot x).Rel S (aV N blk g) w g (a.eval x))
  (q:(aB slot D).Rel S (aV N blk g) w g (a.eval D)) (c:D8 T S blk t (aB slot x) (aB slot D)=some out) (M:lY out.pre) (R:Post S w0 N blk g al w fr out o.dst a K):o.wp P a w K Q:=by
 unfold D8 at c;split at c
 ·cases c
 ·rename_i I Z;split at c
  ·cases c
  ·rename_i e X;split at c
   ·cases c
   ·rename_i E Y;have B:=kG (G _ _ Z) X;have z:=kU (G _ _ Y) w;split at c
    ·rename_i d k n A C;rw[A]at m;rw[C]at q;split at c
     ·rename_i j;simp only[iT]at j;have F:=Qa j.1;have W:0 < E.size:=by simpa[CE]using j.2
      injection c with c
      subst c;obtain⟨r,u⟩:=M;simp only[Sl.Rel,Sv.Rel,Lf.Rel]at q;obtain⟨av,s,f,O⟩:=dD.slice m au;have p:n.toNat < S.len d:=by omega
      rw[f]at m;obtain⟨y,rfl⟩:=dD.Aw m p au;refine bf (v:= .pointer (some (y.add (n.toNat*S.size d+0)))) ?_ h R rfl ⟨y,_,s,m,p,rfl⟩;simp[execOp,H,Instr.indexAt,q,asIntOf,run_underlying B,f,r,u,z,F]
     ·cases c
    ·rename_i l k n A C;rw[A]at m;rw[C]at q;split at c
     ·rename_i e' d J;split at c
      ·rename_i j;simp only[iT]at j;have F:=Qa j.1;have W:0 < E.size:=by simpa[CE]using j.2
       injection c with c
       subst c;obtain⟨r,u⟩:=M;simp only[Sl.Rel,Sv.Rel,Lf.Rel]at q m;obtain⟨v,f,_,xs,⟨hxl,L⟩,_⟩:=h.dn l _ J;rw[m]at f;injection f with f
       rcases L with⟨h0,hz⟩ | ⟨b,s,cur,U,_⟩
       ·omega
       ·rw[U]at f;refine bf (v:= .pointer (some ⟨b,n.toNat*E.size+0,none⟩)) ?_ h R rfl ⟨b,_,s,m.trans (by rw[f]),rfl⟩;simp[execOp,H,Instr.indexAt,q,asIntOf,run_underlying B,f,r,u,z,lM]
      ·cases c
     ·rename_i d J;split at c
      ·rename_i j;simp only[iT]at j;have F:=Qa j.1;have W:0 < E.size:=by simpa[CE]using j.2
       injection c with c
       subst c;obtain⟨r,u⟩:=M;simp only[Sl.Rel,Sv.Rel,Lf.Rel]at q m;obtain⟨v,f,i⟩:=h.dn l _ J;rw[m]at f;injection f with f
       have i:dD S (aV N blk g) w d v:=i;obtain⟨av,s,V,O⟩:=dD.slice i au;have p:n.toNat < S.len d:=by omega
       rw[V]at i f;obtain⟨y,rfl⟩:=dD.Aw i p au;refine bf (v:= .pointer (some (y.add (n.toNat*S.size d+0)))) ?_ h R rfl ⟨y,_,s,i,p,rfl⟩;simp[execOp,H,Instr.indexAt,q,asIntOf,run_underlying B,f,r,u,z,F]
      ·cases c
     ·cases c
    ·cases c
theorem lm {op:BinOp}{t:TypeId}{x y:Operand}{u v:Value}(b:one' u=true)(a:u≠ .nilIface):(eqGuard op t x y u v).run P w= .ok () w:=by
 cases u<;>first | (simp[one']at b;done) | (simp at a;done) | (cases op<;>rfl)
theorem BB {a:List Value}{i:Nat}{u:Value}{r:List Value}(h:a.drop i=u::r):a[i]? =some u/\a.drop (i+1)=r:=by
 constructor
 ·have:=Qcw (·[0]?) h;simpa using this
 ·have:=Qcw (·.drop 1) h;simpa[Qd5]using this
theorem aiL {d:Nat}{t:TypeId}{k:Nat}{x y:Lf D}{u v:Value}{e:Bool}(b:Tf P t=some k)(j:x.Rel S M w g u)(h:y.Rel S M w g v)(a:eq1 k x y=some e):
  (Op.equalIn (d+1) t u v).run P w= .ok e w/\(isAgg t).run P w= .ok false w:=by
 unfold Tf at b;split at b
 ·rename_i c;injection b with b
  subst b;simp only[eq1]at a;split at a
  ·injection a with a
   subst a;cases j;cases h;exact⟨by simp[Op.equalIn,run_underlying c],by simp[isAgg,run_underlying c]⟩
  ·cases a
 ·rename_i c;injection b with b
  subst b;simp only[eq1]at a;split at a
  ·split at a
   ·rename_i f;injection a with a
    subst a;cases j;cases h;simp only[kEq,Qch]at f;subst f;exact⟨by simp[Op.equalIn,run_underlying c],by simp[isAgg,run_underlying c]⟩
   ·cases a
  ·cases a
 ·rename_i c;injection b with b
  subst b;simp only[eq1]at a;split at a
  ·rename_i l i;injection a with a
   subst a;obtain⟨rfl,_⟩:=j;obtain⟨rfl,_⟩:=h;refine⟨?_,by simp[isAgg,run_underlying c]⟩;have:((⟨l.toArray⟩:ByteArray)==⟨i.toArray⟩)=(l==i):=by
    show(l.toArray==i.toArray)=_
    simp
   simp[Op.equalIn,run_underlying c,this]
  ·cases a
 ·cases b
theorem akt {d:Nat}{us vs:Array Value}:∀(s:List Field) (i:Nat) (t:List Nat) (l j:List (Lf D)) (r:Bool),eqFields P i s=some t->uH t l j=some r->
  aZ S M w g l (us.toList.drop i)->aZ S M w g j (vs.toList.drop i)->
  (forIn (m:=Sem) s ((none:Option Bool),()) fun f _=>if f.name≠ "_" then do
    let a<-part f.type us f.offset
    let b<-part f.type vs f.offset
    let e<-Op.equalIn (d+1) f.type a b
    if (!e)=true then pure (ForInStep.done (some false,()))else pure (ForInStep.yield (none,()))
   else pure (ForInStep.yield (none,()))).run P w= .ok (if r then none else some false,()) w
 | [],i,t,l,j,r,h,c,o,n=>by
  simp only[eqFields,Nj]at h;subst h;cases l with
  | cons x l=>simp[uH]at c
  | nil=>
   cases j with
   | cons y j=>simp[uH]at c
   | nil=>
    simp only[uH,Nj]at c;subst c;simp
 | f::s,i,t,l,j,r,h,c,o,n=>by
  unfold eqFields at h;split at h
  ·rename_i k C Q B;split at h
   ·rename_i H;simp only[iT,Qbi]at H;obtain⟨⟨q,p⟩,W⟩:=H;have q:=Qa q;have p:f.name≠ "_" :=by simpa using p
    injection h with h
    subst h;cases l with
    | nil=>simp[uH]at c
    | cons x l=>
     cases j with
     | nil=>simp[uH]at c
     | cons y j=>
      unfold uH at c;split at c
      ·rename_i e R z G;injection c with c
       subst c;generalize A:us.toList.drop i=U at o;generalize F:vs.toList.drop i=V at n;cases U with
       | nil=>exact o.elim
       | cons u U=>
        cases V with
        | nil=>exact n.elim
        | cons v V=>
         obtain⟨T,u2⟩:=BB A;obtain⟨L,K⟩:=BB F;obtain⟨N,E⟩:=aiL (d:=d) Q o.1 n.1 z;have I:=akt (d:=d) (us:=us) (vs:=vs) s (i+1) C l j R B G (by rw[u2];exact o.2) (by rw[K];exact n.2);have O:(part f.type us f.offset).run P w= .ok u w:=by
          have:us[i]? =some u:=by simpa using T
          simp[part,E,q,this]
         have J:(part f.type vs f.offset).run P w= .ok v w:=by
          have:vs[i]? =some v:=by simpa using L
          simp[part,E,q,this]
         rw[List.forIn_cons];simp only[p,ne_eq,Qdv,if_true,Sem.run_bind,O,J,N,Result.andThen_ok];cases e with
         | false=>simp
         | true=>
          simp only[Qcs,Ot,if_false,Sem.run_pure,Result.andThen_ok,Qdy];simpa only[p,ne_eq,Qdv,if_true]using I
      ·cases c
   ·cases h
  ·cases h
theorem au3 {d n0:Nat}{e:TypeId}{k:Nat}{us vs:Array Value}(t:Tf P e=some k):∀(n i:Nat) (j h:List (Lf D)) (r:Bool),uH (List.replicate n k) j h=some r->
  aZ S M w g j (us.toList.drop i)->aZ S M w g h (vs.toList.drop i)->
  (forIn (m:=Sem) (List.range' i n) ((none:Option Bool),()) fun i _=>do
    let a<-part e us (i*1)
    let b<-part e vs (i*1)
    let c<-Op.equalIn (d+1) e a b
    if (!c)=true then pure (ForInStep.done (some false,()))else pure (ForInStep.yield (none,()))).run P w= .ok (if r then none else some false,()) w
 | 0,i,j,h,r,f,o,l=>by
  cases j with
  | cons x j=>simp[uH]at f
  | nil=>
   cases h with
   | cons y h=>simp[uH]at f
   | nil=>
    simp only[List.replicate,uH,Nj]at f;subst f;simp
 | n+1,i,j,h,r,f,o,l=>by
  rw[List.replicate_succ]at f;cases j with
  | nil=>simp[uH]at f
  | cons x j=>
   cases h with
   | nil=>simp[uH]at f
   | cons y h=>
    unfold uH at f;split at f
    ·rename_i c I p A;injection f with f
     subst f;generalize q:us.toList.drop i=U at o;generalize z:vs.toList.drop i=V at l;cases U with
     | nil=>exact o.elim
     | cons u U=>
      cases V with
      | nil=>exact l.elim
      | cons v V=>
       obtain⟨J,u2⟩:=BB q;obtain⟨F,E⟩:=BB z;obtain⟨G,s⟩:=aiL (d:=d) t o.1 l.1 p;have B:=au3 (d:=d) (n0:=n0) (us:=us) (vs:=vs) t n (i+1) j h I A (by rw[u2];exact o.2) (by rw[E];exact l.2);have H:(part e us (i*1)).run P w= .ok u w:=by
        have:us[i]? =some u:=by simpa using J
        simp[part,s,this]
       have C:(part e vs (i*1)).run P w= .ok v w:=by
        have:vs[i]? =some v:=by simpa using F
        simp[part,s,this]
       rw[List.range'_succ,List.forIn_cons];simp only[Sem.run_bind,H,C,G,Result.andThen_ok];cases c with
       | false=>simp
       | true=>
        simp only[Qcs,Ot,if_false,Sem.run_pure,Result.andThen_ok,Qdy];exact B
    ·cases f
theorem XZ {t:TypeId}{y:Ty}{us vs:List Value}{j h:List (Lf D)}{k:Nat}{v:List Nat}{r:Bool}(F:fB P t y)(a:y.eqs=k::v)(l:uH (k::v) j h=some r)(hx:aZ S M w g j us)(q:aZ S M w g h vs):
  (Op.equal t (.agg us.toArray) (.agg vs.toArray)).run P w= .ok r w/\P.eqGuardType P.depth t=false:=by
 obtain⟨i,d,z,J,I,B,L,rfl⟩:=mD F;cases d with
 | struct E=>
  simp only[acW]at a;split at a
  ·cases a
  ·rename_i f;simp only[Qbp,not_or,Qdx]at f;obtain⟨G,C⟩:=f;refine⟨?_,C⟩;split at a
   ·rename_i H u;subst a
    suffices b:∀d,(Op.equalIn (d+1+1) t (.agg us.toArray) (.agg vs.toArray)).run P w= .ok r w from b 9998
    intro d;have:=akt (P:=P) (w:=w) (d:=d) (us:=us.toArray) (vs:=vs.toArray) E.toList 0 _ j h r u l qcv (by simpa using q);rw[Array.forIn_toList]at this;simp only[Op.equalIn,Sem.run_bind,run_underlying B,Result.andThen_ok,program];simp only[Sem.run,Result.andThen_ok,G,Ot,if_false];rw[Sem.run_bind];refine(Qcw (fun x=>Result.andThen x _) this).trans ?_;rw[Result.andThen_ok];cases r<;>rfl
   ·cases a
 | array n e=>
  simp only[acW]at a;split at a
  ·cases a
  ·rename_i f;simp only[Qdx]at f;refine⟨?_,f⟩;split at a
   ·rename_i K N m o;split at a
    ·rename_i c;have c:=Qa c
     suffices b:∀d,(Op.equalIn (d+1+1) t (.agg us.toArray) (.agg vs.toArray)).run P w= .ok r w from b 9998
     intro d;have:=au3 (P:=P) (w:=w) (d:=d) (n0:=0) (us:=us.toArray) (vs:=vs.toArray) m n 0 j h r (by rw[a];exact l) qcv (by simpa using q);have p:(sizeOf e).run P w= .ok 1 w:=by simp[sizeOf,typeInfo,o,c]
     obtain⟨s,A⟩:∃s,s=d+1:=⟨_,rfl⟩;rw[<-A]at this⊢;simp only[Op.equalIn,Sem.run_bind,run_underlying B,Result.andThen_ok,p,Std.Legacy.Range.forIn_eq_forIn_range',Std.Legacy.Range.size];rw[show(n - 0+1 - 1) / 1=n by simp];refine(Qcw (fun x=>Result.andThen x _) this).trans ?_;rw[Result.andThen_ok];cases r<;>rfl
    ·cases a
   ·cases a
 | _=>simp[acW]at a
theorem ahW {op:BinOp}{t H:TypeId}{x y:Operand}(p:o.op= .binOp op t x y H)(s:∀t C,T t=some C->fB P t C)(h:Hp S w0 N blk g al w)(c:(aB slot x).Rel S (aV N blk g) w g (a.eval x))
  (f:(aB slot y).Rel S (aV N blk g) w g (a.eval y)) (b:Xw T S op t (aB slot x) (aB slot y)=some out) (r:Post S w0 N blk g al w fr out o.dst a K):o.wp P a w K Q:=by
 unfold Xw at b;split at b
 ·cases b
 ·rename_i C z;split at b
  ·rename_i e d A m B;split at b
   rotate_left
   ·cases b
   rename_i q;have q:0 < S.size d:=by simpa[CE]using q
   have i:=kG (s _ _ z) A;rw[m]at c;rw[B]at f;have c:dD S (aV N blk g) w d (a.eval x):=c;have f:a.eval y= .slice none 0 0:=f;obtain⟨k,n,D,I⟩:=dD.slice c q;have l:k.isNone=true->S.len d=0:=fun F=>by
    rw[D]at c;rcases Qcm (S.len d)with E | E
    ·exact E
    ·obtain⟨J,rfl⟩:=dD.Aw c E q;cases F
   have j:=fun w=>lm (P:=P) (w:=w) (op:=op) (t:=t) (x:=x) (y:=y) (u:= .slice k (S.len d) n) (v:= .slice none 0 0) rfl oI
   split at b
   ·injection b with b;subst b
    refine bf (v:= .bool k.isNone) ?_ h r rfl ⟨_,rfl,l⟩;simp[execOp,p,D,f,j,Lib.run_eql_slice_nil w t e k (S.len d) n 0 0 i]
   ·injection b with b;subst b
    refine bf (v:= .bool (!k.isNone)) ?_ h r rfl ⟨_,rfl,fun G=>l (by simpa using G)⟩;simp[execOp,p,D,f,j,run_neq_slice_nil_any w t e k (S.len d) n 0 0 i]
   ·cases b
  ·rename_i e A m B;have i:=kG (s _ _ z) A;rw[m]at c;rw[B]at f;have c:a.eval x= .slice none 0 0:=c;have f:a.eval y= .slice none 0 0:=f;have j:=fun w=>lm (P:=P) (w:=w) (op:=op) (t:=t) (x:=x) (y:=y) (u:= .slice none 0 0) (v:= .slice none 0 0) rfl oI
   split at b
   ·injection b with b;subst b
    refine bf (v:= .bool true) ?_ h r rfl rfl;simp[execOp,p,c,f,j,Lib.run_eql_slice_nil w t e none 0 0 0 0 i]
   ·injection b with b;subst b
    refine bf (v:= .bool false) ?_ h r rfl rfl;simp[execOp,p,c,f,j,run_neq_slice_nil_any w t e none 0 0 0 0 i]
   ·cases b
  ·cases b
theorem ams {op:BinOp}{t yt:TypeId}{x y:Operand}(i:o.op= .binOp op t x y yt)(E:∀t B,T t=some B->fB P t B)(h:Hp S w0 N blk g al w)(f:(aB slot x).Rel S (aV N blk g) w g (a.eval x))
  (e:(aB slot y).Rel S (aV N blk g) w g (a.eval y)) (b:asb T op t (aB slot x) (aB slot y)=some out) (l:lY out.pre) (p:Post S w0 N blk g al w fr out o.dst a K):o.wp P a w K Q:=by
 unfold asb at b;split at b
 ·rename_i k n M m j C;rw[j]at f;rw[C]at e;simp only[Sl.Rel,Sv.Rel,Lf.Rel]at f e;split at b
  ·
   have c:=fun w=>lm (P:=P) (w:=w) (op:= .shl) (t:=t) (x:=x) (y:=y) (u:= .int k n) (v:= .int M m) rfl oI
   injection b with b
   subst b;have l:0<=m:=l;refine bf (v:=_) ?_ h p rfl rfl;simp[execOp,i,f,e,c,binOp,Op.shift,show ¬m < 0 by omega,W_]
  ·have c:=fun w=>lm (P:=P) (w:=w) (op:= .shr) (t:=t) (x:=x) (y:=y) (u:= .int k n) (v:= .int M m) rfl oI
   injection b with b
   subst b;have l:0<=m:=l;refine bf (v:=_) ?_ h p rfl rfl;simp[execOp,i,f,e,c,binOp,Op.shift,show ¬m < 0 by omega,Bc]
  ·split at b
   rotate_left
   ·cases b
   rename_i hns aKN q;have q:k=M:=by simpa[kEq]using q
   subst q;have c:=fun w=>lm (P:=P) (w:=w) (op:=op) (t:=t) (x:=x) (y:=y) (u:= .int k n) (v:= .int k m) rfl oI
   unfold aHw at b;split at b<;>first
    | (
      injection b with b;subst b
      refine bf (v:=_) ?_ h p rfl rfl;first
       | (simp[execOp,i,f,e,c,binOp,Op.intArith,dA];done)
       | (simp[execOp,i,f,e,c,binOp,Op.intBits,uQ,orI,afs,aIb];done)
       | (simp[execOp,i,f,e,c,binOp,Op.intCmp];done)
       | (simp[execOp,i,f,e,c,binOp,Op.intDiv,show m≠0 from l];done)
       | (simp[execOp,i,f,e,c,binOp,Op.intDiv,show m≠0 from l,dA];done))
    | cases b
 ·rename_i s u j C;rw[j]at f;rw[C]at e;simp only[Sl.Rel,Sv.Rel,Lf.Rel]at f e;obtain⟨f,hxl⟩:=f;obtain⟨e,hyl⟩:=e;have c:=fun w=>lm (P:=P) (w:=w) (op:=op) (t:=t) (x:=x) (y:=y) (u:= .string ⟨s.toArray⟩) (v:= .string ⟨u.toArray⟩) rfl oI
  unfold aH8 at b;split at b<;>first
   | (
     injection b with b;subst b
     refine bf (v:=_) ?_ h p rfl rfl;simp[execOp,i,f,e,c,binOp,Op.stringOp,bne];done)
   | (cases b;done)
   | skip
  injection b with b
  subst b;have D:=run_string_add_sum (P:=P) w ⟨s.toArray⟩ ⟨u.toArray⟩ (by simpa[ByteArray.size,lY]using l);rw[ByteArray.mk_append_mk]at D;refine bf (v:= .string ⟨(s++u).toArray⟩) ?_ h p rfl ⟨rfl,by simpa[lY]using l⟩;simp[execOp,i,f,e,c,binOp,D]
 ·rename_i xs ys j C;rw[j]at f;rw[C]at e;obtain⟨Y,F,H⟩:=f;obtain⟨W,I,G⟩:=e;split at b
  ·rename_i B A;split at b
   ·cases b
   ·rename_i ks Z;cases z:B.eqs with
    | nil=>exact absurd z Z
    | cons k ks'=>
     rw[z]at b;split at b
     ·rename_i r J;injection b with b;subst b
      obtain⟨R,O⟩:=XZ (E _ _ A) z J H.norm G.norm;refine bf (v:= .bool r) ?_ h p rfl rfl;have c:(eqGuard .eql t x y (.agg Y.toArray) (.agg W.toArray)).run P w= .ok () w:=by
       simp only[eqGuard,program];simp[Sem.run,O]
      simp[execOp,i,F,I,c,binOp,R]
     ·rename_i r J;injection b with b;subst b
      obtain⟨R,O⟩:=XZ (E _ _ A) z J H.norm G.norm;refine bf (v:= .bool (!r)) ?_ h p rfl rfl;have c:(eqGuard .neq t x y (.agg Y.toArray) (.agg W.toArray)).run P w= .ok () w:=by
       simp only[eqGuard,program];simp[Sem.run,O]
      simp[execOp,i,F,I,c,binOp,R]
     ·cases b
  ·cases b
 ·split at b
  ·rename_i s u V X
   have f:=EP V f;have e:=EP X e;have c:=fun w=>lm (P:=P) (w:=w) (op:=op) (t:=t) (x:=x) (y:=y) (u:= .bool s) (v:= .bool u) rfl oI
   split at b
   ·rename_i B A;split at b
    ·rename_i q;obtain⟨d,hd,hkd⟩:=ni (E _ _ A);have q:B.kind=1:=by simpa using q
     rw[q]at hkd;have hd:P.underlying t=some .bool:=by cases d<;>simp_all [kindOf]
     have U:∀n,(Op.equalIn (n+1) t (.bool s) (.bool u)).run P w= .ok (s==u) w:=fun n=>by simp[Op.equalIn,run_underlying hd]
     have L:(Op.equal t (.bool s) (.bool u)).run P w= .ok (s==u) w:=U 9999;split at b<;>first
      | (
        injection b with b;subst b
        refine bf (v:=_) ?_ h p rfl rfl;simp[execOp,i,f,e,c,binOp,L,bne];done)
      | cases b
    ·cases b
   ·cases b
  ·cases b
theorem asD {l:UnOp}{t:TypeId}{x:Operand}(f:o.op= .unOp l t x)(h:Hp S w0 N blk g al w)(d:(aB slot x).Rel S (aV N blk g) w g (a.eval x))
  (c:xUn l (aB slot x)=some out) (q:lY out.pre) (i:Post S w0 N blk g al w fr out o.dst a K):o.wp P a w K Q:=by
 unfold xUn at c;split at c
 ·rename_i b e;rw[e]at d;simp only[Sl.Rel,Sv.Rel,Lf.Rel]at d;injection c with c;subst c
  refine bf (v:=_) ?_ h i rfl rfl;simp[execOp,f,d,Op.unary]
 ·rename_i b e;rw[e]at d;simp only[Sl.Rel,Sv.Rel,Lf.Rel]at d;injection c with c;subst c
  refine bf (v:=_) ?_ h i rfl rfl;simp[execOp,f,d,Op.unary]
 ·rename_i p e;rw[e]at d;obtain⟨b,m,j⟩:=d;injection c with c;subst c
  refine bf (v:= .bool (!b)) ?_ h i rfl ⟨!b,rfl,by simpa using j⟩;simp[execOp,f,m,Op.unary]
 ·rename_i k n e;rw[e]at d;simp only[Sl.Rel,Sv.Rel,Lf.Rel]at d;injection c with c;subst c
  refine bf (v:=_) ?_ h i rfl rfl;simp[execOp,f,d,Op.unary,Op.intArith,dA]
 ·rename_i k n e;rw[e]at d;simp only[Sl.Rel,Sv.Rel,Lf.Rel]at d;injection c with c;subst c
  refine bf (v:=_) ?_ h i rfl rfl;simp[execOp,f,d,Op.unary,Op.intBits,afs]
 ·cases c
theorem agc {c x y:Operand}(ho:o.op= .pick c x y)(h:Hp S w0 N blk g al w)(hc:(aB slot c).Rel S (aV N blk g) w g (a.eval c))(f:(aB slot x).Rel S (aV N blk g) w g (a.eval x))
  (e:(aB slot y).Rel S (aV N blk g) w g (a.eval y)) (b:Yc slot c x y=some out) (i:Post S w0 N blk g al w fr out o.dst a K):o.wp P a w K Q:=by
 unfold Yc at b;split at b
 ·rename_i d;rw[d]at hc;simp only[Sl.Rel,Sv.Rel,Lf.Rel]at hc;injection b with b;subst b
  exact bf (v:=a.eval x) qco h i rfl f
 ·rename_i d;rw[d]at hc;simp only[Sl.Rel,Sv.Rel,Lf.Rel]at hc;injection b with b;subst b
  exact bf (v:=a.eval y) qco h i rfl e
 ·rename_i t d;rw[d]at hc;simp only[Sl.Rel,Sv.Rel,Lf.Rel]at hc;split at b
  ·rename_i p q k j;have f:=EP k f;have e:=EP j e;injection b with b;subst b
   cases t
   ·exact bf (v:=a.eval y) qco h i rfl e
   ·exact bf (v:=a.eval x) qco h i rfl f
  ·cases b
 ·cases b
end
end Go.Vc
namespace Go.Vc
open Go.RowKit
section
variable {D:Type}{P:Program}{S:Sh D}{T:TypeId->Option Ty}{Γ:FuncId->Option (Ct D)}{M N:Nat->Prop}{w w':World}{w0:Bs}{g:Nat->Option Value}{blk:Nat->Option (Bk D)}{al:Nat->Prop}
 {a:Act} {o:Oper} {K:Act->World->Prop} {Q:Exit->Act->World->Prop} {slot:Nat->Sl D} {out:Out D} {fr:Nat}
theorem YK:∀(b:List Value) (a k:Nat) (cs:Array Value),a+k+b.length<=cs.size->
  ((b.zipIdx k).foldl (fun(cs:Array Value) (p:Value×Nat)=>cs.setIfInBounds (a+p.2) p.1) cs).toList=cs.toList.take (a+k)++(b++cs.toList.drop (a+k+b.length))
 | [],a,k,cs,_=>by simp
 | u::b,a,k,cs,h=>by
  simp only[AB]at h;have c:a+k < cs.toList.length:=by simp;omega
  rw[List.zipIdx_cons,List.foldl_cons,YK b a (k+1) _ qbt];simp only[Array.toList_setIfInBounds];have e:(cs.toList.set (a+k) u).take (a+(k+1))=cs.toList.take (a+k)++[u]:=by
   rw[show a+(k+1)=(a+k)+1 by omega,Qbr (by simpa using c),Qeb,List.set_eq_of_length_le qbt];simp
  have d:(cs.toList.set (a+k) u).drop (a+(k+1)+b.length)=cs.toList.drop (a+k+(u::b).length):=by
   rw[Qdc au];congr 1;simp;omega
  rw[e,d];simp
theorem acj {v:Value}{a:Nat}{cs:Array Value}(h:a+v.cells.size<=cs.size):
  (v.cells.zipIdx.foldl (fun(cs:Array Value) (p:Value×Nat)=>cs.setIfInBounds (a+p.2) p.1) cs).toList=cs.toList.take a++(v.cells.toList++cs.toList.drop (a+v.cells.toList.length)):=by
 rw[<-Array.foldl_toList,Array.toList_zipIdx];simpa using YK v.cells.toList a 0 cs qbv
theorem aiY {y:Ty}{place:Nat->Option (Nat×Nat)}(k:∀l u,g l=some u->isRef u=true)(A:∀t,(slot t).Rel S M w g (a.tmps.getD t undef))
  (n:∀f c j q,y.aiA[f]? =some (c,j,q)->place f=some (c,j)):
  ∀(parts:List (Nat×Operand)) (cs e:List (Lf D)) (d:Array Value),aZ S M w g cs d.toList->GG y slot parts cs=some e->
   ∃i,Instr.fill place d (parts.map fun p=>(p.1,a.eval p.2))=some i/\aZ S M w g e i.toList
 | [],cs,e,d,h,b=>⟨d,rfl,by injection b with b;subst b;exact h⟩
 | (f,x)::r,cs,e,d,h,b=>by
  unfold GG at b;split at b
  ·rename_i c j q u H F;split at b
   ·rename_i m;simp only[iT]at m;obtain⟨⟨I,s⟩,C⟩:=m;have s:=Qa s;have C:=U5 C;have E:=oz A x;rw[F]at E;have m:=qZ k I E;have G:=m.length;have J:=h.length;have z:(a.eval x).cells.size=j:=by rw[<-s,G];simp
    have o:c+(a.eval x).cells.size<=d.size:=by
     have:d.toList.length=d.size:=by simp
     omega
    obtain⟨i,v,B⟩:=aiY k A n r _ e _ (by rw[acj o];exact h.putAt m c) b;refine⟨i,?_,B⟩;simp only[H7,Instr.fill,n f c j q H];rw[lW (by simp[z];omega)];exact v
   ·cases b
  ·cases b
theorem Cj:∀(a:List Field),(∀f∈a,cellsIn P f.type≠0)->
  (a.mapM fun f=>(do pure (f.offset,<-sizeOf f.type):Sem (Nat×Nat))).run P w= .ok (a.map fun f=>(f.offset,cellsIn P f.type)) w
 | [],_=>rfl
 | f::a,h=>by
  have d:=qx (P:=P) rfl (h f oI) w;have b:=Cj a fun x c=>h x (by simp[c])
  simp only[List.mapM_cons,Sem.run_bind,d,Result.andThen_ok,Sem.run_pure,b,H7]
theorem aeq {t:TypeId}{parts:Array (Nat×Operand)}(j:o.op= .build t parts)(u:∀t m,T t=some m->fB P t m)(h:Hp S w0 N blk g al w)
  (E:∀t,(slot t).Rel S (aV N blk g) w g (a.tmps.getD t undef)) (b:aba T slot t parts=some out) (H:Post S w0 N blk g al w fr out o.dst a K):o.wp P a w K Q:=by
 unfold aba at b;split at b
 ·rename_i m B;have y:=u _ _ B;split at b
  ·rename_i r;simp only[iT]at r;split at b
   ·rename_i cs F;injection b with b
    subst b;obtain⟨z,G,D⟩:=A7 y w;obtain⟨i,d,W,R,O,I,L,rfl⟩:=mD y;cases d with
    | struct l=>
     have n:∀f∈l.toList,cellsIn P f.type≠0:=by
      intro f s;have:=r.2;simp only[Lt,List.all_map,Rf,Function.comp,Qbi]at this;intro e;have:=this f s;rw[e]at this;simp at this
     obtain⟨k,c,C⟩:=aiY (a:=a) (place:=fun f=>((l.toList.map fun f=>(f.offset,cellsIn P f.type)).toArray)[f]?) h.refs E (fun f J V U j=>by
      simp only[Lt,Qbf,Qca,WB]at j;obtain⟨M,A,rfl,rfl,_⟩:=j;simp at A;simp[A]) parts.toList _ cs z.cells (by rw[D];exact qY _) F
     refine bf (v:= .agg k) ?_ h H rfl ⟨k.toList,by simp,C⟩;have s:=Cj (P:=P) (w:=w) l.toList n;have q:parts.toList.map (fun p=>(p.1,a.eval p.2))=(parts.map fun(i,x)=>(i,a.eval x)).toList:=by simp
     rw[q]at c;simp only[execOp,j,Instr.build,Sem.run_bind,G,Result.andThen_ok,run_underlying I];rw[Qda];simp only[Sem.run_map,s,Result.andThen_ok,Sem.run_pure];simp at c;simp[c]
    | _=>simp[kindOf]at r
   ·cases b
  ·cases b
 ·cases b
theorem UF {sz:Nat}(j:∀l u,g l=some u->isRef u=true)(s:∀t,(slot t).Rel S M w g (a.tmps.getD t undef)):
  ∀(parts:List (Nat×Operand)) (cs d:List (Lf D)) (c:Array Value),aZ S M w g cs c.toList->yw sz slot parts cs=some d->
   ∃e,Instr.fill (fun i=>some (i*sz,sz)) c (parts.map fun p=>(p.1,a.eval p.2))=some e/\aZ S M w g d e.toList
 | [],cs,d,c,h,b=>⟨c,rfl,by injection b with b;subst b;exact h⟩
 | (f,x)::r,cs,d,c,h,b=>by
  unfold yw at b;split at b
  ·rename_i u A;split at b
   ·rename_i k;simp only[iT]at k;obtain⟨⟨C,n⟩,y⟩:=k;have n:=Qa n;have y:=U5 y;have z:=oz s x;rw[A]at z;have k:=qZ j C z;have B:=k.length;have E:=h.length;have q:(a.eval x).cells.size=sz:=by rw[<-n,B];simp
    have m:f*sz+(a.eval x).cells.size<=c.size:=by
     have:c.toList.length=c.size:=by simp
     omega
    obtain⟨e,o,v⟩:=UF j s r _ d _ (by rw[acj m];exact h.putAt k (f*sz)) b;refine⟨e,?_,v⟩;simp only[H7,Instr.fill];rw[lW (by simp[q];omega)];exact o
   ·cases b
  ·cases b
theorem Gv {x:Lf D}{u:Value}(d:x.jE=true)(h:x.Rel S M w g u)(c:∀b,b < w.heap.size->¬M b->w'.heap[b]? =w.heap[b]?):Lf.plain x u/\∀a,x= .dat a->BZ S w' a u:=by
 cases x<;>first | (simp[Lf.jE]at d;done) | exact⟨h,fun a e=>by cases e⟩ | exact⟨trivial,fun a e=>by cases e;exact h w' c⟩
theorem amI {d:D}{b n:Nat}{e:TypeId}{h:Array Value}{cs:List (Lf D)}(m:iL S)(v:S.make e n cs=some d)(s:w.heap[b]? =some (.cells h e (0,0)))(r:¬M b)(z:aZ S M w g cs h.toList)(G:n<=9223372036854775807):
  dD S M w d (.slice (some ⟨b,0,none⟩) n n):=by
 intro w' t;obtain⟨B,H,C⟩:=m.make e n cs d v;have q:=(t b (vG s) r).trans s;have f:∀i j,i < n->j < S.size d->∃u,h.toList[i*S.size d+j]? =some u/\Lf.plain (S.cell d i j) u/\∀k,S.cell d i j= .dat k->BZ S w' k u:=by
  intro i j l c;obtain⟨x,E,o⟩:=C i j l c;obtain⟨u,a,p⟩:=z.get _ E;exact⟨u,a,Gv (m.data d i j au c) (o.rel p) t⟩
 have:=BZ.mk (S:=S) (w:=w') d (m.Wv _ _ _ _ v) (some ⟨b,0,none⟩) n (fun i j=>(h.toList[i*S.size d+j]?).getD undef) au au
  (fun i j l c=>by
   obtain⟨u,a,_⟩:=f i j au c;refine⟨_,rfl,?_⟩;simp only[a,Qcv];rw[lM,FQ];simp[World.cell?,q,<-a])
  (fun i j l c=>by
   obtain⟨u,a,A,_⟩:=f i j au c;simpa[a]using A)
  (fun i j k l c y=>by
   obtain⟨u,a,_,F⟩:=f i j au c;simpa[a]using F k y)
 rwa [B]at this
theorem sound_row {t:TypeId}{n:Nat}{parts:Array (Nat×Operand)}(G:iL S)(ho:o.op= .buildSlice t n parts)(C:∀t U,T t=some U->fB P t U)(h:Hp S w0 N blk g al w)
  (hs:∀t,(slot t).Rel S (aV N blk g) w g (a.tmps.getD t undef)) (hfr:∀n,fr<=n->n < fr+64->¬al n) (c:avZ T S slot fr t n parts=some out) (hK:Post S w0 N blk g al w fr out o.dst a K):o.wp P a w K Q:=by
 unfold avZ at c;split at c
 ·cases c
 ·rename_i U hty;split at c
  ·cases c
  ·rename_i e hel;split at c
   ·cases c
   ·rename_i f O;have hsl:=kG (C _ _ hty) hel;have hsz:=kU (C _ _ O) w;obtain⟨z,H,R⟩:=A7 (C _ _ O) w;split at c
    ·rename_i I;simp only[iT]at I;obtain⟨⟨h1,s⟩,Y⟩:=I;have h1:=U5 h1;have s:0 < f.size:=by simpa[CE]using s
     have Y:=Qa Y;have L:z.cells.size=f.size:=by rw[<-Y,<-R];simp
     split at c
     ·rename_i cs hf;split at c
      ·rename_i d Z;let r:Array Value:=(Array.range (n*f.size)).map fun k=>z.cells[k % z.cells.size]!
       have hzr:aZ S (aV N blk g) w g ((List.range (n*f.size)).map fun k=>(xx ((f.zero[k % f.size]?).getD (.bool false)):Lf D)) r.toList:=by
        have:r.toList=(List.range (n*f.size)).map fun k=>(f.zero[k % f.size]?).getD (.bool false):=by
         simp only[r,Array.toList_map,Array.toList_range];apply Qbk;intro k _;have W:k % f.size < z.cells.size:=by rw[L];exact Qc0 _ s
         rw[L,<-R];simp[W]
        rw[this];have H:=qY (S:=S) (M:=aV N blk g) (w:=w) (g:=g) (D:=D) ((List.range (n*f.size)).map fun k=>(f.zero[k % f.size]?).getD (.bool false));rw[Qcp]at H;exact H
       obtain⟨q,m,F⟩:=UF (a:=a) h.refs hs parts.toList _ cs r hzr hf;have hB:Below w.heap.size w (w.alloc (.cells q e)):=(Below.refl w.heap.size w).alloc (oC _) _;obtain⟨hp',J⟩:=h.grow hB;have y:(execOp a.eval o).run P w= .ok (.value (.slice (some ⟨w.heap.size,0,none⟩) n n)) (w.alloc (.cells q e)):=by
        have X:parts.toList.map (fun p=>(p.1,a.eval p.2))=(parts.map fun(i,x)=>(i,a.eval x)).toList:=by simp
        rw[X]at m;simp only[execOp,ho,Instr.buildSlice,Sem.run_bind,run_underlying hsl,Result.andThen_ok,hsz];rw[lW au];by_cases A:n*f.size=0
        ·simp only[A,if_true,Sem.run_bind,Sem.run_pure,Result.andThen_ok];have e0:r= #[]:=by simp[r,A]
         rw[e0]at m;simp at m;simp[m,newRow,newObj,Sem.run,show Array.range 0= #[]from rfl]
        ·simp only[A,if_false,Sem.run_bind,Sem.run_pure,Result.andThen_ok,H];simp only[r]at m;simp at m;simp[m,newRow,newObj,Sem.run]
       split at c
       ·injection c with c
        subst c;obtain⟨E,q2,q3⟩:=G.make _ _ _ _ Z;have B:q.toList.length=n*S.size d:=by rw[<-q2,Qbn];exact F.length.symm
        obtain⟨g1,g2,g3⟩:=h.add (l:=fr) (bk:= .row e d) (v:= .slice (some ⟨w.heap.size,0,none⟩) n n) hB (hfr fr (oC _) au) (fun b V=>by simp[eP]at V;omega)
         (fun M' W _=>by
          refine⟨⟨fun b V=> .inl ?_,⟨by rw[E];have:n*1<=n*f.size:=Qdj n s;omega,G.Wv _ _ _ _ Z⟩⟩,q.toList,⟨by rw[E];exact B, .inr ⟨w.heap.size,n,q,by rw[E],vP _,heap_alloc_new w _,by omega,?_,by simpa using B,?_⟩⟩,fun i j hi hj=> ?_⟩
          ·simp only[eP,Nj]at V;have:=h.below.size;omega
          ·have:n*1<=n*f.size:=Qdj n s;simp only[maxLen];omega
          ·rw[E,<-B];exact Lc
          ·rw[E]at hi;obtain⟨x,I,ab⟩:=q3 i j hi hj;obtain⟨u,hu,hru⟩:=F.norm.get _ I;refine⟨u,hu,G.data d i j au hj,(ab.rel hru).keep W (fun l v hl=> ?_)⟩;rw[bM _ _ _ _ qbk];exact hl)
        exact kJ y (hK _ _ _ g3 g2 (g1.weaken fun n A=>A.elim .inl fun e=> .inr ⟨Qc9 e.symm,by omega⟩) (upd_same _ _ _))
       injection c with c
       subst c;refine kJ y (hK _ _ _ (More.refl _) J (hp'.weaken fun _ h=> .inl h) ?_);exact amI G Z (heap_alloc_new w _) (fun aa=>by have:=h.mlt aa;omega) (F.norm.keep J (More.refl _)) (by have:n*1<=n*f.size:=Qdj n s;omega)
      ·cases c
     ·cases c
    ·cases c
theorem amM {c:Call}{x:Operand}(z:o.op= .call c)(C:c.callee= .builtin .len)(M:c.args.toList=[x])(L:∀t r,T t=some r->fB P t r)(h:Hp S w0 N blk g al w)
  (n:(aB slot x).Rel S (aV N blk g) w g (a.eval x)) (f:acw S T blk c.argTypes (aB slot x)=some out) (D:Post S w0 N blk g al w fr out o.dst a K):o.wp P a w K Q:=by
 have k:c.args= #[x]:=by rw[<-H5];exact M
 unfold acw at f;split at f
 ·cases f
 ·rename_i t y;split at f
  ·cases f
  ·rename_i r R;obtain⟨A,E,j⟩:=ni (L _ _ R);split at f
   ·rename_i d u;rw[u]at n;split at f
    ·rename_i i;have i:r.kind=4/\0 < S.size d:=by simpa using i
     obtain⟨i,B⟩:=i;obtain⟨F,p,m,_⟩:=dD.slice n B;rw[i]at j;cases A<;>simp[kindOf]at j
     injection f with f
     subst f;refine bf (v:= .int .i64 (S.len d)) ?_ h D rfl rfl;simp[execOp,z,resolve,C,invoke,builtin,Builtin.len_,k,y,run_underlying E,m,goInt]
    ·cases f
   ·rename_i s u;rw[u]at n;simp only[Sl.Rel,Sv.Rel,Lf.Rel]at n;split at f
    ·rename_i i;have i:r.kind=3:=by simpa using i
     rw[i]at j;cases A<;>simp[kindOf]at j
     injection f with f
     subst f;refine bf (v:= .int .i64 s.length) ?_ h D rfl rfl;have J:(ByteArray.mk s.toArray).size=s.length:=by show s.toArray.size=_;simp
     simp[execOp,z,resolve,C,invoke,builtin,Builtin.len_,k,y,run_underlying E,n,goInt,J]
    ·cases f
   ·rename_i l u;rw[u]at n;simp only[Sl.Rel,Sv.Rel,Lf.Rel]at n;split at f
    ·rename_i e d H;split at f
     ·rename_i i;have i:r.kind=4:=by simpa using i
      rw[i]at j;cases A<;>simp[kindOf]at j
      injection f with f
      subst f;obtain⟨v,m,_,X,⟨_,I⟩,_⟩:=h.dn l _ H;rw[n]at m;injection m with m
      have O:∃F p,a.eval x= .slice F (S.len d) p:=by
       rcases I with⟨U,V⟩ | ⟨b,p,W,q,_⟩
       ·exact⟨none,0,by rw[m,U,V]⟩
       ·exact⟨_,p,m.trans q⟩
      obtain⟨F,p,q⟩:=O;refine bf (v:= .int .i64 (S.len d)) ?_ h D rfl rfl;simp[execOp,z,resolve,C,invoke,builtin,Builtin.len_,k,y,run_underlying E,q,goInt]
     ·cases f
    ·rename_i d H;split at f
     ·rename_i i;have i:r.kind=4/\0 < S.size d:=by simpa using i
      obtain⟨i,B⟩:=i;rw[i]at j;cases A<;>simp[kindOf]at j
      injection f with f
      subst f;obtain⟨v,m,G⟩:=h.dn l _ H;rw[n]at m;injection m with m
      obtain⟨F,p,q,_⟩:=dD.slice (show dD S (aV N blk g) w d v from G) B;rw[q]at m;refine bf (v:= .int .i64 (S.len d)) ?_ h D rfl rfl;simp[execOp,z,resolve,C,invoke,builtin,Builtin.len_,k,y,run_underlying E,m,goInt]
     ·cases f
    ·cases f
   ·rename_i u;rw[u]at n;simp only[Sl.Rel,Sv.Rel,Lf.Rel]at n;split at f
    ·rename_i i;have i:r.kind=4:=by simpa using i
     rw[i]at j;cases A<;>simp[kindOf]at j
     injection f with f
     subst f;refine bf (v:= .int .i64 0) ?_ h D rfl rfl;simp[execOp,z,resolve,C,invoke,builtin,Builtin.len_,k,y,run_underlying E,n,goInt]
    ·cases f
   ·cases f
theorem Ym {c:Call}{x y:Operand}{b:Builtin}(u:b= .min\/b= .max)(p:o.op= .call c)(r:c.callee= .builtin b)(q:c.args.toList=[x,y])(h:Hp S w0 N blk g al w)
  (i:(aB slot x).Rel S (aV N blk g) w g (a.eval x)) (f:(aB slot y).Rel S (aV N blk g) w g (a.eval y)) (d:av4 b (aB slot x) (aB slot y)=some out) (s:Post S w0 N blk g al w fr out o.dst a K):o.wp P a w K Q:=by
 have e:c.args= #[x,y]:=by rw[<-H5];exact q
 unfold av4 at d;split at d
 ·rename_i k n t m j l;rw[j]at i;rw[l]at f;simp only[Sl.Rel,Sv.Rel,Lf.Rel]at i f;injection d with d
  subst d;refine bf (v:= .int k (min n m)) ?_ h s rfl rfl;have:(if m < n then m else n)=min n m:=by split<;>omega
  simp[execOp,p,resolve,r,invoke,builtin,Builtin.min_,Builtin.min2,e,i,f,this]
 ·rename_i k n t m j l;rw[j]at i;rw[l]at f;simp only[Sl.Rel,Sv.Rel,Lf.Rel]at i f;injection d with d
  subst d;refine bf (v:= .int k (max n m)) ?_ h s rfl rfl;have:(if n < m then m else n)=max n m:=by split<;>omega
  simp[execOp,p,resolve,r,invoke,builtin,Builtin.max_,Builtin.max2,e,i,f,this]
 ·cases d
end
end Go.Vc
namespace Go.Vc
open Go.RowKit
section
variable {D:Type}{P:Program}{S:Sh D}{T:TypeId->Option Ty}{M N:Nat->Prop}{w w':World}{w0:Bs}{g:Nat->Option Value}{blk:Nat->Option (Bk D)}{al:Nat->Prop}
 {a:Act} {o:Oper} {K:Act->World->Prop} {Q:Exit->Act->World->Prop} {slot:Nat->Sl D} {out:Out D} {fr:Nat}
theorem akb {p:Nat->Value->Prop}:∀(n:Nat),(∀k,k < n->∃u,p k u)->∃l:List Value,l.length=n/\∀k u,l[k]? =some u->p k u
 | 0,_=>⟨[],rfl,fun k u h=>by simp at h⟩
 | n+1,h=>by
  obtain⟨l,g,f⟩:=akb n fun k b=>h k au
  obtain⟨u,e⟩:=h n au;refine⟨l++[u],by simp[g],fun k x a=> ?_⟩;by_cases b:k < l.length
  ·rw[Qa6 b]at a;exact f k x a
  ·rw[Qay au]at a;have c:k - l.length=0:=by
    rcases Qcm (k - l.length)with d | d
    ·exact d
    ·rw[Qbw qbt]at a;cases a
   rw[c]at a;simp at a;subst a;have:k=n:=by omega
   subst this;exact e
theorem Rt {x:Lf D}{v:Value}(c:x.jE=true)(h:x.Rel S M w g v):v.oneCell'=true:=by
 cases x with
 | bool b=>simp only[Lf.Rel]at h;subst h;rfl
 | int k n=>simp only[Lf.Rel]at h;subst h;rfl
 | str s=>obtain⟨rfl,_⟩:=h;rfl
 | dat d=>rcases dD.form h with⟨a,e,rfl⟩ | ⟨r,rfl⟩<;>rfl
 | O_ x=>obtain⟨rfl,_⟩:=h;cases x<;>rfl
 | _=>simp[Lf.jE]at c
theorem vK (v:Value)(h:∃a n c,v= .slice a n c):v.ownBlock=eP v:=by
 obtain⟨a,n,c,rfl⟩:=h;cases a<;>rfl
theorem Jk (z:iL S){d:D}{v:Value}(h:dD S M w d v)(o:0 < S.size d):∃(q:Option Addr) (m:Nat) (b:List Value),v= .slice q (S.len d) m/\b.length=S.len d*S.size d/\
  (∀r,q=some r->∀j u,b[j]? =some u->w.cell? (r.add j)=some u)/\(q=none->S.len d=0)/\(∀u∈b,u.oneCell'=true)/\
  ∀i j,i < S.len d->j < S.size d->∃u,b[i*S.size d+j]? =some u/\(S.cell d i j).Rel S M w g u:=by
 obtain⟨q,m,rfl,B⟩:=h.slice o;rcases Qcm (S.len d)with s | s
 ·exact⟨q,m,[],rfl,by simp[s],fun _ _ j u c=>by simp at c,fun _=>s,fun u a=>by simp at a,fun i j f=>by omega⟩
 ·obtain⟨r,rfl⟩:=h.Aw s o;obtain⟨l,y,x⟩:=akb (p:=fun k u=>w.cell? (r.add k)=some u/\(S.cell d (k / S.size d) (k % S.size d)).Rel S M w g u/\k / S.size d < S.len d) (S.len d*S.size d) fun k t=>by
   have f:k / S.size d < S.len d:=by rw[Nat.div_lt_iff_lt_mul o];exact t
   obtain⟨u,a,n⟩:=h.cell (g:=g) f (Qc0 k o);have:k / S.size d*S.size d+k % S.size d=k:=by rw[Qcr];exact Nat.div_add_mod k (S.size d)
   rw[this]at a;exact⟨u,a,n,f⟩
  refine⟨some r,m,l,rfl,y,fun E e j u c=>by injection e with e;subst e;exact(x j u c).1,(fun e=>by cases e),fun u a=> ?_,fun i j f c=> ?_⟩
  ·obtain⟨k,t⟩:=List.getElem?_of_mem a;obtain⟨_,n,f⟩:=x k u t;exact Rt (z.data _ _ _ f (Qc0 k o)) n
  ·have F:=oQ f c;obtain⟨u,a⟩:∃u,l[i*S.size d+j]? =some u:=⟨_,Ph au⟩;obtain⟨_,n,_⟩:=x _ u a;have C:(i*S.size d+j) / S.size d=i:=by rw[Qcr,Nat.mul_add_div o,Nat.div_eq_of_lt c,Pj]
   have A:(i*S.size d+j) % S.size d=j:=by rw[Qcr,Qd2,Qbv c]
   rw[C,A]at n;exact⟨u,a,n⟩
theorem ate (M:iL S)(h:Hp S w0 N blk g al w){l:Nat}{e:TypeId}{d:D}{v:Value}(J:blk l=some (.row e d))(K:g l=some v):∃(z:Option Addr) (r:Nat) (c:List Value),v= .slice z (S.len d) r/\c.length=S.len d*S.size d/\
  (∀A,z=some A->∀j u,c[j]? =some u->w.cell? (A.add j)=some u)/\(z=none->S.len d=0)/\(∀u∈c,u.oneCell'=true)/\
  ∀i j,i < S.len d->j < S.size d->∃u,c[i*S.size d+j]? =some u/\(S.cell d i j).Rel S (aV N blk g) w g u:=by
 obtain⟨O,m,Q,x,a,f⟩:=h.dn l _ J;rw[K]at m;injection m with m
 subst m;have p:∀u∈x,u.oneCell'=true:=by
  intro u y;obtain⟨k,G⟩:=List.getElem?_of_mem y;have o:k < x.length:=(Qa1.1 G).1;rw[a.1]at o;have H:0 < S.size d:=by
   rcases Qcm (S.size d)with q | q
   ·rw[q]at o;simp at o
   ·exact q
  have t:k / S.size d < S.len d:=by rw[Nat.div_lt_iff_lt_mul H];exact o
  obtain⟨P,n,C,B⟩:=f _ _ t (Qc0 k H);have:k / S.size d*S.size d+k % S.size d=k:=by rw[Qcr];exact Nat.div_add_mod k (S.size d)
  rw[this,G]at n;injection n with n
  subst n;exact Rt C B
 rcases a.2 with⟨q,E⟩ | ⟨b,r,L,F,I⟩
 ·exact⟨none,0,x,by rw[q,E],a.1,fun _ e=>by(cases e),fun _=>E,p,fun i j t s=>by omega⟩
 ·refine⟨_,r,x,F,a.1,fun A e j u s=> ?_,(fun e=>by cases e),p,fun i j t s=> ?_⟩
  ·injection e with e
   subst e;subst F;exact a.cells (g:=b) rfl j u s
  ·obtain⟨u,y,_,B⟩:=f i j t s;exact⟨u,y,B⟩
theorem Hq (l:iL S)(h:Hp S w0 N blk g al w){y:Sl D}{v:Value}{d:D}(f:y.Rel S (aV N blk g) w g v)(a:Ji blk y=some d)(q:0 < S.size d):∃(k:Option Addr) (p:Nat) (b:List Value),v= .slice k (S.len d) p/\b.length=S.len d*S.size d/\
  (∀n,k=some n->∀j u,b[j]? =some u->w.cell? (n.add j)=some u)/\(k=none->S.len d=0)/\(∀u∈b,u.oneCell'=true)/\
  ∀i j,i < S.len d->j < S.size d->∃u,b[i*S.size d+j]? =some u/\(S.cell d i j).Rel S (aV N blk g) w g u:=by
 unfold Ji at a;split at a
 ·injection a with a
  subst a;exact Jk l f q
 ·split at a
  ·rename_i e r m;injection a with a
   subst a;exact ate l h m f
  ·rename_i r m;injection a with a
   subst a;obtain⟨s,c,o⟩:=h.dn _ _ m;have f:g _=some v:=f;rw[f]at c;injection c with c
   subst c;exact Jk l o q
  ·cases a
 ·cases a
theorem TB (t E e:TypeId)(i:TypeInfo)(z:Value)(a bytes:Nat)(s:P.underlying t=some (.slice e))(x:P.info? e=some i)(L:i.zero=some z)
  (r:i.size=a) (D:i.bytes=bytes) (C:z.cells.size=a) (F:0 < a)
  (v:Value) (n:Nat) (y:List Value) (f:w.ownsRow 0 e a v n y)
  (o:Option Addr) (m c:Nat) (d:List Value) (B:d.length=m*a) (p:∀k,o=some k->∀j u,d[j]? =some u->w.cell? (k.add j)=some u) (q:o=none->m=0) (K:∀u∈d,u.oneCell'=true)
  (G:n+m<=maxLen) (l:(n+m)*bytes<=140737488355328):
  ∃g h,(Builtin.append_ #[t,t] E #[v, .slice o m c]).run P w= .ok g h/\h.ownsRow 0 e a g (n+m) (y++d)/\w.grownBy h v.ownBlock/\(g.ownBlock=v.ownBlock\/g.ownBlock=some w.heap.size):=by
 cases o with
 | some k=>
  obtain⟨g,h,I,M,J,_,H⟩:=run_append_own_at (P:=P) w 0 t E e i z a bytes s x L r D C F v n y f k m c d B (p k rfl) K G l (vP _);exact⟨g,h,I,M,J,H⟩
 | none=>
  obtain rfl:=q rfl;obtain rfl:d=[]:=Qcx (by simpa using B);refine⟨v,w,?_,by simpa using f,⟨rfl,rfl,rfl,oC _,fun _ _ _=>rfl⟩, .inl rfl⟩;rcases f.2 with⟨rfl,rfl⟩ | ⟨b,N,O,rfl,_,Q,A,_⟩
  ·simp[Builtin.append_,run_underlying s,sizeOf,typeInfo,x,Builtin.lenOf,Builtin.firstCells]
  ·simp[Builtin.append_,run_underlying s,sizeOf,typeInfo,x,Builtin.lenOf,Builtin.firstCells,A,storeCells]
theorem ul {t:TypeId}{a:Ty}(h:fB P t a):∃i z,P.info? t=some i/\i.zero=some z/\i.size=a.size/\i.bytes=a.bytes/\z.cells.toList=a.zero:=by
 obtain⟨i,d,z,e,c,f,b,rfl⟩:=mD h;exact⟨i,z,c,b,rfl,rfl,rfl⟩
theorem UL {b:Nat->Prop}{a:Nat}:∀n,(b n\/n=a)->b n\/(a<=n/\n < a+64):=fun n c=>c.elim .inl fun e=> .inr ⟨Qc9 e.symm,by omega⟩
theorem abP {c:Call}{x y:Operand}(M:iL S)(ho:o.op= .call c)(hc:c.callee= .builtin .append)(hx':c.args.toList=[x,y])(hTy:∀t ty,T t=some ty->fB P t ty)(h:Hp S w0 N blk g al w)(hfr:∀n,fr<=n->n < fr+64->¬al n)
  (H:(aB slot x).Rel S (aV N blk g) w g (a.eval x)) (hy:(aB slot y).Rel S (aV N blk g) w g (a.eval y)) (f:Ey T S blk fr c.argTypes (aB slot x) (aB slot y)=some out) (hp:lY out.pre)
  (hK:Post S w0 N blk g al w fr out o.dst a K):o.wp P a w K Q:=by
 have hargs:c.args= #[x,y]:=by rw[<-H5];exact hx'
 have ab:∀v',More g (upd g fr (some v')):=fun v' l v hl=>by
  rw[bM _ _ _ _ qbk];exact hl
 unfold Ey at f;split at f
 ·rename_i t t' htt;split at f
  ·rename_i Wp;have Wp:=Qa Wp;subst Wp;have hat:c.argTypes= #[t,t]:=by rw[<-H5];exact htt
   split at f
   ·cases f
   ·rename_i ty hty;split at f
    ·cases f
    ·rename_i e hel;split at f
     ·cases f
     ·rename_i s hte;split at f
      ·cases f
      ·rename_i d2 hd2;have hsl:=kG (hTy _ _ hty) hel;obtain⟨i,z,hi,hz,q1,q2,q3⟩:=ul (hTy _ _ hte);split at f
       ·rename_i J;simp only[iT]at J;have e1:=Qa J.1.1;have e2:0 < s.size:=by simpa[CE]using J.1.2
        have e3:=Qa J.2;have hzs:z.cells.size=s.size:=by rw[<-e3,<-q3];simp
        obtain⟨av,cap,B,hv2,hl2,hc2,hn2,h12,E⟩:=Hq M h hy hd2 au;have run:∀(r:Value) (n:Nat) (D:List Value),a.eval x=r->w.ownsRow 0 e s.size r n D->dE (n+S.len d2) s.bytes->
          ∃v' w',(execOp a.eval o).run P w= .ok (.value v') w'/\w'.ownsRow 0 e s.size v' (n+S.len d2) (D++B)/\w.grownBy w' r.ownBlock/\(v'.ownBlock=r.ownBlock\/v'.ownBlock=some w.heap.size):=by
         intro r n D A q L;obtain⟨v',w',Y,G,p,m⟩:=TB (P:=P) (w:=w) t o.type e i z s.size s.bytes hsl hi hz q1 q2 hzs e2 r n D q av (S.len d2) cap B (by rw[e1];exact hl2) hc2 hn2 h12 (by have:=L.1;simp only[maxLen];omega) L.2;refine⟨v',w',?_,G,p,m⟩;simp only[execOp,ho,resolve,hc,invoke,builtin,hargs,hat,Sem.run_bind,Sem.run_pure,Result.andThen_ok,Qb9,H7,Qcq,A,hv2,Y]
        split at f
        ·rename_i aa;injection f with f
         subst f;rw[aa]at H;obtain⟨v',w',Y,G,p,m⟩:=run (.slice none 0 0) 0 [] H (World.ownsRow_nil w 0 e s.size) (by rw[FQ];exact hp);have hB:Below w.heap.size w w':=⟨p.os,p.tape,p.output,p.size,fun k O=>p.block k O (by simp[Value.ownBlock])⟩;have CZ:∃a n c,v'= .slice a n c:=by rcases G.2 with⟨rfl,_⟩ | ⟨b,cp,cur,rfl,_⟩<;>exact⟨_,_,_,rfl⟩
         have X:∀b,eP v'=some b->w.heap.size<=b:=by
          intro b hb;rw[vK v' CZ]at m;rcases m with m | m
          ·rw[hb]at m;simp[Value.ownBlock]at m
          ·rw[hb]at m;injection m with m;omega
         obtain⟨g1,g2,g3⟩:=h.add (l:=fr) (bk:= .row e d2) (v:=v') hB (hfr fr (oC _) au) X (fun M' O _=>by
          refine⟨⟨fun b hb=> .inl (EZ h.below.size (X b hb)),⟨by have:dE (S.len d2) s.bytes:=hp;have:=this.1;omega,M.aoj au⟩⟩,B,?_,fun F j I hj=> ?_⟩
          ·have:=G;rw[FQ,Qdo,e1]at this;exact this
          ·obtain⟨u,U,W⟩:=E F j I hj;exact⟨u,U,M.data _ _ _ I hj,W.keep O (ab _)⟩)
         exact kJ Y (hK _ _ _ g3 g2 (g1.weaken UL) (upd_same _ _ _))
        ·rename_i l aa;rw[aa]at H;have H:g l=some (a.eval x):=H;split at f
         ·rename_i e' d1 hb;split at f
          ·rename_i ac;have ac:=Qa ac;subst ac;split at f
           ·rename_i d FU;injection f with f
            subst f;obtain⟨c1,c2,c3,c4,c5⟩:=M.cat _ _ _ FU;obtain⟨r,A,hm,D,q,hcell⟩:=h.dn l _ hb;rw[H]at A;injection A with A
            have es:s.size=S.size d1:=by omega
            rw[<-es]at q;obtain⟨v',w',Y,G,p,m⟩:=run r (S.len d1) D A q hp;have V:∃a n c,r= .slice a n c:=by rcases q.2 with⟨rfl,_⟩ | ⟨b,cp,cur,rfl,_⟩<;>exact⟨_,_,_,rfl⟩
            have CZ:∃a n c,v'= .slice a n c:=by rcases G.2 with⟨rfl,_⟩ | ⟨b,cp,cur,rfl,_⟩<;>exact⟨_,_,_,rfl⟩
            rw[vK v' CZ,vK r V]at m;rw[vK r V]at p;obtain⟨g1,g2,g3⟩:=h.move (l:=l) (fr:=fr) (bk':= .row e d) (v:=r) (v':=v') qck (A▸H) (hfr fr (oC _) au) p.os p.tape p.output p.size (fun n hn hne=>p.block n hn fun e=>hne e.symm)
             (fun b C=>by
              rcases m with m | m
              ·exact .inl (m▸C)
              ·rw[C]at m;injection m with m;exact .inr au)
             (fun M' O _=>by
              refine⟨⟨fun b C=> ?_,⟨by have:dE (S.len d1+S.len d2) s.bytes:=hp;have:=this.1;omega,M.Wu _ _ _ ‹_›⟩⟩,D++B,?_,fun F j I hj=> ?_⟩
              ·rcases m with m | m
               ·exact hm.1 b (m▸C)
               ·rw[C]at m;injection m with m;exact .inl (m▸h.below.size)
              ·have:=G;rw[show s.size=S.size d by omega,<-c3]at this;exact this
              ·rw[c3]at I;have R:D.length=S.len d1*S.size d:=by rw[q.1];congr 1;omega
               by_cases Z:F < S.len d1
               ·obtain⟨u,U,hda,W⟩:=hcell F j Z au;rw[c4 F j Z];refine⟨u,?_,hda,W.keep O (ab _)⟩;rw[Qa6 (by rw[R];exact oQ Z hj),<-U,c1]
               ·obtain⟨k,rfl⟩:∃k,F=S.len d1+k:=⟨F - S.len d1,by omega⟩;obtain⟨u,U,W⟩:=E k j au au;rw[c5 k j au];refine⟨u,?_,M.data _ _ _ au au,W.keep O (ab _)⟩;rw[Qay (by rw[R,Qcj];omega),<-U,R,Qcj,c2];congr 1;omega)
            exact kJ Y (hK _ _ _ g3 g2 (g1.weaken UL) (upd_same _ _ _))
           ·cases f
          ·cases f
         ·cases f
        ·cases f
       ·cases f
  ·cases f
 ·cases f
theorem aeg {t:TypeId}{x e:Operand}(B:o.op= .index t x e)(q:∀t f,T t=some f->fB P t f)(h:Hp S w0 N blk g al w)(c:(aB slot x).Rel S (aV N blk g) w g (a.eval x))
  (l:(aB slot e).Rel S (aV N blk g) w g (a.eval e)) (b:Si T t (aB slot x) (aB slot e)=some out) (D:lY out.pre) (E:Post S w0 N blk g al w fr out o.dst a K):o.wp P a w K Q:=by
 unfold Si at b;split at b
 ·cases b
 ·rename_i f u;split at b
  ·rename_i s k n r A;rw[r]at c;rw[A]at l;simp only[Sl.Rel,Sv.Rel,Lf.Rel]at c l;obtain⟨c,F⟩:=c;split at b
   ·rename_i m;obtain⟨d,y,z⟩:=ni (q _ _ u);have m:f.kind=3:=by simpa using m
    rw[m]at z;have y:P.underlying t=some .string:=by cases d<;>simp_all [kindOf]
    injection b with b
    subst b;obtain⟨C,G⟩:=D;have i:n.toNat < s.length:=by omega
    refine bf (v:= .int .u8 ((s.getD n.toNat 0).toNat:Nat)) ?_ h E rfl rfl;have j:(ByteArray.mk s.toArray)[n.toNat]? =some (s.getD n.toNat 0):=by
     have p:n.toNat < (ByteArray.mk s.toArray).size:=by show n.toNat < s.toArray.size;simpa using i
     rw[getElem?_pos (ByteArray.mk s.toArray) n.toNat p];congr 1;show s.toArray[n.toNat]=_
     simp[List.getD,i]
    simp[execOp,B,Instr.index,l,asIntOf,run_underlying y,c,C,j]
   ·cases b
  ·cases b
theorem Yj {k a:IntKind}(h:al0 (rD k)=some a):k=a:=by cases k<;>simp[rD,al0]at h<;>exact h
theorem ahM {t c:TypeId}{x:Operand}(s:o.op= .convert t c x)(e:∀t f,T t=some f->fB P t f)(h:Hp S w0 N blk g al w)(j:(aB slot x).Rel S (aV N blk g) w g (a.eval x))
  (b:ael T t c (aB slot x)=some out) (A:lY out.pre) (y:Post S w0 N blk g al w fr out o.dst a K):o.wp P a w K Q:=by
 unfold ael at b;split at b
 ·rename_i tys f z n u q m;rw[m]at j;simp only[Sl.Rel,Sv.Rel,Lf.Rel]at j;split at b
  ·rename_i k i;injection b with b
   subst b;obtain⟨d,l,r⟩:=ni (e _ _ q);obtain⟨d0,p,_⟩:=ni (e _ _ u);have l:P.underlying c=some (.int k):=by
    rw[<-r]at i;cases d<;>simp[kindOf,al0]at i
    rw[l,Yj i]
   refine bf (v:= .int k (dA k n)) ?_ h y rfl rfl;simp[execOp,s,convert,run_underlying p,run_underlying l,j,Conv.intToInt,dA]
  ·cases b
 ·cases b
theorem akc (d:∀t,(slot t).Rel S (aV N blk g) w g (a.tmps.getD t undef)):∀(e:List Operand) (c:List Nat),DK slot e=some c->c.map g=(e.map a.eval).map some
 | [],c,h=>by simp[DK]at h;subst h;rfl
 | x::r,c,h=>by
  unfold DK at h;split at h
  ·rename_i l f j m;injection h with h
   subst h;have:=oz d x;rw[j]at this;obtain⟨b,k,i⟩:=this;simp only[H7,akc d r f m,i,k]
  ·cases h
theorem agw {t:TypeId}{x y:Operand}(E:iL S)(ho:o.op= .makeSlice t x y)(C:∀t I,T t=some I->fB P t I)(h:Hp S w0 N blk g al w)(X:∀n,fr<=n->n < fr+64->¬al n)(M:(aB slot x).Rel S (aV N blk g) w g (a.eval x))
  (G:(aB slot y).Rel S (aV N blk g) w g (a.eval y)) (c:aqn T S fr t (aB slot x) (aB slot y)=some out) (hp:lY out.pre) (hK:Post S w0 N blk g al w fr out o.dst a K):o.wp P a w K Q:=by
 unfold aqn at c;split at c
 ·cases c
 ·rename_i I hty;split at c
  ·cases c
  ·rename_i e hel;split at c
   ·cases c
   ·rename_i u hte;have hsl:=kG (C _ _ hty) hel;obtain⟨i,z,hi,hz,A,q2,Y⟩:=ul (C _ _ hte);split at c
    ·rename_i k n k' m Z CY;rw[Z]at M;rw[CY]at G;simp only[Sl.Rel,Sv.Rel,Lf.Rel]at M G;split at c
     ·rename_i L;simp only[iT]at L;have e2:0 < u.size:=by simpa[CE]using L.1
      have e3:=Qa L.2;have V:z.cells.size=u.size:=by rw[<-e3,<-Y];simp
      split at c
      ·rename_i d hd;injection c with c
       subst c;obtain⟨rfl,p1,p2,p3⟩:=hp;obtain⟨q,z2,z3⟩:=E.zero _ _ _ _ hd;have f:S.size d=u.size:=by rw[<-z2,Qbn,e3]
       have H:=run_make (P:=P) w t e i z hsl hi hz k k' n n p1 (H8 _) (by rw[q2,Int.mul_comm];exact p2) au;have r:(execOp a.eval o).run P w= .ok (.value (.slice (some ⟨w.heap.size,0,none⟩) n.toNat n.toNat)) (w.alloc (.cells (madeCells z.cells (n.toNat*i.size)) e)):=by
        simp only[execOp,ho,M,G,Sem.run_bind,H,Result.andThen_ok,Sem.run_pure]
       have hB:Below w.heap.size w (w.alloc (.cells (madeCells z.cells (n.toNat*i.size)) e)):=(Below.refl w.heap.size w).alloc (oC _) _;obtain⟨g1,g2,g3⟩:=h.add (l:=fr) (bk:= .row e d) (v:= .slice (some ⟨w.heap.size,0,none⟩) n.toNat n.toNat) hB (X fr (oC _) au) (fun b J=>by simp[eP]at J;omega)
        (fun M' hk _=>by
         refine⟨⟨fun b J=> .inl ?_,by rw[q];omega,E.Wx _ _ _ _ hd⟩,(madeCells z.cells (n.toNat*i.size)).toList,⟨?_, .inr ⟨w.heap.size,n.toNat,_,by rw[q],vP _,heap_alloc_new w _,by omega,by simp only[maxLen];omega,?_,?_⟩⟩,fun R j p s=> ?_⟩
         ·simp only[eP,Nj]at J;have:=h.below.size;omega
         ·rw[WJ,size_madeCells,q,f,A]
         ·rw[size_madeCells,f,A]
         ·rw[Qdt];rw[WJ,size_madeCells,q,f,A];exact oC _
         ·rw[q]at p;obtain⟨x0,B,U⟩:=z3 R j p s;have W:=oQ p s;have D:j < z.cells.size:=by omega
          have O:(R*S.size d+j) % z.cells.size=j:=by rw[V,<-f,Qcr,Qd2,Qbv s]
          refine⟨z.cells[j],?_,E.data _ _ _ au s,U.rel ?_⟩
          ·have F:R*S.size d+j < n.toNat*i.size:=by rw[A,<-f];exact W
           simp[madeCells,F,O,D]
          ·have hzj:u.zero[j]? =some z.cells[j]:=by rw[<-Y];simp[D]
           simp only[Qbf,hzj,H6,Nj]at B;rw[<-B];exact(zV _).norm)
       exact kJ r (hK _ _ _ g3 g2 (g1.weaken UL) (upd_same _ _ _))
      ·cases c
     ·cases c
    ·cases c
end
end Go.Vc
