/- Own engine: Vd4, Vd5, Vd6, Vd7, Vdf. -/
import Derived.Test.YtgdmjfkdbfafjaaGreatDoorEng1
import Derived.WalkSpells
import Derived.Maps.AppendAt
import Derived.Laws.MakeOwn
set_option linter.unusedVariables false
set_option linter.unusedSimpArgs false
namespace Go.Vc
open Go.RowKit
def mM {a:Type}:(Nat->a)->List (Nat×a)->(Nat->a)
 | f,[]=>f
 | f,(k,v)::r=>mM (upd f k v) r
def aF0 {D:Type}:Dl D->Option Pv
 | .bool b=>some (.bool b)
 | .int k n=>some (.int k n)
 | .str s=>some (.str s)
 | _=>none
def RF {D:Type}:List (Dl D)->Option (List Pv)
 | []=>some []
 | x::a=>(match aF0 x,RF a with
  | some p,some b=>some (p::b)
  | _,_=>none)
def Lf.Le {D:Type}(S:Sh D)(x y:Lf D):Prop:=x=y\/(x= .val (.slice none 0 0)/\∃d,y= .dat d/\S.len d=0/\S.mp d=none)\/(∃b,x= .val (.bool b)/\y= .bool b)\/(∃t e c a,x= .xt (.ifd t e c)/\y= .Ze (some ⟨t,e,a⟩)/\RF c=some a)\/∃d,x= .xt (.clip d)/\y= .dat d
structure jE {D:Type}(S:Sh D):Prop where
 make:∀e n cs d,S.make e n cs=some d->S.len d=n/\cs.length=n*S.size d/\
  ∀i j,i < n->j < S.size d->∃x,cs[i*S.size d+j]? =some x/\x.Le S (S.cell d i j)
 data:∀d i j,i < S.len d->j < S.size d->(S.cell d i j).kF=true
 zero:∀e n zs d,S.zero e n zs=some d->S.len d=n/\zs.length=S.size d/\∀i j,i < n->j < S.size d->∃x,zs[j]? =some x/\x.Le S (S.cell d i j)
 set:∀d i j xs d',S.set d i j xs=some d'->i < S.len d->S.size d'=S.size d/\S.len d'=S.len d/\
  ∀i' j',i' < S.len d->j' < S.size d->(i'=i/\j<=j'/\j' < j+xs.length->∃x,xs[j' - j]? =some x/\x.Le S (S.cell d' i' j'))/\(¬(i'=i/\j<=j'/\j' < j+xs.length)->S.cell d' i' j'=S.cell d i' j')
 cat:∀d1 d2 d,S.cat d1 d2=some d->S.size d1=S.size d/\S.size d2=S.size d/\S.len d=S.len d1+S.len d2/\
  (∀i j,i < S.len d1->S.cell d i j=S.cell d1 i j)/\∀i j,i < S.len d2->S.cell d (S.len d1+i) j=S.cell d2 i j
 sub:∀d i j d',S.sub d i j=some d'->i<=j->j<=S.len d->S.size d'=S.size d/\S.len d'=j - i/\∀k c,k < j - i->S.cell d' k c=S.cell d (i+k) c
 text:∀e s d,S.text e s=some d->S.size d=1/\S.len d=s.length/\∀i,i < s.length->S.cell d i 0= .int .u8 (s.getD i 0).toNat
 afh:∀e n cs d,S.make e n cs=some d->S.mp d=none
 afi:∀e n zs d,S.zero e n zs=some d->S.mp d=none
 aM0:∀d i j xs d',S.set d i j xs=some d'->S.mp d=none->S.mp d'=none
 Y_:∀d1 d2 d,S.cat d1 d2=some d->S.mp d=none
 Jc:∀d i j d',S.sub d i j=some d'->S.mp d=none/\S.mp d'=none
 aNU:∀e s d,S.text e s=some d->S.mp d=none
 A7:∀d m,S.mp d=some m->S.len d=0/\S.size d=0/\aDR S m
 aFt:∀t d,S.azD t=some d->∃m,S.mp d=some m/\m.kvs=[]
 aNT:∀i d,S.SX i=some d->S.mp d=none
theorem jE.asb {D:Type}{S:Sh D}(h:jE S){d:D}(b:0 < S.size d):S.mp d=none:=by
 cases a:S.mp d with
 | none=>rfl
 | some m=>have:=(h.A7 d m a).2.1;omega
def iY {D:Type}(S:Sh D)(M:Nat->Prop)(w:World)(g:Nat->Option Value):List (Sl D)->List Value->Prop
 | [],[]=>True
 | x::a,v::b=>x.Rel S M w g v/\iY S M w g a b
 | _,_=>False
def noG:Nat->Option Value:=fun _=>none
def mQ {D:Type}(a:List (Bk D)):Nat->Option (Bk D):=fun i=>a[i]?
structure gZ {D:Type}(P:Program)(S:Sh D)(f:FuncId)(ct:Ct D):Prop where
 enters:∀(args:Array Value) (w:World),(callFunc f args).run P w= .ok (.enter f args) w
 calls:∀(X N:Nat->Prop) (g:Nat->Option Value) (w:World) (args:List Value) (o_:List (Sl D)) (dW:List (Bk D)) (p:Option DP) (r:Sl D) (post:List (Nat×Bk D)) (keep:List Nat),
  Hp S ⟨w,X⟩ N (mQ dW) g (· < dW.length) w->iY S (bi N (mQ dW) g) w g o_ args->ct o_ dW=some (p,r,post,keep)->nJ p->
  Calls P f args.toArray w fun e w'=>∃v g',e= .returned v/\More g g'/\Hp S ⟨w,X⟩ N (yE post keep dW) g' (fun _=>True) w'/\r.Rel S (bi N (yE post keep dW) g') w' g' v
section
variable {D:Type}{P:Program}{S:Sh D}{T:TypeId->Option Ty}{M N:Nat->Prop}{w w':World}{w0:Bs}{g:Nat->Option Value}{blk:Nat->Option (Bk D)}{al:Nat->Prop}
 {a:Act} {o:Oper} {K:Act->World->Prop} {Q:Exit->Act->World->Prop} {slot:Nat->Sl D} {out:Out D} {fr:Nat}
def Post (S:Sh D)(f:Bs)(N:Nat->Prop)(b:Nat->Option (Bk D))(g:Nat->Option Value)(h:Nat->Prop)(w:World)(e:Nat)(c:Out D)(d:Option Tmp)(a:Act)(K:Act->World->Prop):Prop:=
 ∀v w' g',More g g'->Keeps (bi N b g) w (bi N (mM b c.blks) g') w'->Hp S f N (mM b c.blks) g' (fun n=>h n\/(e<=n/\n < e+64)) w'->
  c.val.Rel S (bi N (mM b c.blks) g') w' g' v->K (a.put d v) w'
theorem Hp.weaken {a:Nat->Prop}(h:Hp S w0 N blk g al w)(b:∀n,al n->a n):Hp S w0 N blk g a w:=⟨h.below,h.hN,h.dW,h.sep,fun l v c=>b l (h.al l v c),h.refs,h.gl⟩
theorem l9 {v:Value}(b:(execOp a.eval o).run P w= .ok (.value v) w')(c:K (a.put o.dst v) w'):o.wp P a w K Q:=by
 simp only[Oper.wp,b,Oper.upon_value];exact c
theorem MW (b:(execOp a.eval o).run P w= .ok .skip w')(c:K (a.put o.dst undef) w'):o.wp P a w K Q:=by
 simp only[Oper.wp,b,Oper.upon_skip];exact c
theorem apb {v:Value}(h:Hp S w0 N blk g al w)(b:Post S w0 N blk g al w fr out o.dst a K)(c:out.blks=[])(d:out.val.Rel S (bi N blk g) w g v):K (a.put o.dst v) w:=by
 refine b v w g (More.refl _) ?_ ?_ ?_<;>rw[c]
 ·exact Keeps.refl _ _
 ·exact h.weaken fun _ h=> .inl h
 ·exact d
theorem bz {v:Value}(e:(execOp a.eval o).run P w= .ok (.value v) w)(h:Hp S w0 N blk g al w)(b:Post S w0 N blk g al w fr out o.dst a K)(c:out.blks=[])
  (d:out.val.Rel S (bi N blk g) w g v):o.wp P a w K Q:=l9 e (apb h b c d)
theorem BK (v:Value):(zf v:Lf D).Rel S M w g v:=by
 cases v with
 | string s=>
  show(if s.data.size.ble 9223372036854775807=true then Lf.str s.data.toList else Lf.val (Value.string s):Lf D).Rel S M w g _
  split
  ·rename_i h;cases s;exact⟨by simp,by simp_all⟩
  ·rfl
 | nilIface=>exact⟨rfl,trivial⟩
 | _=>rfl
theorem Hg {x:Sl D}{v:Value}{b:Bool}(h:bOf x=some b)(a:x.Rel S M w g v):v= .bool b:=by
 unfold bOf at h;split at h
 ·injection h with h;subst h;exact a
 ·injection h with h;subst h;exact a
 ·cases h
theorem Lf.Rel.norm {x:Lf D}{v:Value}(h:x.Rel S M w g v):x.norm.Rel S M w g v:=by
 unfold Lf.norm;split
 ·exact h
 ·exact h
theorem bu.norm:∀{b:List (Lf D)} {a:List Value},bu S M w g b a->bu S M w g (b.map Lf.norm) a
 | [],[],_=>trivial
 | _::_,_::_,h=>⟨h.1.norm,bu.norm h.2⟩
theorem Sv.Rel.norm {x:Sv D}{v:Value}(h:x.Rel S M w g v):x.norm.Rel S M w g v:=by
 cases x with
 | lf x=>exact Lf.Rel.norm h
 | agg d=>obtain⟨b,a,c⟩:=h;exact⟨b,a,c.norm⟩
theorem jh.norm:∀{b:List (Sv D)} {a:List Value},jh S M w g b a->jh S M w g (b.map Sv.norm) a
 | [],[],_=>trivial
 | _::_,_::_,h=>⟨h.1.norm,jh.norm h.2⟩
theorem Sl.Rel.norm {x:Sl D}{v:Value}(h:x.Rel S M w g v):x.norm.Rel S M w g v:=by
 cases x with
 | one x=>exact Sv.Rel.norm h
 | x8 d=>obtain⟨b,a,c⟩:=h;exact⟨b,a,c.norm⟩
theorem iY.norm:∀{b:List (Sl D)} {a:List Value},iY S M w g b a->iY S M w g (b.map Sl.norm) a
 | [],[],_=>trivial
 | _::_,_::_,h=>⟨h.1.norm,iY.norm h.2⟩
theorem uk:∀(a:List Value),bu S M w g (a.map (zf:Value->Lf D)) a
 | []=>trivial
 | v::a=>⟨BK v,uk a⟩
theorem ap8 (v:Value):(aEO v:Sl D).Rel S M w g v:=by
 cases v with
 | agg cs=>exact⟨cs.toList,by simp,uk _⟩
 | string s=>exact BK (.string s)
 | nilIface=>exact⟨rfl,trivial⟩
 | _=>rfl
theorem qh (b:∀t,(slot t).Rel S M w g (a.tmps.getD t undef))(x:Operand):(aN slot x).Rel S M w g (a.eval x):=by
 cases x with
 | tmp t=>exact b t
 | const v=>exact ap8 v
 | global n=>trivial
 | func f=>exact⟨[],rfl,rfl⟩
theorem OW (c:∀t,(slot t).Rel S M w g (a.tmps.getD t undef)):∀(b:List Operand),iY S M w g (b.map (aN slot)) (b.map a.eval)
 | []=>trivial
 | x::b=>⟨qh c x,OW c b⟩
theorem nU {t:TypeId}{a:Ty}(h:gW P t a):∃i d z c,P.info? t=some i/\P.underlying t=some d/\i.zero=some z/\
  a=⟨kindOf d,JD P t,i.size,i.bytes,z.cells.toList,PL P d,aiL d,ah6 P t d,c,awR d,AP z,anr d⟩:=by
 unfold gW aMf at h;split at h
 ·rename_i i d e f;split at h
  ·rename_i z b;injection h with h
   refine⟨i,d,z,a.lit,e,f,b,?_⟩;simp_all
  ·cases h
 ·cases h
theorem yF {t:TypeId}{a:Ty}(h:gW P t a)(w:World):(isAgg t).run P w= .ok a.agg w:=by
 obtain⟨i,d,z,e,f,b,c,rfl⟩:=nU h;simp only[isAgg,Sem.run_bind,run_underlying b,Result.andThen_ok,JD,b];cases d<;>rfl
theorem lG {t:TypeId}{a:Ty}(h:gW P t a)(w:World):(sizeOf t).run P w= .ok a.size w:=by
 obtain⟨i,d,z,e,b,f,c,rfl⟩:=nU h;simp[sizeOf,typeInfo,b]
theorem D6 {t:TypeId}{a:Ty}(h:gW P t a)(w:World):∃z,(zeroValue t).run P w= .ok z w/\z.cells.toList=a.zero:=by
 obtain⟨i,d,z,e,c,f,b,rfl⟩:=nU h;exact⟨z,by simp[zeroValue,typeInfo,c,b],rfl⟩
theorem lY {t e:TypeId}{a:Ty}(h:gW P t a)(b:a.elem=some e):P.underlying t=some (.slice e):=by
 obtain⟨i,d,z,f,g,j,c,rfl⟩:=nU h;cases d<;>simp[aiL]at b
 grind
theorem aFP {t e:TypeId}{n:Nat}{a:Ty}(h:gW P t a)(b:a.arr=some (e,n)):P.underlying t=some (.array n e):=by
 obtain⟨i,d,z,f,g,j,c,rfl⟩:=nU h;cases d<;>simp[awR]at b
 grind
theorem akq {t:TypeId}{a:Ty}(h:gW P t a)(w:World):∃z,(zeroValue t).run P w= .ok z w/\z.cells.toList=a.zero/\AP z=a.zag:=by
 obtain⟨i,d,z,e,c,f,b,rfl⟩:=nU h;exact⟨z,by simp[zeroValue,typeInfo,c,b],rfl,rfl⟩
theorem oJ {t:TypeId}{a:Ty}(h:gW P t a):∃d,P.underlying t=some d/\kindOf d=a.kind:=by
 obtain⟨i,d,z,c,e,f,b,rfl⟩:=nU h
 grind
theorem NV {t:TypeId}{e:Ty}{f b g:Nat}{j:Bool}(h:gW P t e)(k:e.asc[f]? =some (b,g,j)):
  ∃c a,P.underlying t=some (.struct c)/\c[f]? =some a/\a.offset=b/\cellsIn P a.type=g/\JD P a.type=j:=by
 obtain⟨i,d,z,l,n,o,m,rfl⟩:=nU h;cases d with
 | struct c=>
  simp only[PL,Qbq,Qcb,Qbg]at k
  grind
 | _=>simp[PL]at k
theorem rQ {t:TypeId}{n:Nat}(h:cellsIn P t=n)(b:n≠0)(w:World):(sizeOf t).run P w= .ok n w:=by
 unfold cellsIn at h;split at h
 ·unfold Program.cellsOf at h;cases a:P.info? t with
  | none=>grind
  | some i=>rw[a]at h;simp at h;simp[sizeOf,typeInfo,a,h]
 omega
theorem ayq {t:TypeId}{n:Nat}(h:cellsIn P t=n)(c:n≠0)(w:World):(isAgg t).run P w= .ok (JD P t) w:=by
 unfold cellsIn at h;split at h
 ·rename_i b;obtain⟨d,a⟩:=Qbt.1 b;simp only[isAgg,Sem.run_bind,run_underlying a,Result.andThen_ok,JD,a];cases d<;>rfl
 omega
theorem run_loadCells (c:Addr):∀(b:List Value) (i:Nat) (a:Array Value),(∀k u,b[k]? =some u->w.cell? (c.add (i+k))=some u)->
  (loadCellsFrom c i b.length a).run P w= .ok (a++b.toArray) w
 | [],i,a,_=>by rfl
 | v::b,i,a,h=>by
  have d:=h 0 v rfl;simp only[UX]at d;have f:=run_loadCells c b (i+1) (a.push v) fun k u e=>by
   have:=h (k+1) u (by simpa using e)
   grind
  simp only[yG,loadCellsFrom,Sem.run_bind,load];simp only[Sem.run,d,Result.andThen_ok];simp_all
theorem l_ (b o n:Nat):(⟨b,o,none⟩:Addr).add n=⟨b,o+n,none⟩:=by
 unfold Addr.add
 grind
theorem add_add' (a:Addr)(i j:Nat):(a.add i).add j=a.add (i+j):=by
 unfold Addr.add
 grind
theorem cell_of {b:Nat}{a:List Value}{t:TypeId}(h:w.heap[b]? =some (.cells a.toArray t (0,0)))(i:Nat):w.cell? ⟨b,i,none⟩=a[i]? :=by
 simp[World.cell?,h]
def one':Value->Bool
 | .agg _ | .tuple _=>false
 | _=>true
theorem lN (b t:Nat):∀(c:List Value) (w:World) (a:List Value) (o i:Nat),w.heap[b]? =some (.cells a.toArray t (0,0))->o+i+c.length<=a.length->c.all one'=true->
  ∃d,(storeCells ⟨b,o,none⟩ c i).run P w= .ok () d/\d.heap[b]? =some (.cells (a.take (o+i)++(c++a.drop (o+i+c.length))).toArray t (0,0))/\
   (∀n,n≠b->d.heap[n]? =w.heap[n]?)/\d.heap.size=w.heap.size/\d.os=w.os/\d.tape=w.tape/\d.output=w.output
 | [],w,a,o,i,h,_,_=>⟨w,by rfl,by simpa using h,fun _ _=>rfl,rfl,rfl,rfl,rfl⟩
 | u::c,w,a,o,i,h,s,f=>by
  simp only[Qc7,kW]at f;simp only[yG]at s;have j:o+i < a.length:=by omega
  have x:w.cell? ⟨b,o+i,none⟩=some a[o+i]:=by rw[cell_of h];simp[j]
  have m:w.frozen? ⟨b,o+i,none⟩=false:=by simp[World.frozen?,h]
  have e:(w.setCell ⟨b,o+i,none⟩ u).heap[b]? =some (.cells (a.set (o+i) u).toArray t (0,0)):=by
   simp[World.setCell,Qds,h]
  obtain⟨d,B,p,l,k,y,v,r⟩:=lN b t c (w.setCell ⟨b,o+i,none⟩ u) (a.set (o+i) u) o (i+1) e qb6 f.2;refine⟨d,?_,?_,fun n g=>(l n g).trans ?_,k.trans (by simp_all),y,v,r⟩
  ·simp only[storeCells,Sem.run_bind,store,l_];have q:(Sem.store Mode.plain ⟨b,o+i,none⟩ u (Sem.pure ())).run P w= .ok () (w.setCell ⟨b,o+i,none⟩ u):=by
    cases u<;>first | (simp[one']at f;done) | simp[Sem.run,x,m]
   simp_all
  ·rw[p];congr 2;have z:(a.set (o+i) u).take (o+(i+1))=a.take (o+i)++[u]:=by
    rw[show o+(i+1)=(o+i)+1 by omega,Qbk (by simpa using j),Qd9,List.set_eq_of_length_le qb6];simp
   have A:(a.set (o+i) u).drop (o+(i+1)+c.length)=a.drop (o+i+(u::c).length):=by
    rw[Qdj au];congr 1;simp;omega
   grind
  ·simp only[World.setCell,Qds]
   grind
end
end Go.Vc
namespace Go.Vc
open Go.RowKit
section
variable {D:Type}{P:Program}{S:Sh D}{T:TypeId->Option Ty}{M N:Nat->Prop}{w w':World}{w0:Bs}{g:Nat->Option Value}{blk:Nat->Option (Bk D)}{al:Nat->Prop}
 {a:Act} {o:Oper} {K:Act->World->Prop} {Q:Exit->Act->World->Prop} {slot:Nat->Sl D} {out:Out D} {fr:Nat}
theorem Lm {x:Lf D}{v:Value}(m:∀l u,g l=some u->isRef u=true)(q:x.storable=true)(h:x.Rel S M w g v):one' v=true:=by
 cases x with
 | any=>simp[Lf.storable]at q
 | val u=>simp only[Lf.Rel]at h;subst h;cases v<;>first | rfl | simp[Lf.storable]at q
 | bool b=>simp only[Lf.Rel]at h;subst h;rfl
 | int k n=>simp only[Lf.Rel]at h;subst h;rfl
 | str s=>obtain⟨rfl,_⟩:=h;rfl
 | ptr l o=>obtain⟨b,_,rfl⟩:=h;rfl
 | dat d=>rcases dN.form h with⟨a,c,rfl⟩ | ⟨r,rfl⟩<;>rfl
 | elt d i j=>obtain⟨a,n,c,_,_,rfl⟩:=h;rfl
 | fn f y=>obtain⟨z,rfl,_⟩:=h;rfl
 | own l=>have:=m l v h;cases v<;>first | rfl | simp[isRef]at this
 | opt l i j t=>obtain⟨b,n,c,_,rfl⟩:=h;rfl
 | unk p=>obtain⟨b,rfl,_⟩:=h;rfl
 | part l i j t f=>obtain⟨a,n,c,_,rfl,_⟩:=h;rfl
 | glb i=>simp only[Lf.Rel]at h;subst h;rfl
 | Ze x=>obtain⟨rfl,_⟩:=h;cases x<;>rfl
 | xt e=>cases e<;>(obtain⟨u,rfl,_⟩:=h;rfl)
theorem t_ {u:Sv D}{v:Value}(a:∀l u,g l=some u->isRef u=true)(b:u.whole=true)(h:u.Rel S M w g v):bu S M w g u.cells v.cells.toList:=by
 cases u with
 | lf x=>
  have c:=Lm a b h;have:v.cells= #[v]:=by cases v<;>first | rfl | simp[one']at c
  rw[this];exact⟨h,trivial⟩
 | agg e=>obtain⟨f,rfl,d⟩:=h;simpa[Sv.cells,Value.cells]using d
theorem lD (a:∀l u,g l=some u->isRef u=true):∀{b:List (Lf D)} {c:List Value},b.all Lf.storable=true->bu S M w g b c->c.all one'=true
 | [],[],_,_=>rfl
 | x::b,v::c,d,h=>by
  simp only[Qc7,kW]at d⊢;exact⟨Lm a d.1 h.1,lD a d.2 h.2⟩
theorem Dp {u:Sv D}(h:u.cells.all Lf.storable=true):u.whole=true:=by
 cases u with
 | lf x=>simpa[Sv.cells,Sv.whole]using h
 | agg a=>rfl
theorem bu.append:∀{b a:List (Lf D)} {c d:List Value},bu S M w g b c->bu S M w g a d->bu S M w g (b++a) (c++d)
 | [],_,[],_,_,h=>h
 | _::_,_,_::_,_,h,e=>⟨h.1,bu.append h.2 e⟩
theorem bu.take:∀(n:Nat) {b:List (Lf D)} {a:List Value},bu S M w g b a->bu S M w g (b.take n) (a.take n)
 | 0,_,_,_=>by simp[bu]
 | _+1,[],[],_=>by simp[bu]
 | n+1,_::_,_::_,h=>⟨h.1,bu.take n h.2⟩
theorem bu.drop:∀(n:Nat) {b:List (Lf D)} {a:List Value},bu S M w g b a->bu S M w g (b.drop n) (a.drop n)
 | 0,_,_,h=>by simpa using h
 | _+1,[],[],_=>by simp[bu]
 | n+1,_::_,_::_,h=>by simpa using bu.drop n h.2
theorem bu.putAt {d e:List (Lf D)}{b a:List Value}(h:bu S M w g d b)(c:bu S M w g e a)(o:Nat):bu S M w g (putAt d o e) (b.take o++(a++b.drop (o+a.length))):=by
 unfold Vc.putAt;rw[c.length];exact(h.take o).append (c.append (h.drop _))
theorem Qg (h:Hp S w0 N blk g al w){l:Nat}{cs:List (Lf D)}(c:blk l=some (.cells cs)){b:Nat}(e:g l=some (.pointer (some ⟨b,0,none⟩))):
  ∃a t,w.heap[b]? =some (.cells (List.toArray a) t (0,0))/\bu S (bi N blk g) w g cs a:=by
 obtain⟨v,f,i,a,t,rfl,_,d,j⟩:=h.dW l _ c
 grind
theorem abq {e:TypeId}{cs:List (Lf D)}{vs:Array Value}(h:Hp S w0 N blk g al w)(hfr:∀n,fr<=n->n < fr+64->¬al n)(q:(execOp a.eval o).run P w= .ok (.value (.pointer (some ⟨w.heap.size,0,none⟩))) (w.alloc (.cells vs e)))
  (m:bu S (bi N blk g) w g cs vs.toList) (f:Post S w0 N blk g al w fr ⟨none, .one (.lf (.ptr fr 0)),[(fr,some (.cells cs))]⟩ o.dst a K):o.wp P a w K Q:=by
 obtain⟨j,p,i⟩:=h.add (l:=fr) (bk:= .cells cs) (v:= .pointer (some ⟨w.heap.size,0,none⟩)) ((Below.refl w.heap.size w).alloc (nO _) (.cells vs e)) (hfr fr (nO _) au) (fun b k=>by simp[fJ]at k;omega)
  (fun M' d _=>⟨w.heap.size,vs.toList,e,rfl, .inl h.below.size,heap_alloc_new w _,m.keep d (fun l v hl=>by rw[df _ _ _ _ qbl];exact hl)⟩)
 exact l9 q (f _ _ _ i p (j.weaken fun n c=>c.elim .inl fun e=> .inr ⟨Qdf e.symm,by omega⟩) ⟨w.heap.size,upd_same _ _ _,rfl⟩)
theorem agS {t:TypeId}{b:Ty}(j:o.op= .alloc t)(i:gW P t b)(h:Hp S w0 N blk g al w)(d:∀n,fr<=n->n < fr+64->¬al n)
  (f:Post S w0 N blk g al w fr ⟨none, .one (.lf (.ptr fr 0)),[(fr,some (.cells (b.zero.map zf)))]⟩ o.dst a K):o.wp P a w K Q:=by
 obtain⟨z,k,c⟩:=D6 i w;refine abq (vs:=z.cells) (e:=t) h d ?_ (by rw[c];exact uk _) f;simp[execOp,j,Instr.alloc,k,newVar,newRow,newObj,Sem.run]
theorem arP {t:TypeId}{x:Operand}{u:Sv D}(i:o.op= .box t x)(h:Hp S w0 N blk g al w)(b:∀n,fr<=n->n < fr+64->¬al n)(f:u.Rel S (bi N blk g) w g (a.eval x))(c:u.whole=true)
  (d:Post S w0 N blk g al w fr ⟨none, .one (.lf (.ptr fr 0)),[(fr,some (.cells u.cells))]⟩ o.dst a K):o.wp P a w K Q:=by
 refine abq (vs:=(a.eval x).cells) (e:=t) h b ?_ (t_ h.refs c f) d;simp[execOp,i,Instr.box,newVar,newRow,newObj,Sem.run]
theorem zK {d:D}{l:Addr}{n f i:Nat}(h:dN S M w d (.slice (some l) n f))(c:i < S.len d):∀(m j:Nat),j+m<=S.size d->
  ∃a:List Value,a.length=m/\bu S M w g (Ec S d i j m) a/\∀k u,a[k]? =some u->w.cell? (l.add (i*S.size d+(j+k)))=some u
 | 0,j,_=>⟨[],rfl,trivial,fun k u b=>by simp at b⟩
 | m+1,j,r=>by
  obtain⟨u,q,p⟩:=h.cell (g:=g) c (show j < S.size d by omega);obtain⟨a,o,e,s⟩:=zK h c m (j+1) au;refine⟨u::a,by simp[o],⟨p,e⟩,fun k x b=> ?_⟩
  grind
theorem tu {i j n m:Nat}(a:i < n)(b:j < m):i*m+j < n*m:=by
 have:(i+1)*m<=n*m:=Zh m a
 grind
theorem Wv (h:Hp S w0 N blk g al w){l i j b n m:Nat}{e:TypeId}{d:D}(x:blk l=some (.row e d))(z:g l=some (.slice (some ⟨b,0,none⟩) n m))(r:i < S.len d)(y:j < S.size d):
  ∃u,w.cell? ⟨b,i*S.size d+j,none⟩=some u/\(S.cell d i j).Rel S (bi N blk g) w g u:=by
 obtain⟨v,c,_,F,⟨C,f⟩,A⟩:=h.dW l _ x;rw[z]at c;injection c with c
 subst c;obtain⟨u,E,_,B⟩:=A i j r y;refine⟨u,?_,B⟩;rcases f with⟨q,_⟩ | ⟨H,s,o,k,_,t,_,_,_,p⟩
 ·cases q
 ·injection k with a I G
  injection a with a
  injection a with a
  subst a;have:w.cell? ⟨b,i*S.size d+j,none⟩=o[i*S.size d+j]? :=by simp[World.cell?,t]
  grind
theorem yD (h:Hp S w0 N blk g al w){l i b n f:Nat}{e:TypeId}{d:D}(p:blk l=some (.row e d))(r:g l=some (.slice (some ⟨b,0,none⟩) n f))(s:i < S.len d):∀(m j:Nat),j+m<=S.size d->
  ∃a:List Value,a.length=m/\bu S (bi N blk g) w g (Ec S d i j m) a/\∀k u,a[k]? =some u->w.cell? ⟨b,i*S.size d+(j+k),none⟩=some u
 | 0,j,_=>⟨[],rfl,trivial,fun k u c=>by simp at c⟩
 | m+1,j,z=>by
  obtain⟨u,v,t⟩:=Wv h p r s (show j < S.size d by omega);obtain⟨a,q,o,y⟩:=yD h p r s m (j+1) au;refine⟨u::a,by simp[q],⟨t,o⟩,fun k x c=> ?_⟩
  grind
theorem akG {t:TypeId}{x:Operand}{A:Ty}(G:o.op= .load t x)(Y:gW P t A)(W:T t=some A)(h:Hp S w0 N blk g al w)(F:(aN slot x).Rel S (bi N blk g) w g (a.eval x))
  (c:F9 T S blk t (aN slot x)=some out) (hp:nJ out.pre) (E:Post S w0 N blk g al w fr out o.dst a K):o.wp P a w K Q:=by
 have p:=yF Y w;have I:=lG Y w;simp only[F9,W]at c;split at c
 ·
  rename_i l q H;rw[H]at F;obtain⟨b,M,B⟩:=F;split at c
  ·rename_i cs L;obtain⟨s,t',hh,r⟩:=Qg h L M;split at c
   ·rename_i f;split at c
    ·rename_i z;injection c with c
     subst c;have hle':q+A.size<=s.length:=by rw[<-r.length];simp_all
     have m:=run_loadCells (P:=P) (w:=w) ⟨b,q,none⟩ ((s.drop q).take A.size) 0 #[] (fun k u J=>by
      rw[l_,cell_of hh]
      grind)
     rw[show((s.drop q).take A.size).length=A.size by simp;omega]at m;refine bz (v:= .agg ((s.drop q).take A.size).toArray) ?_ h E rfl ⟨_,rfl,(r.drop q).take _⟩;simp[execOp,G,Instr.loadAt,Instr.sureAddr,B,loadVar,p,f,I,loadCells,m]
    ·cases c
   ·rename_i f;split at c
    ·rename_i y hy;injection c with c
     subst c;obtain⟨v,Z,R⟩:=r.get q hy;refine bz (v:=v) ?_ h E rfl R;simp[execOp,G,Instr.loadAt,Instr.sureAddr,B,loadVar,p,f,load,Sem.run,cell_of hh,Z]
    ·cases c
  ·cases c
 ·
  rename_i d i j H;rw[H]at F;obtain⟨ad,n,aa,hd,hi,B⟩:=F;split at c
  ·rename_i f;split at c
   ·rename_i z;injection c with c
    subst c;obtain⟨s,U,r,V⟩:=zK (g:=g) hd hi A.size j (Qa3 z);have m:=run_loadCells (P:=P) (w:=w) (ad.add (i*S.size d+j)) s 0 #[] (fun k u J=>by
     rw[add_add',show i*S.size d+j+(0+k)=i*S.size d+(j+k) by omega];exact V k u J)
    rw[U]at m;refine bz (v:= .agg s.toArray) ?_ h E rfl ⟨_,rfl,r⟩;simp[execOp,G,Instr.loadAt,Instr.sureAddr,B,loadVar,p,f,I,loadCells,m]
   ·cases c
  ·rename_i f;split at c
   ·rename_i C;injection c with c
    subst c;obtain⟨u,O,r⟩:=hd.cell (g:=g) hi (by simpa[Qcv]using C);refine bz (v:=u) ?_ h E rfl r;simp[execOp,G,Instr.loadAt,Instr.sureAddr,B,loadVar,p,f,load,Sem.run,O]
   ·cases c
 ·
  rename_i l i j X H;rw[H]at F;obtain⟨b,n,aa,M,B⟩:=F;split at c
  ·rename_i e d L;split at c
   ·rename_i f;split at c
    ·rename_i z;injection c with c
     subst c;simp only[kW]at z;have D:X=S.size d:=Qa z.2;subst D;obtain⟨s,U,r,V⟩:=yD h L M hp A.size j (Qa3 z.1);have m:=run_loadCells (P:=P) (w:=w) ⟨b,i*S.size d+j,none⟩ s 0 #[] (fun k u J=>by
      rw[l_,show i*S.size d+j+(0+k)=i*S.size d+(j+k) by omega];exact V k u J)
     rw[U]at m;refine bz (v:= .agg s.toArray) ?_ h E rfl ⟨_,rfl,r⟩;simp[execOp,G,Instr.loadAt,Instr.sureAddr,B,loadVar,p,f,I,loadCells,m]
    ·cases c
   ·rename_i f;split at c
    ·rename_i C;injection c with c
     subst c;simp only[kW]at C;have D:X=S.size d:=Qa C.2;subst D;obtain⟨u,O,r⟩:=Wv h L M hp (by simpa[Qcv]using C.1);refine bz (v:=u) ?_ h E rfl r;simp[execOp,G,Instr.loadAt,Instr.sureAddr,B,loadVar,p,f,load,Sem.run,O]
    ·cases c
  ·cases c
 ·cases c
theorem aqB {t:TypeId}{x:Sl D}{v:Value}{s:Ty}(R:gW P t s)(O:T t=some s)(h:Hp S w0 N blk g al w)(L:x.Rel S (bi N blk g) w g v)
  (a:F9 T S blk t x=some out) (W:nJ out.pre):∃F u,v= .pointer (some F)/\(loadVar t F).run P w= .ok u w/\out.val.Rel S (bi N blk g) w g u:=by
 have m:=yF R w;have C:=lG R w;simp only[F9,O]at a;split at a
 ·
  rename_i l o;obtain⟨b,H,z⟩:=L;split at a
  ·rename_i cs G;obtain⟨q,t',Y,p⟩:=Qg h G H;split at a
   ·rename_i c;split at a
    ·rename_i r;injection a with a
     subst a;have hle':o+s.size<=q.length:=by rw[<-p.length];simp_all
     have f:=run_loadCells (P:=P) (w:=w) ⟨b,o,none⟩ ((q.drop o).take s.size) 0 #[] (fun k u E=>by
      rw[l_,cell_of Y]
      grind)
     rw[show((q.drop o).take s.size).length=s.size by simp;omega]at f;exact⟨_, .agg ((q.drop o).take s.size).toArray,z,by simp[loadVar,m,c,C,loadCells,f],⟨_,rfl,(p.drop o).take _⟩⟩
    ·cases a
   ·rename_i c;split at a
    ·rename_i y hy;injection a with a
     subst a;obtain⟨v,U,J⟩:=p.get o hy;exact⟨_,v,z,by simp[loadVar,m,c,load,Sem.run,cell_of Y,U],J⟩
    ·cases a
  ·cases a
 ·
  rename_i d i j;obtain⟨F,n,V,X,Z,z⟩:=L;split at a
  ·rename_i c;split at a
   ·rename_i r;injection a with a
    subst a;obtain⟨q,K,p,M⟩:=zK (g:=g) X Z s.size j (Qa3 r);have f:=run_loadCells (P:=P) (w:=w) (F.add (i*S.size d+j)) q 0 #[] (fun k u E=>by
     rw[add_add',show i*S.size d+j+(0+k)=i*S.size d+(j+k) by omega];exact M k u E)
    rw[K]at f;exact⟨_, .agg q.toArray,z,by simp[loadVar,m,c,C,loadCells,f],⟨_,rfl,p⟩⟩
   ·cases a
  ·rename_i c;split at a
   ·rename_i A;injection a with a
    subst a;obtain⟨u,I,p⟩:=X.cell (g:=g) Z (by simpa[Qcv]using A);exact⟨_,u,z,by simp[loadVar,m,c,load,Sem.run,I],p⟩
   ·cases a
 ·
  rename_i l i j Q;obtain⟨b,n,V,H,z⟩:=L;split at a
  ·rename_i e d G;split at a
   ·rename_i c;split at a
    ·rename_i r;injection a with a
     subst a;simp only[kW]at r;have B:Q=S.size d:=Qa r.2;subst B;obtain⟨q,K,p,M⟩:=yD h G H W s.size j (Qa3 r.1);have f:=run_loadCells (P:=P) (w:=w) ⟨b,i*S.size d+j,none⟩ q 0 #[] (fun k u E=>by
      rw[l_,show i*S.size d+j+(0+k)=i*S.size d+(j+k) by omega];exact M k u E)
     rw[K]at f;exact⟨_, .agg q.toArray,z,by simp[loadVar,m,c,C,loadCells,f],⟨_,rfl,p⟩⟩
    ·cases a
   ·rename_i c;split at a
    ·rename_i A;injection a with a
     subst a;simp only[kW]at A;have B:Q=S.size d:=Qa A.2;subst B;obtain⟨u,I,p⟩:=Wv h G H W (by simpa[Qcv]using A.1);exact⟨_,u,z,by simp[loadVar,m,c,load,Sem.run,I],p⟩
    ·cases a
  ·cases a
 ·cases a
end
end Go.Vc
namespace Go.Vc
open Go.RowKit
section
variable {D:Type}{P:Program}{S:Sh D}{T:TypeId->Option Ty}{M N:Nat->Prop}{w w':World}{w0:Bs}{g:Nat->Option Value}{blk:Nat->Option (Bk D)}{al:Nat->Prop}
 {a:Act} {o:Oper} {K:Act->World->Prop} {Q:Exit->Act->World->Prop} {slot:Nat->Sl D} {out:Out D} {fr:Nat}
theorem ahL {x:Dl D}{p:Pv}{v:Value}(h:aF0 x=some p)(a:x.Rel S M w v):v=p.val/\p.fits:=by
 unfold aF0 at h;split at h<;>first | (injection h with h;subst h;exact⟨a,trivial⟩) | (injection h with h;subst h;exact a) | (cases h;done)
theorem abz:∀{b:List (Dl D)} {a:List Pv} {c:List Value},RF b=some a->vW S M w b c->c=a.map Pv.val/\∀p∈a,p.fits
 | [],a,[],h,_=>by simp[RF]at h;grind
 | x::b,a,v::c,h,d=>by
  unfold RF at h;split at h
  ·rename_i p g e f;injection h with h
   subst h;obtain⟨j,l⟩:=ahL e d.1;obtain⟨i,k⟩:=abz f d.2
   grind
  ·cases h
theorem axr {f:Bool}{d:List (Dl D)}{c:List Pv}{t:TypeId}{u:Value}(h:RF d=some c)(a:Qm S M w f d u):Value.iface t u=D_ (some ⟨t,f,c⟩)/\∀p∈c,p.fits:=by
 cases f with
 | true=>
  obtain⟨k,rfl,a⟩:=a;obtain⟨e,b⟩:=abz h a;exact⟨by rw[e];rfl,b⟩
 | false=>
  match d,a with
  | [x],a=>
   have a:x.Rel S M w u:=a;unfold RF at h;split at h
   ·rename_i p i e b;injection h with h
    subst h;injection b with b
    subst b;obtain⟨g,j⟩:=ahL e a;refine⟨by rw[g];rfl,fun p l=> ?_⟩
    grind
   ·cases h
theorem Lf.Le.rel {x y:Lf D}{v:Value}(h:x.Le S y)(a:x.Rel S M w g v):y.Rel S M w g v:=by
 rcases h with rfl | ⟨rfl,d,rfl,f,c⟩ | ⟨b,rfl,rfl⟩ | ⟨t,o,n,m,rfl,rfl,l⟩ | ⟨d,rfl,rfl⟩
 ·exact a
 ·simp only[Lf.Rel]at a;subst a;intro w' _;have:=Cf.mk (S:=S) (w:=w') d c none 0 (fun _ _=> .bool false) au au (fun i j e _=>by omega) (fun i j e _=>by omega) (fun i j _ e _=>by omega)
  grind
 ·exact a
 ·obtain⟨u,rfl,k⟩:=a;exact axr l k
 ·obtain⟨_,_,f⟩:=a;exact f
theorem ahI {t:TypeId}{x y:Operand}{ty:Ty}(ho:o.op= .store t x y)(hT:gW P t ty)(hTT:T t=some ty)(h:Hp S w0 N blk g al w)(hx:(aN slot x).Rel S (bi N blk g) w g (a.eval x))
  (hy:(aN slot y).Rel S (bi N blk g) w g (a.eval y)) (c:J3 T S blk t (aN slot x) (aN slot y)=some out) (hS:jE S) (hp:nJ out.pre) (hK:Post S w0 N blk g al w fr out o.dst a K):o.wp P a w K Q:=by
 have hsz:=lG hT w;unfold J3 at c;split at c
 ·rename_i ty' l H u f R Ew;rw[hTT]at f;injection f with f
  subst f;rw[R]at hx;rw[Ew]at hy;obtain⟨b,G,hv⟩:=hx;split at c
  ·rename_i cs A;split at c
   ·rename_i M;injection c with c
    subst c;simp only[kW]at M;obtain⟨⟨U,V⟩,J⟩:=M;have U:=Qa U;have V:=Qa3 V;obtain⟨vs,t',hh,hr⟩:=Qg h A G;have C:=t_ h.refs (Dp J) hy;have hlen:=C.length;obtain⟨w',D,O,hn,hs,p,W,Z⟩:=lN (P:=P) b t' (a.eval y).cells.toList w vs H 0 hh (by rw[<-hr.length];omega) (lD h.refs J C);have r:(execOp a.eval o).run P w= .ok .skip w':=by
     have B:(a.eval y).cells.size=ty.size:=by grind
     simp[execOp,ho,Instr.storeAt,Instr.sureAddr,hv,storeVar,hsz,B,D]
    obtain⟨I,Y⟩:=h.write (bk':= .cells (putAt cs H u.cells)) A rfl rfl G rfl p W Z hs hn (fun hk=>by
     refine⟨b,_,t',rfl,(zi.lt (h.dW l _ A).choose_spec.2 rfl (by rw[Qct ((h.dW l _ A).choose_spec.1.symm.trans G)];rfl)).2,O,?_⟩;simpa using(hr.putAt C (H+0)).keep hk (More.refl _))
    exact MW r (hK _ _ _ (More.refl _) Y (I.weaken fun _ h=> .inl h) trivial)
   ·cases c
  ·cases c
 ·rename_i ty' l i j sz u f R Ew;rw[hTT]at f;injection f with f
  subst f;rw[R]at hx;rw[Ew]at hy;obtain⟨b,n,cap,G,hv⟩:=hx;split at c
  ·rename_i e d A;split at c
   ·rename_i M;split at c
    ·rename_i d' L;injection c with c
     subst c;simp only[kW]at M;obtain⟨⟨⟨U,V⟩,h4⟩,J⟩:=M;have U:=Qa U;have V:=Qa3 V;have h4:=Qa h4;subst h4;have hp:i < S.len d:=hp;obtain⟨es,el,ec⟩:=hS.set _ _ _ _ _ L hp;obtain⟨v,F,hm,xs,⟨hxl,hown⟩,hcell⟩:=h.dW l _ A;rw[G]at F;injection F with F
     subst F;have C:=t_ h.refs (Dp J) hy;have hlen:=C.length;rcases hown with⟨h0,_⟩ | ⟨b',cap',k,hvv,_,hh,hnc,hcm,hcs,htake⟩
     ·cases h0
     ·injection hvv with p W Z
      injection p with p
      injection p with p
      subst p W Z;have hh':w.heap[b]? =some (.cells (k.toList).toArray e (0,0)):=by simpa using hh
      have hrow:i*S.size d+S.size d<=S.len d*S.size d:=by rw[<-Nat.succ_mul];exact Zh _ hp
      have hcap:S.len d*S.size d<=k.toList.length:=by grind
      obtain⟨w',D,O,hn,hs,p,W,Z⟩:=lN (P:=P) b e (a.eval y).cells.toList w k.toList (i*S.size d+j) 0 hh' au (lD h.refs J C);have r:(execOp a.eval o).run P w= .ok .skip w':=by
       have B:(a.eval y).cells.size=ty.size:=by grind
       simp[execOp,ho,Instr.storeAt,Instr.sureAddr,hv,storeVar,hsz,B,D]
      generalize hus:(a.eval y).cells.toList=X at*;obtain⟨I,Y⟩:=h.write (bk':= .row e d') A rfl rfl G rfl p W Z hs hn (fun hk=>by
       refine⟨⟨hm.1,by omega,hS.aM0 _ _ _ _ _ L hm.2.2⟩,(k.toList.take (i*S.size d+j+0)++(X++k.toList.drop (i*S.size d+j+0+X.length))).take (S.len d*S.size d),⟨?_, .inr ⟨b,cap,(k.toList.take (i*S.size d+j+0)++(X++k.toList.drop (i*S.size d+j+0+X.length))).toArray,by rw[el],ve _,O,by omega,hcm,?_,by rw[el,es]⟩⟩,fun m q z s=> ?_⟩
       ·grind
       ·grind
       ·rw[el]at z;rw[es]at s;rw[es];have hlt:=tu z s;obtain⟨uo,hxo,hdo,hro⟩:=hcell m q z s;have hold:k.toList[m*S.size d+q]? =some uo:=by grind
        rw[Qcp,yY hlt];by_cases hin:m=i/\j<=q/\q < j+u.cells.length
        ·obtain⟨rfl,hj1,hj2⟩:=hin;obtain⟨x,hx1,hx2⟩:=(ec m q z s).1 ⟨rfl,hj1,by simpa using hj2⟩;obtain⟨uv,huv,hrv⟩:=C.norm.get (q - j) hx1;refine⟨uv,?_,hS.data _ _ _ au au,?_⟩
         ·rw[Qbd qb6,Qdi rf,<-huv]
          grind
         ·exact(hx2.rel hrv).keep hk (More.refl _)
        ·rw[(ec m q z s).2 (by simpa using hin)];refine⟨uo,?_,hdo,hro.keep hk (More.refl _)⟩;rw[<-hold];have E:m*S.size d+q < i*S.size d+j\/i*S.size d+j+X.length<=m*S.size d+q:=by
          rcases Nat.lt_trichotomy m i with hlt' | rfl | hgt
          ·left
           have:(m+1)*S.size d<=i*S.size d:=Zh _ hlt'
           grind
          ·omega
          ·right
           have:(i+1)*S.size d<=m*S.size d:=Zh _ hgt
           grind
         rcases E with E | E
         ·rw[Qdi rf,Qcp,yY au]
         ·rw[Qbd rf,Qbd (by simp only[QA];omega),Qco];congr 1
          grind)
      exact MW r (hK _ _ _ (More.refl _) Y (I.weaken fun _ h=> .inl h) trivial)
    ·cases c
   ·cases c
  ·cases c
 ·cases c
theorem ah3 {t:TypeId}{x:Operand}{f:Nat}{L:Ty}(G:o.op= .fieldAddr t x f)(E:gW P t L)(J:T t=some L)(h:Hp S w0 N blk g al w)(s:(aN slot x).Rel S (bi N blk g) w g (a.eval x))
  (c:ED T t (aN slot x) f=some out) (F:Post S w0 N blk g al w fr out o.dst a K):o.wp P a w K Q:=by
 simp only[ED,J]at c;split at c
 ·rename_i r A _ l O p u;rw[u]at s;obtain⟨b,H,D⟩:=s;obtain⟨M,R,y,B,m,q,_⟩:=NV E p;split at c
  ·cases c
  ·rename_i k;have k:A≠0:=fun e=>k (by simp[e])
   injection c with c
   subst c;refine bz (v:= .pointer (some ⟨b,O+r,none⟩)) ?_ h F rfl ⟨b,H,rfl⟩;simp[execOp,G,Instr.fieldAt,run_underlying y,B,D,Instr.sureAddr,fieldPlace,rQ q k,k,m,l_]
 ·rename_i r A _ d i j p u;rw[u]at s;obtain⟨I,n,C,U,V,D⟩:=s;obtain⟨M,R,y,B,m,q,_⟩:=NV E p;split at c
  ·cases c
  ·rename_i k;have k:A≠0:=fun e=>k (by simp[e])
   injection c with c
   subst c;refine bz (v:= .pointer (some (I.add (i*S.size d+(j+r))))) ?_ h F rfl ⟨I,n,C,U,V,rfl⟩;simp[execOp,G,Instr.fieldAt,run_underlying y,B,D,Instr.sureAddr,fieldPlace,rQ q k,k,m,add_add',Qe]
 ·rename_i r A _ l i j z p u;rw[u]at s;obtain⟨b,n,C,H,D⟩:=s;obtain⟨M,R,y,B,m,q,_⟩:=NV E p;split at c
  ·cases c
  ·rename_i k;have k:A≠0:=fun e=>k (by simp[e])
   injection c with c
   subst c;refine bz (v:= .pointer (some ⟨b,i*z+(j+r),none⟩)) ?_ h F rfl ⟨b,n,C,H,rfl⟩;simp[execOp,G,Instr.fieldAt,run_underlying y,B,D,Instr.sureAddr,fieldPlace,rQ q k,k,m,l_,Qe]
 ·cases c
theorem ajU {t:TypeId}{x:Operand}{f:Nat}{C:Ty}(E:o.op= .field t x f)(H:gW P t C)(q:T t=some C)(h:Hp S w0 N blk g al w)(D:(aN slot x).Rel S (bi N blk g) w g (a.eval x))
  (b:anB T t (aN slot x) f=some out) (B:Post S w0 N blk g al w fr out o.dst a K):o.wp P a w K Q:=by
 simp only[anB,q]at b;split at b
 ·rename_i i r M cs s G;rw[G]at D;obtain⟨J,A,F⟩:=D;obtain⟨O,R,p,u,k,l,n⟩:=NV H s;split at b
  ·cases b
  ·rename_i c;have c:r≠0:=fun e=>c (by simp[e])
   have j:=fun w=>ayq l c w
   rw[n]at j;split at b
   ·rename_i d;split at b
    ·rename_i L;injection b with b
     subst b;refine bz (v:= .agg ((J.drop i).take r).toArray) ?_ h B rfl ⟨_,rfl,(F.drop i).take _⟩;simp[execOp,E,Instr.field,run_underlying p,u,A,asAgg,part,j,d,rQ l c,k]
    ·cases b
   ·rename_i d;split at b
    ·rename_i y I;injection b with b
     subst b;obtain⟨v,z,m⟩:=F.get i I;refine bz (v:=v) ?_ h B rfl m;simp[execOp,E,Instr.field,run_underlying p,u,A,asAgg,part,j,d,k,z]
    ·cases b
 ·cases b
theorem Zn {x:Operand}{i:Nat}(k:o.op= .extract x i)(h:Hp S w0 N blk g al w)(d:(aN slot x).Rel S (bi N blk g) w g (a.eval x))
  (b:VI (aN slot x) i=some out) (j:Post S w0 N blk g al w fr out o.dst a K):o.wp P a w K Q:=by
 unfold VI at b;split at b
 ·rename_i p l;rw[l]at d;obtain⟨q,m,n⟩:=d;split at b
  ·rename_i y f;injection b with b
   subst b;obtain⟨v,e,c⟩:=n.get i f;refine bz (v:=v) ?_ h j rfl c;simp[execOp,k,Instr.extract,m,e]
  ·cases b
 ·cases b
theorem afx {t:TypeId}{x E:Operand}(R:o.op= .indexAddr t x E)(G:∀t O,T t=some O->gW P t O)(h:Hp S w0 N blk g al w)(j:(aN slot x).Rel S (bi N blk g) w g (a.eval x))
  (u:(aN slot E).Rel S (bi N blk g) w g (a.eval E)) (c:Pn T S blk t (aN slot x) (aN slot E)=some out) (J:nJ out.pre) (L:Post S w0 N blk g al w fr out o.dst a K):o.wp P a w K Q:=by
 unfold Pn at c;split at c
 ·cases c
 ·rename_i O X;split at c
  ·cases c
  ·rename_i e W;split at c
   ·cases c
   ·rename_i D Y;have B:=lY (G _ _ X) W;have C:=lG (G _ _ Y) w;split at c
    ·rename_i d k n A y;rw[A]at j;rw[y]at u;split at c
     ·rename_i s;simp only[kW]at s;have F:=Qa s.1;have Z:0 < D.size:=by simp_all
      injection c with c
      subst c;obtain⟨m,r⟩:=J;simp only[Sl.Rel,Sv.Rel,Lf.Rel]at u;obtain⟨av,p,f,H⟩:=dN.slice j au;have q:n.toNat < S.len d:=by omega
      rw[f]at j;obtain⟨z,rfl⟩:=dN.Cm j q au;refine bz (v:= .pointer (some (z.add (n.toNat*S.size d+0)))) ?_ h L rfl ⟨z,_,p,j,q,rfl⟩;simp[execOp,R,Instr.indexAt,u,asIntOf,run_underlying B,f,m,r,C,F]
     ·cases c
    ·rename_i l k n A y;rw[A]at j;rw[y]at u;split at c
     ·rename_i e' d I;split at c
      ·rename_i s;simp only[kW]at s;have F:=Qa s.1;have Z:0 < D.size:=by simp_all
       injection c with c
       subst c;obtain⟨m,r⟩:=J;simp only[Sl.Rel,Sv.Rel,Lf.Rel]at u j;obtain⟨v,f,_,xs,⟨hxl,M⟩,_⟩:=h.dW l _ I;rw[j]at f;injection f with f
       rcases M with⟨h0,hz⟩ | ⟨b,p,cur,V,_⟩
       ·omega
       ·rw[V]at f;refine bz (v:= .pointer (some ⟨b,n.toNat*D.size+0,none⟩)) ?_ h L rfl ⟨b,_,p,j.trans (by rw[f]),rfl⟩;simp[execOp,R,Instr.indexAt,u,asIntOf,run_underlying B,f,m,r,C,l_]
      ·cases c
     ·rename_i d I;split at c
      ·rename_i s;simp only[kW]at s;have F:=Qa s.1;have Z:0 < D.size:=by simp_all
       injection c with c
       subst c;obtain⟨m,r⟩:=J;simp only[Sl.Rel,Sv.Rel,Lf.Rel]at u j;obtain⟨v,f,i⟩:=h.dW l _ I;rw[j]at f;injection f with f
       have i:dN S (bi N blk g) w d v:=i;obtain⟨av,p,U,H⟩:=dN.slice i au;have q:n.toNat < S.len d:=by omega
       rw[U]at i f;obtain⟨z,rfl⟩:=dN.Cm i q au;refine bz (v:= .pointer (some (z.add (n.toNat*S.size d+0)))) ?_ h L rfl ⟨z,_,p,i,q,rfl⟩;simp[execOp,R,Instr.indexAt,u,asIntOf,run_underlying B,f,m,r,C,F]
      ·cases c
     ·cases c
    ·cases c
theorem mP {op:BinOp}{t:TypeId}{x y:Operand}{u v:Value}(b:one' u=true)(a:u≠ .nilIface):(eqGuard op t x y u v).run P w= .ok () w:=by
 cases u<;>first | (simp[one']at b;done) | (simp at a;done) | (cases op<;>rfl)
theorem Du {a:List Value}{i:Nat}{u:Value}{r:List Value}(h:a.drop i=u::r):a[i]? =some u/\a.drop (i+1)=r:=by
 constructor
 ·have:=XQ (·[0]?) h
  grind
 ·have:=XQ (·.drop 1) h;simpa[Nat.add_comm]using this
theorem amA {d:Nat}{t:TypeId}{k:Nat}{x y:Lf D}{u v:Value}{e:Bool}(b:Yg P t=some k)(i:x.Rel S M w g u)(h:y.Rel S M w g v)(a:eq1 k x y=some e):
  (Op.equalIn (d+1) t u v).run P w= .ok e w/\(isAgg t).run P w= .ok false w:=by
 unfold Yg at b;split at b
 ·rename_i c;injection b with b
  subst b;simp only[eq1]at a;split at a
  ·injection a with a
   subst a;cases i;cases h;exact⟨by simp[Op.equalIn,run_underlying c],by simp[isAgg,run_underlying c]⟩
  ·cases a
 ·rename_i c;injection b with b
  subst b;simp only[eq1]at a;split at a
  ·split at a
   ·rename_i f;injection a with a
    subst a;cases i;cases h;simp only[ZA,Qb6]at f;subst f;exact⟨by simp[Op.equalIn,run_underlying c],by simp[isAgg,run_underlying c]⟩
   ·cases a
  ·cases a
 ·rename_i c;injection b with b
  subst b;simp only[eq1]at a;split at a
  ·rename_i l j;injection a with a
   subst a;obtain⟨rfl,_⟩:=i;obtain⟨rfl,_⟩:=h;refine⟨?_,by simp[isAgg,run_underlying c]⟩;have:((⟨l.toArray⟩:ByteArray)==⟨j.toArray⟩)=(l==j):=by
    show(l.toArray==j.toArray)=_
    simp
   simp[Op.equalIn,run_underlying c,this]
  ·cases a
 ·cases b
theorem anj {d:Nat}{us vs:Array Value}:∀(q:List Field) (i:Nat) (s:List Nat) (l j:List (Lf D)) (r:Bool),eqFields P i q=some s->wR s l j=some r->
  bu S M w g l (us.toList.drop i)->bu S M w g j (vs.toList.drop i)->
  (forIn (m:=Sem) q ((none:Option Bool),()) fun f _=>if f.name≠ "_" then do
    let a<-part f.type us f.offset
    let b<-part f.type vs f.offset
    let e<-Op.equalIn (d+1) f.type a b
    if (!e)=true then pure (ForInStep.done (some false,()))else pure (ForInStep.yield (none,()))
   else pure (ForInStep.yield (none,()))).run P w= .ok (if r then none else some false,()) w
 | [],i,s,l,j,r,h,c,o,n=>by
  simp only[eqFields,P7]at h;subst h;cases l with
  | cons x l=>simp[wR]at c
  | nil=>
   cases j with
   | cons y j=>simp[wR]at c
   | nil=>
    simp only[wR,P7]at c;simp_all
 | f::q,i,s,l,j,r,h,c,o,n=>by
  unfold eqFields at h;split at h
  ·rename_i k G I B;split at h
   ·rename_i H;simp only[kW,Qa7]at H;obtain⟨⟨p,t⟩,W⟩:=H;have p:=Qa p;have t:f.name≠ "_" :=by simpa using t
    injection h with h
    subst h;cases l with
    | nil=>simp[wR]at c
    | cons x l=>
     cases j with
     | nil=>simp[wR]at c
     | cons y j=>
      unfold wR at c;split at c
      ·rename_i e J z C;injection c with c
       subst c;generalize E:us.toList.drop i=U at o;generalize F:vs.toList.drop i=V at n;cases U with
       | nil=>exact o.elim
       | cons u U=>
        cases V with
        | nil=>exact n.elim
        | cons v V=>
         obtain⟨O,u2⟩:=Du E;obtain⟨N,Q⟩:=Du F;obtain⟨L,A⟩:=amA (d:=d) I o.1 n.1 z;have T:=anj (d:=d) (us:=us) (vs:=vs) q (i+1) G l j J B C (by rw[u2];exact o.2) (by rw[Q];exact n.2);have R:(part f.type us f.offset).run P w= .ok u w:=by
          have:us[i]? =some u:=by simpa using O
          simp[part,A,p,this]
         have K:(part f.type vs f.offset).run P w= .ok v w:=by
          have:vs[i]? =some v:=by simpa using N
          simp[part,A,p,this]
         rw[List.forIn_cons];simp only[t,ne_eq,not_false_eq_true,if_true,Sem.run_bind,R,K,L,Result.andThen_ok];cases e with
         | false=>simp
         | true=>
          simp_all
      ·cases c
   ·cases h
  ·cases h
theorem awt {d n0:Nat}{e:TypeId}{k:Nat}{us vs:Array Value}(p:Yg P e=some k):∀(n i:Nat) (j h:List (Lf D)) (r:Bool),wR (List.replicate n k) j h=some r->
  bu S M w g j (us.toList.drop i)->bu S M w g h (vs.toList.drop i)->
  (forIn (m:=Sem) (List.range' i n) ((none:Option Bool),()) fun i _=>do
    let a<-part e us (i*1)
    let b<-part e vs (i*1)
    let c<-Op.equalIn (d+1) e a b
    if (!c)=true then pure (ForInStep.done (some false,()))else pure (ForInStep.yield (none,()))).run P w= .ok (if r then none else some false,()) w
 | 0,i,j,h,r,f,o,l=>by
  cases j with
  | cons x j=>simp[wR]at f
  | nil=>
   cases h with
   | cons y h=>simp[wR]at f
   | nil=>
    simp only[List.replicate,wR,P7]at f;simp_all
 | n+1,i,j,h,r,f,o,l=>by
  rw[List.replicate_succ]at f;cases j with
  | nil=>simp[wR]at f
  | cons x j=>
   cases h with
   | nil=>simp[wR]at f
   | cons y h=>
    unfold wR at f;split at f
    ·rename_i c B q t;injection f with f
     subst f;generalize z:us.toList.drop i=U at o;generalize A:vs.toList.drop i=V at l;cases U with
     | nil=>exact o.elim
     | cons u U=>
      cases V with
      | nil=>exact l.elim
      | cons v V=>
       obtain⟨G,u2⟩:=Du z;obtain⟨F,H⟩:=Du A;obtain⟨E,s⟩:=amA (d:=d) p o.1 l.1 q;have J:=awt (d:=d) (n0:=n0) (us:=us) (vs:=vs) p n (i+1) j h B t (by rw[u2];exact o.2) (by rw[H];exact l.2);have I:(part e us (i*1)).run P w= .ok u w:=by
        have:us[i]? =some u:=by simpa using G
        simp[part,s,this]
       have C:(part e vs (i*1)).run P w= .ok v w:=by
        have:vs[i]? =some v:=by simpa using F
        simp[part,s,this]
       rw[List.range'_succ,List.forIn_cons];simp only[Sem.run_bind,I,C,E,Result.andThen_ok];cases c with
       | false=>simp
       | true=>
        simp_all
    ·cases f
theorem aal {t:TypeId}{s:Ty}{us vs:List Value}{j h:List (Lf D)}{k:Nat}{A:List Nat}{r:Bool}(F:gW P t s)(a:s.eqs=k::A)(E:wR (k::A) j h=some r)(hx:bu S M w g j us)(u:bu S M w g h vs):
  (Op.equal t (.agg us.toArray) (.agg vs.toArray)).run P w= .ok r w/\P.eqGuardType P.depth t=false:=by
 obtain⟨i,d,z,K,N,p,J,rfl⟩:=nU F;cases d with
 | struct G=>
  simp only[ah6]at a;split at a
  ·cases a
  ·rename_i f;simp only[Qa9,not_or,Qdv]at f;obtain⟨B,C⟩:=f;refine⟨?_,C⟩;split at a
   ·rename_i H o;subst a
    suffices b:∀d,(Op.equalIn (d+1+1) t (.agg us.toArray) (.agg vs.toArray)).run P w= .ok r w from b 9998
    intro d;have:=anj (P:=P) (w:=w) (d:=d) (us:=us.toArray) (vs:=vs.toArray) G.toList 0 _ j h r o E qcu (by simpa using u);rw[Array.forIn_toList]at this;simp only[Op.equalIn,Sem.run_bind,run_underlying p,Result.andThen_ok,program];simp only[Sem.run,Result.andThen_ok,B,Qa8,if_false];rw[Sem.run_bind];refine(XQ (fun x=>Result.andThen x _) this).trans ?_;rw[Result.andThen_ok];cases r<;>rfl
   ·cases a
 | array n e=>
  simp only[ah6]at a;split at a
  ·cases a
  ·rename_i f;simp only[Qdv]at f;refine⟨?_,f⟩;split at a
   ·rename_i L I y m;split at a
    ·rename_i c;have c:=Qa c
     suffices b:∀d,(Op.equalIn (d+1+1) t (.agg us.toArray) (.agg vs.toArray)).run P w= .ok r w from b 9998
     intro d;have:=awt (P:=P) (w:=w) (d:=d) (n0:=0) (us:=us.toArray) (vs:=vs.toArray) y n 0 j h r rf qcu (by simpa using u);have v:(sizeOf e).run P w= .ok 1 w:=by simp[sizeOf,typeInfo,m,c]
     obtain⟨q,l⟩:∃q,q=d+1:=⟨_,rfl⟩;rw[<-l]at this⊢;simp only[Op.equalIn,Sem.run_bind,run_underlying p,Result.andThen_ok,v,Std.Legacy.Range.forIn_eq_forIn_range',Std.Legacy.Range.size];rw[show(n - 0+1 - 1) / 1=n by simp];refine(XQ (fun x=>Result.andThen x _) this).trans ?_;rw[Result.andThen_ok];cases r<;>rfl
    ·cases a
   ·cases a
 | _=>simp[ah6]at a
theorem aks {op:BinOp}{t I:TypeId}{x y:Operand}(q:o.op= .binOp op t x y I)(r:∀t E,T t=some E->gW P t E)(h:Hp S w0 N blk g al w)(c:(aN slot x).Rel S (bi N blk g) w g (a.eval x))
  (f:(aN slot y).Rel S (bi N blk g) w g (a.eval y)) (b:ano T S op t (aN slot x) (aN slot y)=some out) (p:Post S w0 N blk g al w fr out o.dst a K):o.wp P a w K Q:=by
 unfold ano at b;split at b
 ·cases b
 ·rename_i E s;split at b
  ·rename_i e d B l z;split at b
   rotate_left
   ·cases b
   rename_i C;have C:0 < S.size d:=by simp_all
   have i:=lY (r _ _ s) B;rw[l]at c;rw[z]at f;have c:dN S (bi N blk g) w d (a.eval x):=c;have f:a.eval y= .slice none 0 0:=f;obtain⟨k,m,D,F⟩:=dN.slice c C;have n:k.isNone=true->S.len d=0:=fun G=>by
    rw[D]at c;rcases Qd5 (S.len d)with A | A
    ·exact A
    ·obtain⟨J,rfl⟩:=dN.Cm c A C;cases G
   have j:=fun w=>mP (P:=P) (w:=w) (op:=op) (t:=t) (x:=x) (y:=y) (u:= .slice k (S.len d) m) (v:= .slice none 0 0) rfl qb
   split at b
   ·injection b with b;subst b
    refine bz (v:= .bool k.isNone) ?_ h p rfl ⟨_,rfl,n⟩;simp[execOp,q,D,f,j,Lib.run_eql_slice_nil w t e k (S.len d) m 0 0 i]
   ·injection b with b;subst b
    refine bz (v:= .bool (!k.isNone)) ?_ h p rfl ⟨_,rfl,fun H=>n (by simpa using H)⟩;simp[execOp,q,D,f,j,run_neq_slice_nil_any w t e k (S.len d) m 0 0 i]
   ·cases b
  ·rename_i e B l z;have i:=lY (r _ _ s) B;rw[l]at c;rw[z]at f;have c:a.eval x= .slice none 0 0:=c;have f:a.eval y= .slice none 0 0:=f;have j:=fun w=>mP (P:=P) (w:=w) (op:=op) (t:=t) (x:=x) (y:=y) (u:= .slice none 0 0) (v:= .slice none 0 0) rfl qb
   split at b
   ·injection b with b;subst b
    refine bz (v:= .bool true) ?_ h p rfl rfl;simp[execOp,q,c,f,j,Lib.run_eql_slice_nil w t e none 0 0 0 0 i]
   ·injection b with b;subst b
    refine bz (v:= .bool false) ?_ h p rfl rfl;simp[execOp,q,c,f,j,run_neq_slice_nil_any w t e none 0 0 0 0 i]
   ·cases b
  ·cases b
theorem ao9 {op:BinOp}{t yt:TypeId}{x y:Operand}(i:o.op= .binOp op t x y yt)(D:∀t A,T t=some A->gW P t A)(h:Hp S w0 N blk g al w)(f:(aN slot x).Rel S (bi N blk g) w g (a.eval x))
  (e:(aN slot y).Rel S (bi N blk g) w g (a.eval y)) (b:aHo T op t (aN slot x) (aN slot y)=some out) (l:nJ out.pre) (p:Post S w0 N blk g al w fr out o.dst a K):o.wp P a w K Q:=by
 unfold aHo at b;split at b
 ·rename_i k n M m j B;rw[j]at f;rw[B]at e;simp only[Sl.Rel,Sv.Rel,Lf.Rel]at f e;split at b
  ·
   have c:=fun w=>mP (P:=P) (w:=w) (op:= .shl) (t:=t) (x:=x) (y:=y) (u:= .int k n) (v:= .int M m) rfl qb
   injection b with b
   subst b;have l:0<=m:=l;refine bz (v:=_) ?_ h p rfl rfl;simp[execOp,i,f,e,c,binOp,Op.shift,show ¬m < 0 by omega,Zj]
  ·have c:=fun w=>mP (P:=P) (w:=w) (op:= .shr) (t:=t) (x:=x) (y:=y) (u:= .int k n) (v:= .int M m) rfl qb
   injection b with b
   subst b;have l:0<=m:=l;refine bz (v:=_) ?_ h p rfl rfl;simp[execOp,i,f,e,c,binOp,Op.shift,show ¬m < 0 by omega,Ar]
  ·split at b
   rotate_left
   ·cases b
   rename_i hns aOh q;have q:k=M:=by simpa[ZA]using q
   subst q;have c:=fun w=>mP (P:=P) (w:=w) (op:=op) (t:=t) (x:=x) (y:=y) (u:= .int k n) (v:= .int k m) rfl qb
   unfold aL3 at b;split at b<;>first
    | (
      injection b with b;subst b
      refine bz (v:=_) ?_ h p rfl rfl;first
       | (simp[execOp,i,f,e,c,binOp,Op.intArith,dA];done)
       | (simp[execOp,i,f,e,c,binOp,Op.intBits,uO,orI,ajB,aKN];done)
       | (simp[execOp,i,f,e,c,binOp,Op.intCmp];done)
       | (simp[execOp,i,f,e,c,binOp,Op.intDiv,show m≠0 from l];done)
       | (simp[execOp,i,f,e,c,binOp,Op.intDiv,show m≠0 from l,dA];done))
    | cases b
 ·rename_i s u j B;rw[j]at f;rw[B]at e;simp only[Sl.Rel,Sv.Rel,Lf.Rel]at f e;obtain⟨f,hxl⟩:=f;obtain⟨e,hyl⟩:=e;have c:=fun w=>mP (P:=P) (w:=w) (op:=op) (t:=t) (x:=x) (y:=y) (u:= .string ⟨s.toArray⟩) (v:= .string ⟨u.toArray⟩) rfl qb
  unfold aJ0 at b;split at b<;>first
   | (
     injection b with b;subst b
     refine bz (v:=_) ?_ h p rfl rfl;simp[execOp,i,f,e,c,binOp,Op.stringOp,bne];done)
   | (cases b;done)
   | skip
  injection b with b
  subst b;have E:=run_string_add_sum (P:=P) w ⟨s.toArray⟩ ⟨u.toArray⟩ (by simpa[ByteArray.size,nJ]using l);rw[ByteArray.mk_append_mk]at E;refine bz (v:= .string ⟨(s++u).toArray⟩) ?_ h p rfl ⟨rfl,by simpa[nJ]using l⟩;simp[execOp,i,f,e,c,binOp,E]
 ·rename_i xs ys j B;rw[j]at f;rw[B]at e;obtain⟨U,G,H⟩:=f;obtain⟨vs,I,F⟩:=e;split at b
  ·rename_i A z;split at b
   ·cases b
   ·rename_i ks hne;cases C:A.eqs with
    | nil=>grind
    | cons k ks'=>
     rw[C]at b;split at b
     ·rename_i r J;injection b with b;subst b
      obtain⟨L,R⟩:=aal (D _ _ z) C J H.norm F.norm;refine bz (v:= .bool r) ?_ h p rfl rfl;have c:(eqGuard .eql t x y (.agg U.toArray) (.agg vs.toArray)).run P w= .ok () w:=by
       simp only[eqGuard,program];simp[Sem.run,R]
      simp[execOp,i,G,I,c,binOp,L]
     ·rename_i r J;injection b with b;subst b
      obtain⟨L,R⟩:=aal (D _ _ z) C J H.norm F.norm;refine bz (v:= .bool (!r)) ?_ h p rfl rfl;have c:(eqGuard .neq t x y (.agg U.toArray) (.agg vs.toArray)).run P w= .ok () w:=by
       simp only[eqGuard,program];simp[Sem.run,R]
      simp[execOp,i,G,I,c,binOp,L]
     ·cases b
  ·cases b
 ·split at b
  ·rename_i s u X Z
   have f:=Hg X f;have e:=Hg Z e;have c:=fun w=>mP (P:=P) (w:=w) (op:=op) (t:=t) (x:=x) (y:=y) (u:= .bool s) (v:= .bool u) rfl qb
   split at b
   ·rename_i A z;split at b
    ·rename_i q;obtain⟨d,Y,V⟩:=oJ (D _ _ z);have q:A.kind=1:=by simpa using q
     rw[q]at V;have Y:P.underlying t=some .bool:=by cases d<;>simp_all [kindOf]
     have W:∀n,(Op.equalIn (n+1) t (.bool s) (.bool u)).run P w= .ok (s==u) w:=fun n=>by simp[Op.equalIn,run_underlying Y]
     have O:(Op.equal t (.bool s) (.bool u)).run P w= .ok (s==u) w:=W 9999;split at b<;>first
      | (
        injection b with b;subst b
        refine bz (v:=_) ?_ h p rfl rfl;simp[execOp,i,f,e,c,binOp,O,bne];done)
      | cases b
    ·cases b
   ·cases b
  ·cases b
theorem asy {l:UnOp}{t:TypeId}{x:Operand}(i:o.op= .unOp l t x)(h:Hp S w0 N blk g al w)(d:(aN slot x).Rel S (bi N blk g) w g (a.eval x))
  (c:xUn l (aN slot x)=some out) (q:nJ out.pre) (f:Post S w0 N blk g al w fr out o.dst a K):o.wp P a w K Q:=by
 unfold xUn at c;split at c
 ·rename_i b e;rw[e]at d;simp only[Sl.Rel,Sv.Rel,Lf.Rel]at d;injection c with c;subst c
  refine bz (v:=_) ?_ h f rfl rfl;simp[execOp,i,d,Op.unary]
 ·rename_i b e;rw[e]at d;simp only[Sl.Rel,Sv.Rel,Lf.Rel]at d;injection c with c;subst c
  refine bz (v:=_) ?_ h f rfl rfl;simp[execOp,i,d,Op.unary]
 ·rename_i p e;rw[e]at d;obtain⟨b,m,j⟩:=d;injection c with c;subst c
  refine bz (v:= .bool (!b)) ?_ h f rfl ⟨!b,rfl,by simpa using j⟩;simp[execOp,i,m,Op.unary]
 ·rename_i k n e;rw[e]at d;simp only[Sl.Rel,Sv.Rel,Lf.Rel]at d;injection c with c;subst c
  refine bz (v:=_) ?_ h f rfl rfl;simp[execOp,i,d,Op.unary,Op.intArith,dA]
 ·rename_i k n e;rw[e]at d;simp only[Sl.Rel,Sv.Rel,Lf.Rel]at d;injection c with c;subst c
  refine bz (v:=_) ?_ h f rfl rfl;simp[execOp,i,d,Op.unary,Op.intBits,ajB]
 ·cases c
theorem ajR {c x y:Operand}(ho:o.op= .pick c x y)(h:Hp S w0 N blk g al w)(hc:(aN slot c).Rel S (bi N blk g) w g (a.eval c))(f:(aN slot x).Rel S (bi N blk g) w g (a.eval x))
  (e:(aN slot y).Rel S (bi N blk g) w g (a.eval y)) (b:aoA slot c x y=some out) (i:Post S w0 N blk g al w fr out o.dst a K):o.wp P a w K Q:=by
 unfold aoA at b;split at b
 ·rename_i d;rw[d]at hc;simp only[Sl.Rel,Sv.Rel,Lf.Rel]at hc;injection b with b;subst b
  exact bz (v:=a.eval x) qcn h i rfl f
 ·rename_i d;rw[d]at hc;simp only[Sl.Rel,Sv.Rel,Lf.Rel]at hc;injection b with b;subst b
  exact bz (v:=a.eval y) qcn h i rfl e
 ·rename_i t d;rw[d]at hc;simp only[Sl.Rel,Sv.Rel,Lf.Rel]at hc;split at b
  ·rename_i p q k j;have f:=Hg k f;have e:=Hg j e;injection b with b;subst b
   cases t
   ·exact bz (v:=a.eval y) qcn h i rfl e
   ·exact bz (v:=a.eval x) qcn h i rfl f
  ·cases b
 ·cases b
end
end Go.Vc
namespace Go.Vc
open Go.RowKit
section
variable {D:Type}{P:Program}{S:Sh D}{T:TypeId->Option Ty}{Γ:FuncId->Option (Ct D)}{M N:Nat->Prop}{w w':World}{w0:Bs}{g:Nat->Option Value}{blk:Nat->Option (Bk D)}{al:Nat->Prop}
 {a:Act} {o:Oper} {K:Act->World->Prop} {Q:Exit->Act->World->Prop} {slot:Nat->Sl D} {out:Out D} {fr:Nat}
theorem aa3:∀(b:List Value) (a k:Nat) (cs:Array Value),a+k+b.length<=cs.size->
  ((b.zipIdx k).foldl (fun(cs:Array Value) (p:Value×Nat)=>cs.setIfInBounds (a+p.2) p.1) cs).toList=cs.toList.take (a+k)++(b++cs.toList.drop (a+k+b.length))
 | [],a,k,cs,_=>by simp
 | u::b,a,k,cs,h=>by
  simp only[yG]at h;have c:a+k < cs.toList.length:=by simp;omega
  rw[List.zipIdx_cons,List.foldl_cons,aa3 b a (k+1) _ qb6];simp only[Array.toList_setIfInBounds];have d:(cs.toList.set (a+k) u).take (a+(k+1))=cs.toList.take (a+k)++[u]:=by
   rw[show a+(k+1)=(a+k)+1 by omega,Qbk (by simpa using c),Qd9,List.set_eq_of_length_le qb6];simp
  have e:(cs.toList.set (a+k) u).drop (a+(k+1)+b.length)=cs.toList.drop (a+k+(u::b).length):=by
   rw[Qdj au]
   grind
  grind
theorem ahh {v:Value}{a:Nat}{cs:Array Value}(h:a+v.cells.size<=cs.size):
  (v.cells.zipIdx.foldl (fun(cs:Array Value) (p:Value×Nat)=>cs.setIfInBounds (a+p.2) p.1) cs).toList=cs.toList.take a++(v.cells.toList++cs.toList.drop (a+v.cells.toList.length)):=by
 rw[<-Array.foldl_toList,Array.toList_zipIdx];simpa using aa3 v.cells.toList a 0 cs qbt
theorem anF {y:Ty}{place:Nat->Option (Nat×Nat)}(k:∀l u,g l=some u->isRef u=true)(s:∀t,(slot t).Rel S M w g (a.tmps.getD t undef))
  (n:∀f b j o,y.asc[f]? =some (b,j,o)->place f=some (b,j)):
  ∀(parts:List (Nat×Operand)) (cs d:List (Lf D)) (i:Array Value),bu S M w g cs i.toList->JH y slot parts cs=some d->
   ∃e,Instr.fill place i (parts.map fun p=>(p.1,a.eval p.2))=some e/\bu S M w g d e.toList
 | [],cs,d,i,h,c=>⟨i,rfl,by injection c with c;grind⟩
 | (f,x)::r,cs,d,i,h,c=>by
  unfold JH at c;split at c
  ·rename_i b j o u F C;split at c
   ·rename_i m;simp only[kW]at m;obtain⟨⟨E,B⟩,z⟩:=m;have B:=Qa B;have z:=Qa3 z;have A:=qh s x;rw[C]at A;have m:=t_ k E A;have J:=m.length;have H:=h.length;have I:(a.eval x).cells.size=j:=by grind
    have q:b+(a.eval x).cells.size<=i.size:=by
     grind
    obtain⟨e,G,v⟩:=anF k s n r _ d _ (by rw[ahh q];exact h.putAt m b) c;refine⟨e,?_,v⟩;simp only[Kq,Instr.fill,n f b j o F]
    grind
   ·cases c
  ·cases c
theorem Ej:∀(a:List Field),(∀f∈a,cellsIn P f.type≠0)->
  (a.mapM fun f=>(do pure (f.offset,<-sizeOf f.type):Sem (Nat×Nat))).run P w= .ok (a.map fun f=>(f.offset,cellsIn P f.type)) w
 | [],_=>rfl
 | f::a,h=>by
  have c:=rQ (P:=P) rfl (h f qb) w;have d:=Ej a fun x b=>h x (by simp[b])
  simp_all
theorem air {t:TypeId}{parts:Array (Nat×Operand)}(r:o.op= .build t parts)(A:∀t n,T t=some n->gW P t n)(h:Hp S w0 N blk g al w)
  (D:∀t,(slot t).Rel S (bi N blk g) w g (a.tmps.getD t undef)) (b:acL T slot t parts=some out) (H:Post S w0 N blk g al w fr out o.dst a K):o.wp P a w K Q:=by
 unfold acL at b;split at b
 ·rename_i n C;have u:=A _ _ C;split at b
  ·rename_i s;simp only[kW]at s;split at b
   ·rename_i cs E;injection b with b
    subst b;obtain⟨z,F,B⟩:=D6 u w;obtain⟨i,d,O,R,U,G,I,rfl⟩:=nU u;cases d with
    | struct q=>
     have l:∀f∈q.toList,cellsIn P f.type≠0:=by
      intro f m;have:=s.2;simp only[PL,List.all_map,Qa2,Function.comp,Qa7]at this;intro e;have:=this f m;simp_all
     obtain⟨j,c,y⟩:=anF (a:=a) (place:=fun f=>((q.toList.map fun f=>(f.offset,cellsIn P f.type)).toArray)[f]?) h.refs D (fun f J M L r=>by
      simp only[PL,Qbq,Qcb,Qbg]at r
      grind) parts.toList _ cs z.cells (by rw[B];exact uk _) E
     refine bz (v:= .agg j) ?_ h H rfl ⟨j.toList,by simp,y⟩;have m:=Ej (P:=P) (w:=w) q.toList l;have k:parts.toList.map (fun p=>(p.1,a.eval p.2))=(parts.map fun(i,x)=>(i,a.eval x)).toList:=by simp
     rw[k]at c;simp only[execOp,r,Instr.build,Sem.run_bind,F,Result.andThen_ok,run_underlying G];rw[Qdh];simp only[Sem.run_map,m,Result.andThen_ok,Sem.run_pure];simp at c;simp[c]
    | _=>simp[kindOf]at s
   ·cases b
  ·cases b
 ·cases b
theorem WQ {sz:Nat}(j:∀l u,g l=some u->isRef u=true)(n:∀t,(slot t).Rel S M w g (a.tmps.getD t undef)):
  ∀(parts:List (Nat×Operand)) (cs c:List (Lf D)) (e:Array Value),bu S M w g cs e.toList->zC sz slot parts cs=some c->
   ∃d,Instr.fill (fun i=>some (i*sz,sz)) e (parts.map fun p=>(p.1,a.eval p.2))=some d/\bu S M w g c d.toList
 | [],cs,c,e,h,b=>⟨e,rfl,by injection b with b;grind⟩
 | (f,x)::r,cs,c,e,h,b=>by
  unfold zC at b;split at b
  ·rename_i u y;split at b
   ·rename_i k;simp only[kW]at k;obtain⟨⟨z,v⟩,q⟩:=k;have v:=Qa v;have q:=Qa3 q;have s:=qh n x;rw[y]at s;have k:=t_ j z s;have E:=k.length;have B:=h.length;have C:(a.eval x).cells.size=sz:=by grind
    have m:f*sz+(a.eval x).cells.size<=e.size:=by
     grind
    obtain⟨d,A,o⟩:=WQ j n r _ c _ (by rw[ahh m];exact h.putAt k (f*sz)) b;refine⟨d,?_,o⟩;simp only[Kq,Instr.fill]
    grind
   ·cases b
  ·cases b
theorem Jo {x:Lf D}{u:Value}(c:x.kF=true)(h:x.Rel S M w g u)(d:∀b,b < w.heap.size->¬M b->w'.heap[b]? =w.heap[b]?):Lf.plain x u/\∀a,x= .dat a->Cf S w' a u:=by
 cases x<;>first | (simp[Lf.kF]at c;done) | exact⟨h,fun a e=>by cases e⟩ | exact⟨trivial,fun a e=>by cases e;exact h w' d⟩
theorem aq0 {d:D}{b n:Nat}{e:TypeId}{f:Array Value}{cs:List (Lf D)}(k:jE S)(p:S.make e n cs=some d)(s:w.heap[b]? =some (.cells f e (0,0)))(r:¬M b)(A:bu S M w g cs f.toList)(C:n<=9223372036854775807):
  dN S M w d (.slice (some ⟨b,0,none⟩) n n):=by
 intro w' q;obtain⟨E,F,y⟩:=k.make e n cs d p;have v:=(q b (G5 s) r).trans s;have m:∀i j,i < n->j < S.size d->∃u,f.toList[i*S.size d+j]? =some u/\Lf.plain (S.cell d i j) u/\∀l,S.cell d i j= .dat l->Cf S w' l u:=by
  intro i j h a;obtain⟨x,z,o⟩:=y i j h a;obtain⟨u,c,t⟩:=A.get _ z;exact⟨u,c,Jo (k.data d i j au a) (o.rel t) q⟩
 have:=Cf.mk (S:=S) (w:=w') d (k.afh _ _ _ _ p) (some ⟨b,0,none⟩) n (fun i j=>(f.toList[i*S.size d+j]?).getD undef) au au
  (fun i j h a=>by
   obtain⟨u,c,_⟩:=m i j au a;refine⟨_,rfl,?_⟩;simp only[c,Qdg];rw[l_,Dw];simp[World.cell?,v,<-c])
  (fun i j h a=>by
   grind)
  (fun i j l h a B=>by
   grind)
 grind
theorem sound_row {t:TypeId}{n:Nat}{parts:Array (Nat×Operand)}(F:jE S)(ho:o.op= .buildSlice t n parts)(A:∀t U,T t=some U->gW P t U)(h:Hp S w0 N blk g al w)
  (hs:∀t,(slot t).Rel S (bi N blk g) w g (a.tmps.getD t undef)) (hfr:∀n,fr<=n->n < fr+64->¬al n) (c:aDm T S slot fr t n parts=some out) (hK:Post S w0 N blk g al w fr out o.dst a K):o.wp P a w K Q:=by
 unfold aDm at c;split at c
 ·cases c
 ·rename_i U hty;split at c
  ·cases c
  ·rename_i e hel;split at c
   ·cases c
   ·rename_i f H;have hsl:=lY (A _ _ hty) hel;have hsz:=lG (A _ _ H) w;obtain⟨z,E,hzc⟩:=D6 (A _ _ H) w;split at c
    ·rename_i G;simp only[kW]at G;obtain⟨⟨h1,C⟩,h3⟩:=G;have h1:=Qa3 h1;have C:0 < f.size:=by simp_all
     have h3:=Qa h3;have X:z.cells.size=f.size:=by grind
     split at c
     ·rename_i cs hf;split at c
      ·rename_i d L;let r:Array Value:=(Array.range (n*f.size)).map fun k=>z.cells[k % z.cells.size]!
       have Y:bu S (bi N blk g) w g ((List.range (n*f.size)).map fun k=>(zf ((f.zero[k % f.size]?).getD (.bool false)):Lf D)) r.toList:=by
        have:r.toList=(List.range (n*f.size)).map fun k=>(f.zero[k % f.size]?).getD (.bool false):=by
         simp only[r,Array.toList_map,Array.toList_range];apply Qbb;intro k _;have V:k % f.size < z.cells.size:=by rw[X];exact Qcw _ C
         grind
        rw[this];have E:=uk (S:=S) (M:=bi N blk g) (w:=w) (g:=g) (D:=D) ((List.range (n*f.size)).map fun k=>(f.zero[k % f.size]?).getD (.bool false));rw[Qc3]at E;exact E
       obtain⟨q,m,B⟩:=WQ (a:=a) h.refs hs parts.toList _ cs r Y hf;have hB:Below w.heap.size w (w.alloc (.cells q e)):=(Below.refl w.heap.size w).alloc (nO _) _;obtain⟨Z,I⟩:=h.grow hB;have y:(execOp a.eval o).run P w= .ok (.value (.slice (some ⟨w.heap.size,0,none⟩) n n)) (w.alloc (.cells q e)):=by
        have J:parts.toList.map (fun p=>(p.1,a.eval p.2))=(parts.map fun(i,x)=>(i,a.eval x)).toList:=by simp
        rw[J]at m;simp only[execOp,ho,Instr.buildSlice,Sem.run_bind,run_underlying hsl,Result.andThen_ok,hsz];rw[yc au];by_cases s:n*f.size=0
        ·simp only[s,if_true,Sem.run_bind,Sem.run_pure,Result.andThen_ok];have e0:r= #[]:=by simp[r,s]
         rw[e0]at m;simp at m;simp[m,newRow,newObj,Sem.run,show Array.range 0= #[]from rfl]
        ·simp only[s,if_false,Sem.run_bind,Sem.run_pure,Result.andThen_ok,E];simp only[r]at m;simp at m;simp[m,newRow,newObj,Sem.run]
       split at c
       ·injection c with c
        subst c;obtain⟨R,q2,q3⟩:=F.make _ _ _ _ L;have hvl:q.toList.length=n*S.size d:=by rw[<-q2,Qb0];exact B.length.symm
        obtain⟨g1,g2,g3⟩:=h.add (l:=fr) (bk:= .row e d) (v:= .slice (some ⟨w.heap.size,0,none⟩) n n) hB (hfr fr (nO _) au) (fun b O=>by simp[fJ]at O;omega)
         (fun M' V _=>by
          refine⟨⟨fun b O=> .inl ?_,⟨by rw[R];have:n*1<=n*f.size:=Qdm n C;omega,F.afh _ _ _ _ L⟩⟩,q.toList,⟨by grind, .inr ⟨w.heap.size,n,q,by rw[R],ve _,heap_alloc_new w _,by omega,?_,by simpa using hvl,?_⟩⟩,fun i j hi hj=> ?_⟩
          ·simp only[fJ,P7]at O;have:=h.below.size;omega
          ·have:n*1<=n*f.size:=Qdm n C;simp only[maxLen];omega
          ·grind
          ·rw[R]at hi;obtain⟨x,G,W⟩:=q3 i j hi hj;obtain⟨u,hu,hru⟩:=B.norm.get _ G;refine⟨u,hu,F.data d i j au hj,(W.rel hru).keep V (fun l v hl=> ?_)⟩;rw[df _ _ _ _ qbl];exact hl)
        exact l9 y (hK _ _ _ g3 g2 (g1.weaken fun n s=>s.elim .inl fun e=> .inr ⟨Qdf e.symm,by omega⟩) (upd_same _ _ _))
       injection c with c
       subst c;refine l9 y (hK _ _ _ (More.refl _) I (Z.weaken fun _ h=> .inl h) ?_);exact aq0 F L (heap_alloc_new w _) (fun hmm=>by have:=h.mlt hmm;omega) (B.norm.keep I (More.refl _)) (by have:n*1<=n*f.size:=Qdm n C;omega)
      ·cases c
     ·cases c
    ·cases c
theorem aq4 {c:Call}{x:Operand}(C:o.op= .call c)(D:c.callee= .builtin .len)(O:c.args.toList=[x])(I:∀t n,T t=some n->gW P t n)(h:Hp S w0 N blk g al w)
  (k:(aN slot x).Rel S (bi N blk g) w g (a.eval x)) (b:aq_ S T blk c.argTypes (aN slot x)=some out) (z:Post S w0 N blk g al w fr out o.dst a K):o.wp P a w K Q:=by
 have j:c.args= #[x]:=by grind
 unfold aq_ at b;split at b
 ·cases b
 ·rename_i t r;split at b
  ·cases b
  ·rename_i n L;obtain⟨B,y,i⟩:=oJ (I _ _ L);split at b
   ·rename_i d p;rw[p]at k;split at b
    ·rename_i f;have f:n.kind=4/\0 < S.size d:=by simpa using f
     obtain⟨f,A⟩:=f;obtain⟨E,q,m,_⟩:=dN.slice k A;rw[f]at i;cases B<;>simp[kindOf]at i
     injection b with b
     subst b;refine bz (v:= .int .i64 (S.len d)) ?_ h z rfl rfl;simp[execOp,C,resolve,D,invoke,builtin,Builtin.len_,j,r,run_underlying y,m,goInt]
    ·cases b
   ·rename_i s p;rw[p]at k;simp only[Sl.Rel,Sv.Rel,Lf.Rel]at k;split at b
    ·rename_i f;have f:n.kind=3:=by simpa using f
     rw[f]at i;cases B<;>simp[kindOf]at i
     injection b with b
     subst b;refine bz (v:= .int .i64 s.length) ?_ h z rfl rfl;have H:(ByteArray.mk s.toArray).size=s.length:=by rfl
     simp[execOp,C,resolve,D,invoke,builtin,Builtin.len_,j,r,run_underlying y,k,goInt,H]
    ·cases b
   ·rename_i l p;rw[p]at k;simp only[Sl.Rel,Sv.Rel,Lf.Rel]at k;split at b
    ·rename_i e d F;split at b
     ·rename_i f;have f:n.kind=4:=by simpa using f
      rw[f]at i;cases B<;>simp[kindOf]at i
      injection b with b
      subst b;obtain⟨v,m,_,R,⟨_,M⟩,_⟩:=h.dW l _ F;rw[k]at m;injection m with m
      have J:∃E q,a.eval x= .slice E (S.len d) q:=by
       grind
      obtain⟨E,q,u⟩:=J;refine bz (v:= .int .i64 (S.len d)) ?_ h z rfl rfl;simp[execOp,C,resolve,D,invoke,builtin,Builtin.len_,j,r,run_underlying y,u,goInt]
     ·cases b
    ·rename_i d F;split at b
     ·rename_i f;have f:n.kind=4/\0 < S.size d:=by simpa using f
      obtain⟨f,A⟩:=f;rw[f]at i;cases B<;>simp[kindOf]at i
      injection b with b
      subst b;obtain⟨v,m,G⟩:=h.dW l _ F;rw[k]at m;injection m with m
      obtain⟨E,q,u,_⟩:=dN.slice (show dN S (bi N blk g) w d v from G) A;rw[u]at m;refine bz (v:= .int .i64 (S.len d)) ?_ h z rfl rfl;simp[execOp,C,resolve,D,invoke,builtin,Builtin.len_,j,r,run_underlying y,m,goInt]
     ·cases b
    ·cases b
   ·rename_i p;rw[p]at k;simp only[Sl.Rel,Sv.Rel,Lf.Rel]at k;split at b
    ·rename_i f;have f:n.kind=4:=by simpa using f
     rw[f]at i;cases B<;>simp[kindOf]at i
     injection b with b
     subst b;refine bz (v:= .int .i64 0) ?_ h z rfl rfl;simp[execOp,C,resolve,D,invoke,builtin,Builtin.len_,j,r,run_underlying y,k,goInt]
    ·cases b
   ·cases b
theorem aau {c:Call}{x y:Operand}{b:Builtin}(u:b= .min\/b= .max)(q:o.op= .call c)(r:c.callee= .builtin b)(t:c.args.toList=[x,y])(h:Hp S w0 N blk g al w)
  (i:(aN slot x).Rel S (bi N blk g) w g (a.eval x)) (f:(aN slot y).Rel S (bi N blk g) w g (a.eval y)) (d:aBE b (aN slot x) (aN slot y)=some out) (p:Post S w0 N blk g al w fr out o.dst a K):o.wp P a w K Q:=by
 have e:c.args= #[x,y]:=by grind
 unfold aBE at d;split at d
 ·rename_i k n s m j l;rw[j]at i;rw[l]at f;simp only[Sl.Rel,Sv.Rel,Lf.Rel]at i f;injection d with d
  subst d;refine bz (v:= .int k (min n m)) ?_ h p rfl rfl;have:(if m < n then m else n)=min n m:=by split<;>omega
  simp[execOp,q,resolve,r,invoke,builtin,Builtin.min_,Builtin.min2,e,i,f,this]
 ·rename_i k n s m j l;rw[j]at i;rw[l]at f;simp only[Sl.Rel,Sv.Rel,Lf.Rel]at i f;injection d with d
  subst d;refine bz (v:= .int k (max n m)) ?_ h p rfl rfl;have:(if n < m then m else n)=max n m:=by split<;>omega
  simp[execOp,q,resolve,r,invoke,builtin,Builtin.max_,Builtin.max2,e,i,f,this]
 ·cases d
end
end Go.Vc
namespace Go.Vc
open Go.RowKit
section
variable {D:Type}{P:Program}{S:Sh D}{T:TypeId->Option Ty}{M N:Nat->Prop}{w w':World}{w0:Bs}{g:Nat->Option Value}{blk:Nat->Option (Bk D)}{al:Nat->Prop}
 {a:Act} {o:Oper} {K:Act->World->Prop} {Q:Exit->Act->World->Prop} {slot:Nat->Sl D} {out:Out D} {fr:Nat}
theorem amY {p:Nat->Value->Prop}:∀(n:Nat),(∀k,k < n->∃u,p k u)->∃l:List Value,l.length=n/\∀k u,l[k]? =some u->p k u
 | 0,_=>⟨[],rfl,fun k u h=>by simp at h⟩
 | n+1,h=>by
  obtain⟨l,a,e⟩:=amY n fun k b=>h k au
  obtain⟨u,c⟩:=h n au;refine⟨l++[u],by simp[a],fun k x d=> ?_⟩
  grind
theorem MG {x:Lf D}{v:Value}(c:x.kF=true)(h:x.Rel S M w g v):v.oneCell'=true:=by
 cases x with
 | bool b=>simp only[Lf.Rel]at h;subst h;rfl
 | int k n=>simp only[Lf.Rel]at h;subst h;rfl
 | str s=>obtain⟨rfl,_⟩:=h;rfl
 | dat d=>rcases dN.form h with⟨a,e,rfl⟩ | ⟨r,rfl⟩<;>rfl
 | Ze x=>obtain⟨rfl,_⟩:=h;cases x<;>rfl
 | _=>simp[Lf.kF]at c
theorem qH (v:Value)(h:∃a n c,v= .slice a n c):v.ownBlock=fJ v:=by
 obtain⟨a,n,c,rfl⟩:=h;cases a<;>rfl
theorem Ll (z:jE S){d:D}{v:Value}(h:dN S M w d v)(b:0 < S.size d):∃(o:Option Addr) (f:Nat) (a:List Value),v= .slice o (S.len d) f/\a.length=S.len d*S.size d/\
  (∀c,o=some c->∀j u,a[j]? =some u->w.cell? (c.add j)=some u)/\(o=none->S.len d=0)/\(∀u∈a,u.oneCell'=true)/\
  ∀i j,i < S.len d->j < S.size d->∃u,a[i*S.size d+j]? =some u/\(S.cell d i j).Rel S M w g u:=by
 obtain⟨o,f,rfl,y⟩:=h.slice b;rcases Qd5 (S.len d)with t | t
 ·simp_all
 ·obtain⟨c,rfl⟩:=h.Cm t b;obtain⟨l,A,x⟩:=amY (p:=fun k u=>w.cell? (c.add k)=some u/\(S.cell d (k / S.size d) (k % S.size d)).Rel S M w g u/\k / S.size d < S.len d) (S.len d*S.size d) fun k r=>by
   have m:k / S.size d < S.len d:=by rw[Qdu b];exact r
   obtain⟨u,n,s⟩:=h.cell (g:=g) m (Qcw k b);have:k / S.size d*S.size d+k % S.size d=k:=by rw[Qcl];exact Nat.div_add_mod k (S.size d)
   grind
  refine⟨some c,f,l,rfl,A,fun B e j u q=>by grind,(fun e=>by cases e),fun u n=> ?_,fun i j m q=> ?_⟩
  ·obtain⟨k,r⟩:=Qdx n;obtain⟨_,s,m⟩:=x k u r;exact MG (z.data _ _ _ m (Qcw k b)) s
  ·have C:=tu m q;obtain⟨u,n⟩:∃u,l[i*S.size d+j]? =some u:=⟨_,Qay au⟩;obtain⟨_,s,_⟩:=x _ u n;have E:(i*S.size d+j) / S.size d=i:=by rw[Qcl,Nat.mul_add_div b,Nat.div_eq_of_lt q,UX]
   have F:(i*S.size d+j) % S.size d=j:=by rw[Qcl,Qd1,Qcm q]
   grind
theorem ayR (Q:jE S)(h:Hp S w0 N blk g al w){l:Nat}{e:TypeId}{d:D}{v:Value}(G:blk l=some (.row e d))(H:g l=some v):∃(r:Option Addr) (n:Nat) (c:List Value),v= .slice r (S.len d) n/\c.length=S.len d*S.size d/\
  (∀q,r=some q->∀j u,c[j]? =some u->w.cell? (q.add j)=some u)/\(r=none->S.len d=0)/\(∀u∈c,u.oneCell'=true)/\
  ∀i j,i < S.len d->j < S.size d->∃u,c[i*S.size d+j]? =some u/\(S.cell d i j).Rel S (bi N blk g) w g u:=by
 obtain⟨P,f,L,t,a,o⟩:=h.dW l _ G;rw[H]at f;injection f with f
 subst f;have s:∀u∈t,u.oneCell'=true:=by
  intro u F;obtain⟨k,x⟩:=Qdx F;have p:k < t.length:=(Qba.1 x).1;rw[a.1]at p;have z:0 < S.size d:=by
   grind
  have C:k / S.size d < S.len d:=by rw[Qdu z];exact p
  obtain⟨M,m,y,I⟩:=o _ _ C (Qcw k z);have:k / S.size d*S.size d+k % S.size d=k:=by rw[Qcl];exact Nat.div_add_mod k (S.size d)
  rw[this,x]at m;injection m with m
  subst m;exact MG y I
 rcases a.2 with⟨K,O⟩ | ⟨b,n,J,A,E⟩
 ·simp_all
 ·refine⟨_,n,t,A,a.1,fun q e j u B=> ?_,(fun e=>by cases e),s,fun i j C B=> ?_⟩
  ·injection e with e
   subst e;subst A;exact a.cells (g:=b) rfl j u B
  grind
theorem Jk (m:jE S)(h:Hp S w0 N blk g al w){y:Sl D}{v:Value}{d:D}(f:y.Rel S (bi N blk g) w g v)(a:Nr blk y=some d)(o:0 < S.size d):∃(k:Option Addr) (p:Nat) (b:List Value),v= .slice k (S.len d) p/\b.length=S.len d*S.size d/\
  (∀n,k=some n->∀j u,b[j]? =some u->w.cell? (n.add j)=some u)/\(k=none->S.len d=0)/\(∀u∈b,u.oneCell'=true)/\
  ∀i j,i < S.len d->j < S.size d->∃u,b[i*S.size d+j]? =some u/\(S.cell d i j).Rel S (bi N blk g) w g u:=by
 unfold Nr at a;split at a
 ·injection a with a
  subst a;exact Ll m f o
 ·split at a
  ·rename_i e r l;injection a with a
   subst a;exact ayR m h l f
  ·rename_i r l;injection a with a
   subst a;obtain⟨s,c,q⟩:=h.dW _ _ l;have f:g _=some v:=f;rw[f]at c;injection c with c
   subst c;exact Ll m q o
  ·cases a
 ·cases a
theorem EW (t F e:TypeId)(i:TypeInfo)(z:Value)(a bytes:Nat)(s:P.underlying t=some (.slice e))(y:P.info? e=some i)(H:i.zero=some z)
  (r:i.size=a) (B:i.bytes=bytes) (A:z.cells.size=a) (G:0 < a)
  (v:Value) (n:Nat) (x:List Value) (k:w.ownsRow 0 e a v n x)
  (p:Option Addr) (m c:Nat) (d:List Value) (E:d.length=m*a) (l:∀f,p=some f->∀j u,d[j]? =some u->w.cell? (f.add j)=some u) (o:p=none->m=0) (I:∀u∈d,u.oneCell'=true)
  (D:n+m<=maxLen) (h:(n+m)*bytes<=140737488355328):
  ∃g q,(Builtin.append_ #[t,t] F #[v, .slice p m c]).run P w= .ok g q/\q.ownsRow 0 e a g (n+m) (x++d)/\w.grownBy q v.ownBlock/\(g.ownBlock=v.ownBlock\/g.ownBlock=some w.heap.size):=by
 cases p with
 | some f=>
  obtain⟨g,q,Q,O,L,_,N⟩:=run_append_own_at (P:=P) w 0 t F e i z a bytes s y H r B A G v n x k f m c d E (l f rfl) I D h (ve _)
  grind
 | none=>
  obtain rfl:=o rfl;obtain rfl:d=[]:=Qc1 (by simpa using E);refine⟨v,w,?_,by grind,⟨rfl,rfl,rfl,nO _,fun _ _ _=>rfl⟩, .inl rfl⟩;rcases k.2 with⟨rfl,rfl⟩ | ⟨b,J,K,rfl,_,M,C,_⟩
  ·simp[Builtin.append_,run_underlying s,sizeOf,typeInfo,y,Builtin.lenOf,Builtin.firstCells]
  ·simp[Builtin.append_,run_underlying s,sizeOf,typeInfo,y,Builtin.lenOf,Builtin.firstCells,C,storeCells]
theorem sJ {t:TypeId}{a:Ty}(h:gW P t a):∃i z,P.info? t=some i/\i.zero=some z/\i.size=a.size/\i.bytes=a.bytes/\z.cells.toList=a.zero:=by
 obtain⟨i,d,z,c,e,f,b,rfl⟩:=nU h
 grind
theorem Yz {b:Nat->Prop}{a:Nat}:∀n,(b n\/n=a)->b n\/(a<=n/\n < a+64):=fun n c=>c.elim .inl fun e=> .inr ⟨Qdf e.symm,by omega⟩
theorem ab7 {c:Call}{x y:Operand}(I:jE S)(ho:o.op= .call c)(hc:c.callee= .builtin .append)(hx':c.args.toList=[x,y])(hTy:∀t ty,T t=some ty->gW P t ty)(h:Hp S w0 N blk g al w)(hfr:∀n,fr<=n->n < fr+64->¬al n)
  (E:(aN slot x).Rel S (bi N blk g) w g (a.eval x)) (hy:(aN slot y).Rel S (bi N blk g) w g (a.eval y)) (f:GX T S blk fr c.argTypes (aN slot x) (aN slot y)=some out) (hp:nJ out.pre)
  (hK:Post S w0 N blk g al w fr out o.dst a K):o.wp P a w K Q:=by
 have Z:c.args= #[x,y]:=by grind
 have U:∀v',More g (upd g fr (some v')):=fun v' l v hl=>by
  rw[df _ _ _ _ qbl];exact hl
 unfold GX at f;split at f
 ·rename_i t t' htt;split at f
  ·rename_i Y7;have Y7:=Qa Y7;subst Y7;have hat:c.argTypes= #[t,t]:=by grind
   split at f
   ·cases f
   ·rename_i ty hty;split at f
    ·cases f
    ·rename_i e hel;split at f
     ·cases f
     ·rename_i A hte;split at f
      ·cases f
      ·rename_i d2 hd2;have hsl:=lY (hTy _ _ hty) hel;obtain⟨i,z,hi,hz,q1,q2,q3⟩:=sJ (hTy _ _ hte);split at f
       ·rename_i L;simp only[kW]at L;have e1:=Qa L.1.1;have e2:0 < A.size:=by simp_all
        have e3:=Qa L.2;have hzs:z.cells.size=A.size:=by grind
        obtain⟨av,cap,B,hv2,hl2,hc2,hn2,h12,D⟩:=Jk I h hy hd2 au;have run:∀(r:Value) (n:Nat) (C:List Value),a.eval x=r->w.ownsRow 0 e A.size r n C->bZ (n+S.len d2) A.bytes->
          ∃v' w',(execOp a.eval o).run P w= .ok (.value v') w'/\w'.ownsRow 0 e A.size v' (n+S.len d2) (C++B)/\w.grownBy w' r.ownBlock/\(v'.ownBlock=r.ownBlock\/v'.ownBlock=some w.heap.size):=by
         intro r n C s q G;obtain⟨v',w',O,W,p,m⟩:=EW (P:=P) (w:=w) t o.type e i z A.size A.bytes hsl hi hz q1 q2 hzs e2 r n C q av (S.len d2) cap B rf hc2 hn2 h12 (by have:=G.1;simp only[maxLen];omega) G.2;refine⟨v',w',?_,W,p,m⟩;simp only[execOp,ho,resolve,hc,invoke,builtin,Z,hat,Sem.run_bind,Sem.run_pure,Result.andThen_ok,Qb8,Kq,Qcj,s,hv2,O]
        split at f
        ·rename_i V;injection f with f
         subst f;rw[V]at E;obtain⟨v',w',O,W,p,m⟩:=run (.slice none 0 0) 0 [] E (World.ownsRow_nil w 0 e A.size) (by rw[Dw];exact hp);have hB:Below w.heap.size w w':=⟨p.os,p.tape,p.output,p.size,fun k J=>p.block k J (by simp[Value.ownBlock])⟩;have Cj:∃a n c,v'= .slice a n c:=by rcases W.2 with⟨rfl,_⟩ | ⟨b,cp,cur,rfl,_⟩<;>exact⟨_,_,_,rfl⟩
         have Y:∀b,fJ v'=some b->w.heap.size<=b:=by
          intro b hb;rw[qH v' Cj]at m;rcases m with m | m
          ·rw[hb]at m;simp[Value.ownBlock]at m
          grind
         obtain⟨g1,g2,g3⟩:=h.add (l:=fr) (bk:= .row e d2) (v:=v') hB (hfr fr (nO _) au) Y (fun M' J _=>by
          refine⟨⟨fun b hb=> .inl (yI h.below.size (Y b hb)),⟨by have:bZ (S.len d2) A.bytes:=hp;have:=this.1;omega,I.asb au⟩⟩,B,?_,fun F j H hj=> ?_⟩
          ·grind
          ·obtain⟨u,hu,R⟩:=D F j H hj;exact⟨u,hu,I.data _ _ _ H hj,R.keep J (U _)⟩)
         exact l9 O (hK _ _ _ g3 g2 (g1.weaken Yz) (upd_same _ _ _))
        ·rename_i l V;rw[V]at E;have E:g l=some (a.eval x):=E;split at f
         ·rename_i e' d1 hb;split at f
          ·rename_i M;have M:=Qa M;subst M;split at f
           ·rename_i d IB;injection f with f
            subst f;obtain⟨c1,c2,c3,c4,c5⟩:=I.cat _ _ _ IB;obtain⟨r,s,hm,C,q,aa⟩:=h.dW l _ hb;rw[E]at s;injection s with s
            have es:A.size=S.size d1:=by omega
            rw[<-es]at q;obtain⟨v',w',O,W,p,m⟩:=run r (S.len d1) C s q hp;have X:∃a n c,r= .slice a n c:=by rcases q.2 with⟨rfl,_⟩ | ⟨b,cp,cur,rfl,_⟩<;>exact⟨_,_,_,rfl⟩
            have Cj:∃a n c,v'= .slice a n c:=by rcases W.2 with⟨rfl,_⟩ | ⟨b,cp,cur,rfl,_⟩<;>exact⟨_,_,_,rfl⟩
            rw[qH v' Cj,qH r X]at m;rw[qH r X]at p;obtain⟨g1,g2,g3⟩:=h.move (l:=l) (fr:=fr) (bk':= .row e d) (v:=r) (v':=v') qck (s▸E) (hfr fr (nO _) au) p.os p.tape p.output p.size (fun n hn hne=>p.block n hn fun e=>hne e.symm)
             (fun b hb'=>by
              grind)
             (fun M' J _=>by
              refine⟨⟨fun b hb'=> ?_,⟨by have:bZ (S.len d1+S.len d2) A.bytes:=hp;have:=this.1;omega,I.Y_ _ _ _ ‹_›⟩⟩,C++B,?_,fun F j H hj=> ?_⟩
              ·rcases m with m | m
               ·grind
               ·rw[hb']at m;injection m with m;exact .inl (m▸h.below.size)
              ·grind
              ·rw[c3]at H;have hxl:C.length=S.len d1*S.size d:=by rw[q.1];congr 1;omega
               by_cases hlt:F < S.len d1
               ·obtain⟨u,hu,hda,R⟩:=aa F j hlt au;rw[c4 F j hlt];refine⟨u,?_,hda,R.keep J (U _)⟩
                grind
               ·obtain⟨k,rfl⟩:∃k,F=S.len d1+k:=⟨F - S.len d1,by omega⟩;obtain⟨u,hu,R⟩:=D k j au au;rw[c5 k j au];refine⟨u,?_,I.data _ _ _ au au,R.keep J (U _)⟩
                grind)
            exact l9 O (hK _ _ _ g3 g2 (g1.weaken Yz) (upd_same _ _ _))
           ·cases f
          ·cases f
         ·cases f
        ·cases f
       ·cases f
  ·cases f
 ·cases f
theorem agr {t:TypeId}{x e:Operand}(D:o.op= .index t x e)(r:∀t f,T t=some f->gW P t f)(h:Hp S w0 N blk g al w)(c:(aN slot x).Rel S (bi N blk g) w g (a.eval x))
  (l:(aN slot e).Rel S (bi N blk g) w g (a.eval e)) (b:alJ T t (aN slot x) (aN slot e)=some out) (B:nJ out.pre) (C:Post S w0 N blk g al w fr out o.dst a K):o.wp P a w K Q:=by
 unfold alJ at b;split at b
 ·cases b
 ·rename_i f A;split at b
  ·rename_i s k n q m;rw[q]at c;rw[m]at l;simp only[Sl.Rel,Sv.Rel,Lf.Rel]at c l;obtain⟨c,F⟩:=c;split at b
   ·rename_i i;obtain⟨d,u,p⟩:=oJ (r _ _ A);have i:f.kind=3:=by simpa using i
    rw[i]at p;have u:P.underlying t=some .string:=by cases d<;>simp_all [kindOf]
    injection b with b
    subst b;obtain⟨E,G⟩:=B;have y:n.toNat < s.length:=by omega
    refine bz (v:= .int .u8 ((s.getD n.toNat 0).toNat:Nat)) ?_ h C rfl rfl;have j:(ByteArray.mk s.toArray)[n.toNat]? =some (s.getD n.toNat 0):=by
     have z:n.toNat < (ByteArray.mk s.toArray).size:=by show n.toNat < s.toArray.size;simpa using y
     rw[getElem?_pos (ByteArray.mk s.toArray) n.toNat z];congr 1;show s.toArray[n.toNat]=_
     grind
    simp[execOp,D,Instr.index,l,asIntOf,run_underlying u,c,E,j]
   ·cases b
  ·cases b
theorem aax {k a:IntKind}(h:apO (uH k)=some a):k=a:=by cases k<;>simp[uH,apO]at h<;>exact h
theorem aji {t c:TypeId}{x:Operand}(y:o.op= .convert t c x)(e:∀t j,T t=some j->gW P t j)(h:Hp S w0 N blk g al w)(l:(aN slot x).Rel S (bi N blk g) w g (a.eval x))
  (b:avo T t c (aN slot x)=some out) (A:nJ out.pre) (u:Post S w0 N blk g al w fr out o.dst a K):o.wp P a w K Q:=by
 unfold avo at b;split at b
 ·rename_i tys j z n s r p;rw[p]at l;simp only[Sl.Rel,Sv.Rel,Lf.Rel]at l;split at b
  ·rename_i k f;injection b with b
   subst b;obtain⟨d,i,m⟩:=oJ (e _ _ r);obtain⟨d0,q,_⟩:=oJ (e _ _ s);have i:P.underlying c=some (.int k):=by
    rw[<-m]at f;cases d<;>simp[kindOf,apO]at f
    rw[i,aax f]
   refine bz (v:= .int k (dA k n)) ?_ h u rfl rfl;simp[execOp,y,convert,run_underlying q,run_underlying i,l,Conv.intToInt,dA]
  ·cases b
 ·cases b
theorem am6 (d:∀t,(slot t).Rel S (bi N blk g) w g (a.tmps.getD t undef)):∀(e:List Operand) (c:List Nat),Fb slot e=some c->c.map g=(e.map a.eval).map some
 | [],c,h=>by simp[Fb]at h;subst h;rfl
 | x::r,c,h=>by
  unfold Fb at h;split at h
  ·rename_i l f i m;injection h with h
   subst h;have:=qh d x;rw[i]at this;obtain⟨b,j,k⟩:=this;simp only[Kq,am6 d r f m,k,j]
  ·cases h
theorem ajg {t:TypeId}{x y:Operand}(H:jE S)(ho:o.op= .makeSlice t x y)(A:∀t J,T t=some J->gW P t J)(h:Hp S w0 N blk g al w)(W:∀n,fr<=n->n < fr+64->¬al n)(M:(aN slot x).Rel S (bi N blk g) w g (a.eval x))
  (L:(aN slot y).Rel S (bi N blk g) w g (a.eval y)) (c:ay3 T S fr t (aN slot x) (aN slot y)=some out) (hp:nJ out.pre) (hK:Post S w0 N blk g al w fr out o.dst a K):o.wp P a w K Q:=by
 unfold ay3 at c;split at c
 ·cases c
 ·rename_i J ab;split at c
  ·cases c
  ·rename_i e aa;split at c
   ·cases c
   ·rename_i r ac;have Z:=lY (A _ _ ab) aa;obtain⟨i,z,hi,hz,I,q2,q3⟩:=sJ (A _ _ ac);split at c
    ·rename_i k n k' m U Ew;rw[U]at M;rw[Ew]at L;simp only[Sl.Rel,Sv.Rel,Lf.Rel]at M L;split at c
     ·rename_i hc;simp only[kW]at hc;have e2:0 < r.size:=by simp_all
      have e3:=Qa hc.2;have R:z.cells.size=r.size:=by grind
      split at c
      ·rename_i d X;injection c with c
       subst c;obtain⟨rfl,p1,p2,p3⟩:=hp;obtain⟨q,z2,z3⟩:=H.zero _ _ _ _ X;have f:S.size d=r.size:=by grind
       have G:=run_make (P:=P) w t e i z Z hi hz k k' n n p1 (MS _) rf au;have s:(execOp a.eval o).run P w= .ok (.value (.slice (some ⟨w.heap.size,0,none⟩) n.toNat n.toNat)) (w.alloc (.cells (madeCells z.cells (n.toNat*i.size)) e)):=by
        simp only[execOp,ho,M,L,Sem.run_bind,G,Result.andThen_ok,Sem.run_pure]
       have hB:Below w.heap.size w (w.alloc (.cells (madeCells z.cells (n.toNat*i.size)) e)):=(Below.refl w.heap.size w).alloc (nO _) _;obtain⟨g1,g2,g3⟩:=h.add (l:=fr) (bk:= .row e d) (v:= .slice (some ⟨w.heap.size,0,none⟩) n.toNat n.toNat) hB (W fr (nO _) au) (fun b E=>by simp[fJ]at E;omega)
        (fun M' hk _=>by
         refine⟨⟨fun b E=> .inl ?_,by rw[q];omega,H.afi _ _ _ _ X⟩,(madeCells z.cells (n.toNat*i.size)).toList,⟨?_, .inr ⟨w.heap.size,n.toNat,_,by rw[q],ve _,heap_alloc_new w _,by omega,by simp only[maxLen];omega,?_,?_⟩⟩,fun C j p u=> ?_⟩
         ·simp only[fJ,P7]at E;have:=h.below.size;omega
         ·rw[Qbf,size_madeCells,q,f,I]
         ·rw[size_madeCells,f,I]
         ·rw[Qck];rw[Qbf,size_madeCells,q,f,I];omega
         ·rw[q]at p;obtain⟨x0,B,O⟩:=z3 C j p u;have hlt:=tu p u;have V:j < z.cells.size:=by omega
          have F:(C*S.size d+j) % z.cells.size=j:=by rw[R,<-f,Qcl,Qd1,Qcm u]
          refine⟨z.cells[j],?_,H.data _ _ _ au u,O.rel ?_⟩
          ·have D:C*S.size d+j < n.toNat*i.size:=by grind
           simp[madeCells,D,F,V]
          ·have Y:r.zero[j]? =some z.cells[j]:=by grind
           simp only[Qbq,Y,YJ,P7]at B;rw[<-B];exact(BK _).norm)
       exact l9 s (hK _ _ _ g3 g2 (g1.weaken Yz) (upd_same _ _ _))
      ·cases c
     ·cases c
    ·cases c
end
end Go.Vc
