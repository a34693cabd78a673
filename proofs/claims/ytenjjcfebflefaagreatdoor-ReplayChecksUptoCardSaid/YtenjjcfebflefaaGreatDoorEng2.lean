/- Own engine: Vd4, Vd5, Vd6, Vd7, Vdf. -/
import Derived.Test.YtenjjcfebflefaaGreatDoorEng1
import Derived.WalkSpells
import Derived.Maps.AppendAt
import Derived.Laws.MakeOwn
set_option linter.unusedVariables false
set_option linter.unusedSimpArgs false
namespace Go.Vc
open Go.RowKit
def kY {a:Type}:(Nat->a)->List (Nat×a)->(Nat->a)
 | f,[]=>f
 | f,(k,v)::r=>kY (upd f k v) r
def aFv {D:Type}:Dl D->Option Pv
 | .bool b=>some (.bool b)
 | .int k n=>some (.int k n)
 | .str s=>some (.str s)
 | _=>none
def Rq {D:Type}:List (Dl D)->Option (List Pv)
 | []=>some []
 | x::a=>(match aFv x,Rq a with
  | some p,some b=>some (p::b)
  | _,_=>none)
def Lf.Le {D:Type}(S:Sh D)(x y:Lf D):Prop:=x=y\/(x= .val (.slice none 0 0)/\∃d,y= .dat d/\S.len d=0/\S.mp d=none)\/(∃b,x= .val (.bool b)/\y= .bool b)\/(∃t a e c,x= .xt (.ifd t a e)/\y= .Tz (some ⟨t,a,c⟩)/\Rq e=some c)\/∃d,x= .xt (.clip d)/\y= .dat d
structure iZ {D:Type}(S:Sh D):Prop where
 make:∀e n cs d,S.make e n cs=some d->S.len d=n/\cs.length=n*S.size d/\
  ∀i j,i < n->j < S.size d->∃x,cs[i*S.size d+j]? =some x/\x.Le S (S.cell d i j)
 data:∀d i j,i < S.len d->j < S.size d->(S.cell d i j).jY=true
 zero:∀e n zs d,S.zero e n zs=some d->S.len d=n/\zs.length=S.size d/\∀i j,i < n->j < S.size d->∃x,zs[j]? =some x/\x.Le S (S.cell d i j)
 set:∀d i j xs d',S.set d i j xs=some d'->i < S.len d->S.size d'=S.size d/\S.len d'=S.len d/\
  ∀i' j',i' < S.len d->j' < S.size d->(i'=i/\j<=j'/\j' < j+xs.length->∃x,xs[j' - j]? =some x/\x.Le S (S.cell d' i' j'))/\(¬(i'=i/\j<=j'/\j' < j+xs.length)->S.cell d' i' j'=S.cell d i' j')
 cat:∀d1 d2 d,S.cat d1 d2=some d->S.size d1=S.size d/\S.size d2=S.size d/\S.len d=S.len d1+S.len d2/\
  (∀i j,i < S.len d1->S.cell d i j=S.cell d1 i j)/\∀i j,i < S.len d2->S.cell d (S.len d1+i) j=S.cell d2 i j
 sub:∀d i j d',S.sub d i j=some d'->i<=j->j<=S.len d->S.size d'=S.size d/\S.len d'=j - i/\∀k c,k < j - i->S.cell d' k c=S.cell d (i+k) c
 text:∀e s d,S.text e s=some d->S.size d=1/\S.len d=s.length/\∀i,i < s.length->S.cell d i 0= .int .u8 (s.getD i 0).toNat
 ZO:∀e n cs d,S.make e n cs=some d->S.mp d=none
 amO:∀e n zs d,S.zero e n zs=some d->S.mp d=none
 aDp:∀d i j xs d',S.set d i j xs=some d'->S.mp d=none->S.mp d'=none
 ZN:∀d1 d2 d,S.cat d1 d2=some d->S.mp d=none
 Ht:∀d i j d',S.sub d i j=some d'->S.mp d=none/\S.mp d'=none
 aGs:∀e s d,S.text e s=some d->S.mp d=none
 zJ:∀d m,S.mp d=some m->S.len d=0/\S.size d=0/\aB1 S m
 ayW:∀t d,S.asP t=some d->∃m,S.mp d=some m/\m.kvs=[]
 aGr:∀i d,S.Po i=some d->S.mp d=none
theorem iZ.asQ {D:Type}{S:Sh D}(h:iZ S){d:D}(b:0 < S.size d):S.mp d=none:=by
 cases a:S.mp d with
 | none=>rfl
 | some m=>have:=(h.zJ d m a).2.1;omega
def ik {D:Type}(S:Sh D)(M:Nat->Prop)(w:World)(g:Nat->Option Value):List (Sl D)->List Value->Prop
 | [],[]=>True
 | x::b,v::a=>x.Rel S M w g v/\ik S M w g b a
 | _,_=>False
def noG:Nat->Option Value:=fun _=>none
def lQ {D:Type}(a:List (Bk D)):Nat->Option (Bk D):=fun i=>a[i]?
structure fK {D:Type}(P:Program)(S:Sh D)(f:FuncId)(ct:Ct D):Prop where
 enters:∀(args:Array Value) (w:World),(callFunc f args).run P w= .ok (.enter f args) w
 calls:∀(X N:Nat->Prop) (g:Nat->Option Value) (w:World) (args:List Value) (oU:List (Sl D)) (dD:List (Bk D)) (p:Option DP) (r:Sl D) (post:List (Nat×Bk D)) (keep:List Nat),
  Hp S ⟨w,X⟩ N (lQ dD) g (· < dD.length) w->ik S (aY N (lQ dD) g) w g oU args->ct oU dD=some (p,r,post,keep)->nH p->
  Calls P f args.toArray w fun e w'=>∃v g',e= .returned v/\More g g'/\Hp S ⟨w,X⟩ N (xR post keep dD) g' (fun _=>True) w'/\r.Rel S (aY N (xR post keep dD) g') w' g' v
section
variable {D:Type}{P:Program}{S:Sh D}{T:TypeId->Option Ty}{M N:Nat->Prop}{w w':World}{w0:Bs}{g:Nat->Option Value}{blk:Nat->Option (Bk D)}{al:Nat->Prop}
 {a:Act} {o:Oper} {K:Act->World->Prop} {Q:Exit->Act->World->Prop} {slot:Nat->Sl D} {out:Out D} {fr:Nat}
def Post (S:Sh D)(h:Bs)(N:Nat->Prop)(c:Nat->Option (Bk D))(g:Nat->Option Value)(f:Nat->Prop)(w:World)(e:Nat)(b:Out D)(d:Option Tmp)(a:Act)(K:Act->World->Prop):Prop:=
 ∀v w' g',More g g'->Keeps (aY N c g) w (aY N (kY c b.blks) g') w'->Hp S h N (kY c b.blks) g' (fun n=>f n\/(e<=n/\n < e+64)) w'->
  b.val.Rel S (aY N (kY c b.blks) g') w' g' v->K (a.put d v) w'
theorem Hp.weaken {a:Nat->Prop}(h:Hp S w0 N blk g al w)(b:∀n,al n->a n):Hp S w0 N blk g a w:=⟨h.below,h.hN,h.dD,h.sep,fun l v c=>b l (h.al l v c),h.refs,h.gl⟩
theorem lL {v:Value}(b:(execOp a.eval o).run P w= .ok (.value v) w')(c:K (a.put o.dst v) w'):o.wp P a w K Q:=by
 simp only[Oper.wp,b,Oper.upon_value];exact c
theorem Nb (b:(execOp a.eval o).run P w= .ok .skip w')(c:K (a.put o.dst undef) w'):o.wp P a w K Q:=by
 simp only[Oper.wp,b,Oper.upon_skip];exact c
theorem apB {v:Value}(h:Hp S w0 N blk g al w)(c:Post S w0 N blk g al w fr out o.dst a K)(b:out.blks=[])(d:out.val.Rel S (aY N blk g) w g v):K (a.put o.dst v) w:=by
 refine c v w g (More.refl _) ?_ ?_ ?_<;>rw[b]
 ·exact Keeps.refl _ _
 ·exact h.weaken fun _ h=> .inl h
 ·exact d
theorem bg {v:Value}(e:(execOp a.eval o).run P w= .ok (.value v) w)(h:Hp S w0 N blk g al w)(d:Post S w0 N blk g al w fr out o.dst a K)(c:out.blks=[])
  (b:out.val.Rel S (aY N blk g) w g v):o.wp P a w K Q:=lL e (apB h d c b)
theorem Cc (v:Value):(D8 v:Lf D).Rel S M w g v:=by
 cases v with
 | string s=>
  show(if s.data.size.ble 9223372036854775807=true then Lf.str s.data.toList else Lf.val (Value.string s):Lf D).Rel S M w g _
  split
  ·rename_i h;cases s;exact⟨by simp,by simp_all⟩
  ·rfl
 | nilIface=>exact⟨rfl,trivial⟩
 | _=>rfl
theorem IY {x:Sl D}{v:Value}{b:Bool}(h:bOf x=some b)(a:x.Rel S M w g v):v= .bool b:=by
 unfold bOf at h;split at h
 ·injection h with h;subst h;exact a
 ·injection h with h;subst h;exact a
 ·cases h
theorem Lf.Rel.norm {x:Lf D}{v:Value}(h:x.Rel S M w g v):x.norm.Rel S M w g v:=by
 unfold Lf.norm;split
 ·exact h
 ·exact h
theorem bf.norm:∀{b:List (Lf D)} {a:List Value},bf S M w g b a->bf S M w g (b.map Lf.norm) a
 | [],[],_=>trivial
 | _::_,_::_,h=>⟨h.1.norm,bf.norm h.2⟩
theorem Sv.Rel.norm {x:Sv D}{v:Value}(h:x.Rel S M w g v):x.norm.Rel S M w g v:=by
 cases x with
 | lf x=>exact Lf.Rel.norm h
 | agg d=>obtain⟨b,c,a⟩:=h;exact⟨b,c,a.norm⟩
theorem iE.norm:∀{b:List (Sv D)} {a:List Value},iE S M w g b a->iE S M w g (b.map Sv.norm) a
 | [],[],_=>trivial
 | _::_,_::_,h=>⟨h.1.norm,iE.norm h.2⟩
theorem Sl.Rel.norm {x:Sl D}{v:Value}(h:x.Rel S M w g v):x.norm.Rel S M w g v:=by
 cases x with
 | one x=>exact Sv.Rel.norm h
 | wU d=>obtain⟨b,c,a⟩:=h;exact⟨b,c,a.norm⟩
theorem ik.norm:∀{b:List (Sl D)} {a:List Value},ik S M w g b a->ik S M w g (b.map Sl.norm) a
 | [],[],_=>trivial
 | _::_,_::_,h=>⟨h.1.norm,ik.norm h.2⟩
theorem ui:∀(a:List Value),bf S M w g (a.map (D8:Value->Lf D)) a
 | []=>trivial
 | v::a=>⟨Cc v,ui a⟩
theorem apL (v:Value):(aCz v:Sl D).Rel S M w g v:=by
 cases v with
 | agg cs=>exact⟨cs.toList,by simp,ui _⟩
 | string s=>exact Cc (.string s)
 | nilIface=>exact⟨rfl,trivial⟩
 | _=>rfl
theorem pR (b:∀t,(slot t).Rel S M w g (a.tmps.getD t undef))(x:Operand):(aG slot x).Rel S M w g (a.eval x):=by
 cases x with
 | tmp t=>exact b t
 | const v=>exact apL v
 | global n=>trivial
 | func f=>exact⟨[],rfl,rfl⟩
theorem QO (c:∀t,(slot t).Rel S M w g (a.tmps.getD t undef)):∀(b:List Operand),ik S M w g (b.map (aG slot)) (b.map a.eval)
 | []=>trivial
 | x::b=>⟨pR c x,QO c b⟩
theorem nP {t:TypeId}{a:Ty}(h:eP P t a):∃i d z b,P.info? t=some i/\P.underlying t=some d/\i.zero=some z/\
  a=⟨kindOf d,JV P t,i.size,i.bytes,z.cells.toList,Qp P d,akh d,ahP P t d,b,atf d,Bj z,ano d⟩:=by
 unfold eP aqU at h;split at h
 ·rename_i i d c e;split at h
  ·rename_i z f;injection h with h
   refine⟨i,d,z,a.lit,c,e,f,?_⟩;simp_all
  ·cases h
 ·cases h
theorem zB {t:TypeId}{a:Ty}(h:eP P t a)(w:World):(isAgg t).run P w= .ok a.agg w:=by
 obtain⟨i,d,z,lt,c,b,e,rfl⟩:=nP h;simp only[isAgg,Sem.run_bind,run_underlying b,Result.andThen_ok,JV,b];cases d<;>rfl
theorem mg {t:TypeId}{a:Ty}(h:eP P t a)(w:World):(sizeOf t).run P w= .ok a.size w:=by
 obtain⟨i,d,z,lt,b,c,e,rfl⟩:=nP h;simp[sizeOf,typeInfo,b]
theorem EQ {t:TypeId}{a:Ty}(h:eP P t a)(w:World):∃z,(zeroValue t).run P w= .ok z w/\z.cells.toList=a.zero:=by
 obtain⟨i,d,z,lt,b,e,c,rfl⟩:=nP h;exact⟨z,by simp[zeroValue,typeInfo,b,c],rfl⟩
theorem lF {t e:TypeId}{a:Ty}(h:eP P t a)(b:a.elem=some e):P.underlying t=some (.slice e):=by
 obtain⟨i,d,z,lt,c,f,g,rfl⟩:=nP h;cases d<;>simp[akh]at b
 grind
theorem aFo {t e:TypeId}{n:Nat}{a:Ty}(h:eP P t a)(b:a.arr=some (e,n)):P.underlying t=some (.array n e):=by
 obtain⟨i,d,z,lt,c,f,g,rfl⟩:=nP h;cases d<;>simp[atf]at b
 grind
theorem ajC {t:TypeId}{a:Ty}(h:eP P t a)(w:World):∃z,(zeroValue t).run P w= .ok z w/\z.cells.toList=a.zero/\Bj z=a.zag:=by
 obtain⟨i,d,z,lt,b,e,c,rfl⟩:=nP h;exact⟨z,by simp[zeroValue,typeInfo,b,c],rfl,rfl⟩
theorem oz {t:TypeId}{a:Ty}(h:eP P t a):∃d,P.underlying t=some d/\kindOf d=a.kind:=by
 obtain⟨i,d,z,lt,c,b,e,rfl⟩:=nP h
 grind
theorem LV {t:TypeId}{e:Ty}{f b g:Nat}{j:Bool}(h:eP P t e)(k:e.amQ[f]? =some (b,g,j)):
  ∃c a,P.underlying t=some (.struct c)/\c[f]? =some a/\a.offset=b/\cellsIn P a.type=g/\JV P a.type=j:=by
 obtain⟨i,d,z,lt,l,m,n,rfl⟩:=nP h;cases d with
 | struct c=>
  simp only[Qp,Qb4,Qck,Qbw]at k
  grind
 | _=>simp[Qp]at k
theorem rV {t:TypeId}{n:Nat}(h:cellsIn P t=n)(b:n≠0)(w:World):(sizeOf t).run P w= .ok n w:=by
 unfold cellsIn at h;split at h
 ·unfold Program.cellsOf at h;cases a:P.info? t with
  | none=>grind
  | some i=>rw[a]at h;simp at h;simp[sizeOf,typeInfo,a,h]
 omega
theorem ax9 {t:TypeId}{n:Nat}(h:cellsIn P t=n)(c:n≠0)(w:World):(isAgg t).run P w= .ok (JV P t) w:=by
 unfold cellsIn at h;split at h
 ·rename_i b;obtain⟨d,a⟩:=Qb2.1 b;simp only[isAgg,Sem.run_bind,run_underlying a,Result.andThen_ok,JV,a];cases d<;>rfl
 omega
theorem run_loadCells (c:Addr):∀(b:List Value) (i:Nat) (a:Array Value),(∀k u,b[k]? =some u->w.cell? (c.add (i+k))=some u)->
  (loadCellsFrom c i b.length a).run P w= .ok (a++b.toArray) w
 | [],i,a,_=>by rfl
 | v::b,i,a,h=>by
  have d:=h 0 v rfl;simp only[Qb]at d;have f:=run_loadCells c b (i+1) (a.push v) fun k u e=>by
   have:=h (k+1) u (by simpa using e)
   grind
  simp only[zx,loadCellsFrom,Sem.run_bind,load];simp only[Sem.run,d,Result.andThen_ok];simp_all
theorem m_ (b o n:Nat):(⟨b,o,none⟩:Addr).add n=⟨b,o+n,none⟩:=by
 unfold Addr.add
 grind
theorem add_add' (a:Addr)(i j:Nat):(a.add i).add j=a.add (i+j):=by
 unfold Addr.add
 grind
theorem cell_of {b:Nat}{a:List Value}{t:TypeId}(h:w.heap[b]? =some (.cells a.toArray t (0,0)))(i:Nat):w.cell? ⟨b,i,none⟩=a[i]? :=by
 simp[World.cell?,h]
def one':Value->Bool
 | .agg _ | .tuple _=>false
 | _=>true
theorem mX (b t:Nat):∀(d:List Value) (w:World) (a:List Value) (o i:Nat),w.heap[b]? =some (.cells a.toArray t (0,0))->o+i+d.length<=a.length->d.all one'=true->
  ∃c,(storeCells ⟨b,o,none⟩ d i).run P w= .ok () c/\c.heap[b]? =some (.cells (a.take (o+i)++(d++a.drop (o+i+d.length))).toArray t (0,0))/\
   (∀n,n≠b->c.heap[n]? =w.heap[n]?)/\c.heap.size=w.heap.size/\c.os=w.os/\c.tape=w.tape/\c.output=w.output
 | [],w,a,o,i,h,_,_=>⟨w,by rfl,by simpa using h,fun _ _=>rfl,rfl,rfl,rfl,rfl⟩
 | u::d,w,a,o,i,h,r,f=>by
  simp only[Qcj,jA]at f;simp only[zx]at r;have j:o+i < a.length:=by omega
  have v:w.cell? ⟨b,o+i,none⟩=some a[o+i]:=by rw[cell_of h];simp[j]
  have p:w.frozen? ⟨b,o+i,none⟩=false:=by simp[World.frozen?,h]
  have e:(w.setCell ⟨b,o+i,none⟩ u).heap[b]? =some (.cells (a.set (o+i) u).toArray t (0,0)):=by
   simp[World.setCell,Qd5,h]
  obtain⟨c,A,k,y,s,m,x,q⟩:=mX b t d (w.setCell ⟨b,o+i,none⟩ u) (a.set (o+i) u) o (i+1) e xI f.2;refine⟨c,?_,?_,fun n g=>(y n g).trans ?_,s.trans (by simp_all),m,x,q⟩
  ·simp only[storeCells,Sem.run_bind,store,m_];have l:(Sem.store Mode.plain ⟨b,o+i,none⟩ u (Sem.pure ())).run P w= .ok () (w.setCell ⟨b,o+i,none⟩ u):=by
    cases u<;>first | (simp[one']at f;done) | simp[Sem.run,v,p]
   simp_all
  ·rw[k];congr 2;have B:(a.set (o+i) u).take (o+(i+1))=a.take (o+i)++[u]:=by
    rw[show o+(i+1)=(o+i)+1 by omega,List.take_succ_eq_append_getElem (by simpa using j),Qen,List.set_eq_of_length_le xI];simp
   have z:(a.set (o+i) u).drop (o+(i+1)+d.length)=a.drop (o+i+(u::d).length):=by
    rw[List.drop_set_of_lt au];congr 1;simp;omega
   grind
  ·simp only[World.setCell,Qd5]
   grind
end
end Go.Vc
namespace Go.Vc
open Go.RowKit
section
variable {D:Type}{P:Program}{S:Sh D}{T:TypeId->Option Ty}{M N:Nat->Prop}{w w':World}{w0:Bs}{g:Nat->Option Value}{blk:Nat->Option (Bk D)}{al:Nat->Prop}
 {a:Act} {o:Oper} {K:Act->World->Prop} {Q:Exit->Act->World->Prop} {slot:Nat->Sl D} {out:Out D} {fr:Nat}
theorem NI {x:Lf D}{v:Value}(m:∀l u,g l=some u->isRef u=true)(q:x.storable=true)(h:x.Rel S M w g v):one' v=true:=by
 cases x with
 | any=>simp[Lf.storable]at q
 | val u=>simp only[Lf.Rel]at h;subst h;cases v<;>first | rfl | simp[Lf.storable]at q
 | bool b=>simp only[Lf.Rel]at h;subst h;rfl
 | int k n=>simp only[Lf.Rel]at h;subst h;rfl
 | str s=>obtain⟨rfl,_⟩:=h;rfl
 | ptr l o=>obtain⟨b,_,rfl⟩:=h;rfl
 | dat d=>rcases dF.form h with⟨a,c,rfl⟩ | ⟨r,rfl⟩<;>rfl
 | elt d i j=>obtain⟨a,n,c,_,_,rfl⟩:=h;rfl
 | fn f t=>obtain⟨z,rfl,_⟩:=h;rfl
 | own l=>have:=m l v h;cases v<;>first | rfl | simp[isRef]at this
 | opt l i j y=>obtain⟨b,n,c,_,rfl⟩:=h;rfl
 | unk p=>obtain⟨b,rfl,_⟩:=h;rfl
 | part l i j y f=>obtain⟨a,n,c,_,rfl,_⟩:=h;rfl
 | glb i=>simp only[Lf.Rel]at h;subst h;rfl
 | Tz x=>obtain⟨rfl,_⟩:=h;cases x<;>rfl
 | xt e=>cases e<;>(obtain⟨u,rfl,_⟩:=h;rfl)
theorem uf {u:Sv D}{v:Value}(a:∀l u,g l=some u->isRef u=true)(c:u.whole=true)(h:u.Rel S M w g v):bf S M w g u.cells v.cells.toList:=by
 cases u with
 | lf x=>
  have b:=NI a c h;have:v.cells= #[v]:=by cases v<;>first | rfl | simp[one']at b
  rw[this];exact⟨h,trivial⟩
 | agg f=>obtain⟨e,rfl,d⟩:=h;simpa[Sv.cells,Value.cells]using d
theorem LX (a:∀l u,g l=some u->isRef u=true):∀{d:List (Lf D)} {c:List Value},d.all Lf.storable=true->bf S M w g d c->c.all one'=true
 | [],[],_,_=>rfl
 | x::d,v::c,b,h=>by
  simp only[Qcj,jA]at b⊢;exact⟨NI a b.1 h.1,LX a b.2 h.2⟩
theorem Ey {u:Sv D}(h:u.cells.all Lf.storable=true):u.whole=true:=by
 cases u with
 | lf x=>simpa[Sv.cells,Sv.whole]using h
 | agg a=>rfl
theorem bf.append:∀{b c:List (Lf D)} {a d:List Value},bf S M w g b a->bf S M w g c d->bf S M w g (b++c) (a++d)
 | [],_,[],_,_,h=>h
 | _::_,_,_::_,_,h,e=>⟨h.1,bf.append h.2 e⟩
theorem bf.take:∀(n:Nat) {b:List (Lf D)} {a:List Value},bf S M w g b a->bf S M w g (b.take n) (a.take n)
 | 0,_,_,_=>by simp[bf]
 | _+1,[],[],_=>by simp[bf]
 | n+1,_::_,_::_,h=>⟨h.1,bf.take n h.2⟩
theorem bf.drop:∀(n:Nat) {b:List (Lf D)} {a:List Value},bf S M w g b a->bf S M w g (b.drop n) (a.drop n)
 | 0,_,_,h=>by simpa using h
 | _+1,[],[],_=>by simp[bf]
 | n+1,_::_,_::_,h=>by simpa using bf.drop n h.2
theorem bf.putAt {c d:List (Lf D)}{a b:List Value}(h:bf S M w g c a)(e:bf S M w g d b)(o:Nat):bf S M w g (putAt c o d) (a.take o++(b++a.drop (o+b.length))):=by
 unfold Vc.putAt;rw[e.length];exact(h.take o).append (e.append (h.drop _))
theorem Qk (h:Hp S w0 N blk g al w){l:Nat}{cs:List (Lf D)}(c:blk l=some (.cells cs)){b:Nat}(f:g l=some (.pointer (some ⟨b,0,none⟩))):
  ∃a t,w.heap[b]? =some (.cells (List.toArray a) t (0,0))/\bf S (aY N blk g) w g cs a:=by
 obtain⟨v,d,i,a,t,rfl,_,e,j⟩:=h.dD l _ c
 grind
theorem abu {e:TypeId}{cs:List (Lf D)}{vs:Array Value}(h:Hp S w0 N blk g al w)(hfr:∀n,fr<=n->n < fr+64->¬al n)(m:(execOp a.eval o).run P w= .ok (.value (.pointer (some ⟨w.heap.size,0,none⟩))) (w.alloc (.cells vs e)))
  (i:bf S (aY N blk g) w g cs vs.toList) (k:Post S w0 N blk g al w fr ⟨none, .one (.lf (.ptr fr 0)),[(fr,some (.cells cs))]⟩ o.dst a K):o.wp P a w K Q:=by
 obtain⟨p,d,c⟩:=h.add (l:=fr) (bk:= .cells cs) (v:= .pointer (some ⟨w.heap.size,0,none⟩)) ((Below.refl w.heap.size w).alloc (rC _) (.cells vs e)) (hfr fr (rC _) au) (fun b f=>by simp[eH]at f;omega)
  (fun M' j _=>⟨w.heap.size,vs.toList,e,rfl, .inl h.below.size,heap_alloc_new w _,i.keep j (fun l v hl=>by rw[bU _ _ _ _ qbk];exact hl)⟩)
 exact lL m (k _ _ _ c d (p.weaken fun n q=>q.elim .inl fun e=> .inr ⟨Qdo e.symm,by omega⟩) ⟨w.heap.size,upd_same _ _ _,rfl⟩)
theorem aiI {t:TypeId}{b:Ty}(f:o.op= .alloc t)(k:eP P t b)(h:Hp S w0 N blk g al w)(d:∀n,fr<=n->n < fr+64->¬al n)
  (i:Post S w0 N blk g al w fr ⟨none, .one (.lf (.ptr fr 0)),[(fr,some (.cells (b.zero.map D8)))]⟩ o.dst a K):o.wp P a w K Q:=by
 obtain⟨z,j,c⟩:=EQ k w;refine abu (vs:=z.cells) (e:=t) h d ?_ (by rw[c];exact ui _) i;simp[execOp,f,Instr.alloc,j,newVar,newRow,newObj,Sem.run]
theorem apW {t:TypeId}{x:Operand}{u:Sv D}(c:o.op= .box t x)(h:Hp S w0 N blk g al w)(b:∀n,fr<=n->n < fr+64->¬al n)(f:u.Rel S (aY N blk g) w g (a.eval x))(i:u.whole=true)
  (d:Post S w0 N blk g al w fr ⟨none, .one (.lf (.ptr fr 0)),[(fr,some (.cells u.cells))]⟩ o.dst a K):o.wp P a w K Q:=by
 refine abu (vs:=(a.eval x).cells) (e:=t) h b ?_ (uf h.refs i f) d;simp[execOp,c,Instr.box,newVar,newRow,newObj,Sem.run]
theorem AC {d:D}{f:Addr}{n b i:Nat}(h:dF S M w d (.slice (some f) n b))(e:i < S.len d):∀(m j:Nat),j+m<=S.size d->
  ∃a:List Value,a.length=m/\bf S M w g (E8 S d i j m) a/\∀k u,a[k]? =some u->w.cell? (f.add (i*S.size d+(j+k)))=some u
 | 0,j,_=>⟨[],rfl,trivial,fun k u c=>by simp at c⟩
 | m+1,j,r=>by
  obtain⟨u,s,p⟩:=h.cell (g:=g) e (show j < S.size d by omega);obtain⟨a,o,l,q⟩:=AC h e m (j+1) au;refine⟨u::a,by simp[o],⟨p,l⟩,fun k x c=> ?_⟩
  grind
theorem vH {i j n m:Nat}(a:i < n)(b:j < m):i*m+j < n*m:=by
 have:(i+1)*m<=n*m:=Qbu m a
 grind
theorem YO (h:Hp S w0 N blk g al w){l i j b n k:Nat}{e:TypeId}{d:D}(t:blk l=some (.row e d))(s:g l=some (.slice (some ⟨b,0,none⟩) n k))(z:i < S.len d)(q:j < S.size d):
  ∃u,w.cell? ⟨b,i*S.size d+j,none⟩=some u/\(S.cell d i j).Rel S (aY N blk g) w g u:=by
 obtain⟨v,c,_,F,⟨C,f⟩,y⟩:=h.dD l _ t;rw[s]at c;injection c with c
 subst c;obtain⟨u,G,_,B⟩:=y i j z q;refine⟨u,?_,B⟩;rcases f with⟨A,_⟩ | ⟨H,x,m,o,_,r,_,_,_,p⟩
 ·cases A
 ·injection o with a E I
  injection a with a
  injection a with a
  subst a;have:w.cell? ⟨b,i*S.size d+j,none⟩=m[i*S.size d+j]? :=by simp[World.cell?,r]
  grind
theorem zq (h:Hp S w0 N blk g al w){l i b n c:Nat}{e:TypeId}{d:D}(p:blk l=some (.row e d))(o:g l=some (.slice (some ⟨b,0,none⟩) n c))(r:i < S.len d):∀(m j:Nat),j+m<=S.size d->
  ∃a:List Value,a.length=m/\bf S (aY N blk g) w g (E8 S d i j m) a/\∀k u,a[k]? =some u->w.cell? ⟨b,i*S.size d+(j+k),none⟩=some u
 | 0,j,_=>⟨[],rfl,trivial,fun k u q=>by simp at q⟩
 | m+1,j,v=>by
  obtain⟨u,y,t⟩:=YO h p o r (show j < S.size d by omega);obtain⟨a,s,f,z⟩:=zq h p o r m (j+1) au;refine⟨u::a,by simp[s],⟨t,f⟩,fun k x q=> ?_⟩
  grind
theorem akQ {t:TypeId}{x:Operand}{A:Ty}(E:o.op= .load t x)(hT:eP P t A)(ab:T t=some A)(h:Hp S w0 N blk g al w)(F:(aG slot x).Rel S (aY N blk g) w g (a.eval x))
  (c:BX T S blk t (aG slot x)=some out) (Y:nH out.pre) (G:Post S w0 N blk g al w fr out o.dst a K):o.wp P a w K Q:=by
 have p:=zB hT w;have I:=mg hT w;simp only[BX,ab]at c;split at c
 ·
  rename_i l q H;rw[H]at F;obtain⟨b,L,C⟩:=F;split at c
  ·rename_i cs J;obtain⟨s,t',Z,r⟩:=Qk h J L;split at c
   ·rename_i m;split at c
    ·rename_i z;injection c with c
     subst c;have hle':q+A.size<=s.length:=by rw[<-r.length];simp_all
     have f:=run_loadCells (P:=P) (w:=w) ⟨b,q,none⟩ ((s.drop q).take A.size) 0 #[] (fun k u M=>by
      rw[m_,cell_of Z]
      grind)
     rw[show((s.drop q).take A.size).length=A.size by simp;omega]at f;refine bg (v:= .agg ((s.drop q).take A.size).toArray) ?_ h G rfl ⟨_,rfl,(r.drop q).take _⟩;simp[execOp,E,Instr.loadAt,Instr.sureAddr,C,loadVar,p,m,I,loadCells,f]
    ·cases c
   ·rename_i m;split at c
    ·rename_i y hy;injection c with c
     subst c;obtain⟨v,aa,O⟩:=r.get q hy;refine bg (v:=v) ?_ h G rfl O;simp[execOp,E,Instr.loadAt,Instr.sureAddr,C,loadVar,p,m,load,Sem.run,cell_of Z,aa]
    ·cases c
  ·cases c
 ·
  rename_i d i j H;rw[H]at F;obtain⟨ad,n,X,hd,hi,C⟩:=F;split at c
  ·rename_i m;split at c
   ·rename_i z;injection c with c
    subst c;obtain⟨s,U,r,V⟩:=AC (g:=g) hd hi A.size j (Qa0 z);have f:=run_loadCells (P:=P) (w:=w) (ad.add (i*S.size d+j)) s 0 #[] (fun k u M=>by
     rw[add_add',show i*S.size d+j+(0+k)=i*S.size d+(j+k) by omega];exact V k u M)
    rw[U]at f;refine bg (v:= .agg s.toArray) ?_ h G rfl ⟨_,rfl,r⟩;simp[execOp,E,Instr.loadAt,Instr.sureAddr,C,loadVar,p,m,I,loadCells,f]
   ·cases c
  ·rename_i m;split at c
   ·rename_i B;injection c with c
    subst c;obtain⟨u,R,r⟩:=hd.cell (g:=g) hi (by simpa[Qcd]using B);refine bg (v:=u) ?_ h G rfl r;simp[execOp,E,Instr.loadAt,Instr.sureAddr,C,loadVar,p,m,load,Sem.run,R]
   ·cases c
 ·
  rename_i l i j W H;rw[H]at F;obtain⟨b,n,X,L,C⟩:=F;split at c
  ·rename_i e d J;split at c
   ·rename_i m;split at c
    ·rename_i z;injection c with c
     subst c;simp only[jA]at z;have D:W=S.size d:=Qa z.2;subst D;obtain⟨s,U,r,V⟩:=zq h J L Y A.size j (Qa0 z.1);have f:=run_loadCells (P:=P) (w:=w) ⟨b,i*S.size d+j,none⟩ s 0 #[] (fun k u M=>by
      rw[m_,show i*S.size d+j+(0+k)=i*S.size d+(j+k) by omega];exact V k u M)
     rw[U]at f;refine bg (v:= .agg s.toArray) ?_ h G rfl ⟨_,rfl,r⟩;simp[execOp,E,Instr.loadAt,Instr.sureAddr,C,loadVar,p,m,I,loadCells,f]
    ·cases c
   ·rename_i m;split at c
    ·rename_i B;injection c with c
     subst c;simp only[jA]at B;have D:W=S.size d:=Qa B.2;subst D;obtain⟨u,R,r⟩:=YO h J L Y (by simpa[Qcd]using B.1);refine bg (v:=u) ?_ h G rfl r;simp[execOp,E,Instr.loadAt,Instr.sureAddr,C,loadVar,p,m,load,Sem.run,R]
    ·cases c
  ·cases c
 ·cases c
theorem aqF {t:TypeId}{x:Sl D}{v:Value}{s:Ty}(Z:eP P t s)(W:T t=some s)(h:Hp S w0 N blk g al w)(I:x.Rel S (aY N blk g) w g v)
  (a:BX T S blk t x=some out) (R:nH out.pre):∃F u,v= .pointer (some F)/\(loadVar t F).run P w= .ok u w/\out.val.Rel S (aY N blk g) w g u:=by
 have m:=zB Z w;have C:=mg Z w;simp only[BX,W]at a;split at a
 ·
  rename_i l o;obtain⟨b,G,A⟩:=I;split at a
  ·rename_i cs E;obtain⟨q,t',U,p⟩:=Qk h E G;split at a
   ·rename_i f;split at a
    ·rename_i r;injection a with a
     subst a;have hle':o+s.size<=q.length:=by rw[<-p.length];simp_all
     have c:=run_loadCells (P:=P) (w:=w) ⟨b,o,none⟩ ((q.drop o).take s.size) 0 #[] (fun k u H=>by
      rw[m_,cell_of U]
      grind)
     rw[show((q.drop o).take s.size).length=s.size by simp;omega]at c;exact⟨_, .agg ((q.drop o).take s.size).toArray,A,by simp[loadVar,m,f,C,loadCells,c],⟨_,rfl,(p.drop o).take _⟩⟩
    ·cases a
   ·rename_i f;split at a
    ·rename_i y hy;injection a with a
     subst a;obtain⟨v,V,J⟩:=p.get o hy;exact⟨_,v,A,by simp[loadVar,m,f,load,Sem.run,cell_of U,V],J⟩
    ·cases a
  ·cases a
 ·
  rename_i d i j;obtain⟨F,n,Q,X,Y,A⟩:=I;split at a
  ·rename_i f;split at a
   ·rename_i r;injection a with a
    subst a;obtain⟨q,L,p,M⟩:=AC (g:=g) X Y s.size j (Qa0 r);have c:=run_loadCells (P:=P) (w:=w) (F.add (i*S.size d+j)) q 0 #[] (fun k u H=>by
     rw[add_add',show i*S.size d+j+(0+k)=i*S.size d+(j+k) by omega];exact M k u H)
    rw[L]at c;exact⟨_, .agg q.toArray,A,by simp[loadVar,m,f,C,loadCells,c],⟨_,rfl,p⟩⟩
   ·cases a
  ·rename_i f;split at a
   ·rename_i z;injection a with a
    subst a;obtain⟨u,K,p⟩:=X.cell (g:=g) Y (by simpa[Qcd]using z);exact⟨_,u,A,by simp[loadVar,m,f,load,Sem.run,K],p⟩
   ·cases a
 ·
  rename_i l i j O;obtain⟨b,n,Q,G,A⟩:=I;split at a
  ·rename_i e d E;split at a
   ·rename_i f;split at a
    ·rename_i r;injection a with a
     subst a;simp only[jA]at r;have B:O=S.size d:=Qa r.2;subst B;obtain⟨q,L,p,M⟩:=zq h E G R s.size j (Qa0 r.1);have c:=run_loadCells (P:=P) (w:=w) ⟨b,i*S.size d+j,none⟩ q 0 #[] (fun k u H=>by
      rw[m_,show i*S.size d+j+(0+k)=i*S.size d+(j+k) by omega];exact M k u H)
     rw[L]at c;exact⟨_, .agg q.toArray,A,by simp[loadVar,m,f,C,loadCells,c],⟨_,rfl,p⟩⟩
    ·cases a
   ·rename_i f;split at a
    ·rename_i z;injection a with a
     subst a;simp only[jA]at z;have B:O=S.size d:=Qa z.2;subst B;obtain⟨u,K,p⟩:=YO h E G R (by simpa[Qcd]using z.1);exact⟨_,u,A,by simp[loadVar,m,f,load,Sem.run,K],p⟩
    ·cases a
  ·cases a
 ·cases a
end
end Go.Vc
namespace Go.Vc
open Go.RowKit
section
variable {D:Type}{P:Program}{S:Sh D}{T:TypeId->Option Ty}{M N:Nat->Prop}{w w':World}{w0:Bs}{g:Nat->Option Value}{blk:Nat->Option (Bk D)}{al:Nat->Prop}
 {a:Act} {o:Oper} {K:Act->World->Prop} {Q:Exit->Act->World->Prop} {slot:Nat->Sl D} {out:Out D} {fr:Nat}
theorem agv {x:Dl D}{p:Pv}{v:Value}(h:aFv x=some p)(a:x.Rel S M w v):v=p.val/\p.fits:=by
 unfold aFv at h;split at h<;>first | (injection h with h;subst h;exact⟨a,trivial⟩) | (injection h with h;subst h;exact a) | (cases h;done)
theorem ab3:∀{c:List (Dl D)} {a:List Pv} {b:List Value},Rq c=some a->wz S M w c b->b=a.map Pv.val/\∀p∈a,p.fits
 | [],a,[],h,_=>by simp[Rq]at h;grind
 | x::c,a,v::b,h,d=>by
  unfold Rq at h;split at h
  ·rename_i p g f e;injection h with h
   subst h;obtain⟨i,j⟩:=agv f d.1;obtain⟨l,k⟩:=ab3 e d.2
   grind
  ·cases h
theorem au6 {c:Bool}{e:List (Dl D)}{d:List Pv}{t:TypeId}{u:Value}(h:Rq e=some d)(a:QS S M w c e u):Value.iface t u=ED (some ⟨t,c,d⟩)/\∀p∈d,p.fits:=by
 cases c with
 | true=>
  obtain⟨k,rfl,a⟩:=a;obtain⟨f,b⟩:=ab3 h a;exact⟨by rw[f];rfl,b⟩
 | false=>
  match e,a with
  | [x],a=>
   have a:x.Rel S M w u:=a;unfold Rq at h;split at h
   ·rename_i p i f b;injection h with h
    subst h;injection b with b
    subst b;obtain⟨g,j⟩:=agv f a;refine⟨by rw[g];rfl,fun p l=> ?_⟩
    grind
   ·cases h
theorem Lf.Le.rel {x y:Lf D}{v:Value}(h:x.Le S y)(a:x.Rel S M w g v):y.Rel S M w g v:=by
 rcases h with rfl | ⟨rfl,d,rfl,c,f⟩ | ⟨b,rfl,rfl⟩ | ⟨t,m,o,n,rfl,rfl,k⟩ | ⟨d,rfl,rfl⟩
 ·exact a
 ·simp only[Lf.Rel]at a;subst a;intro w' _;have:=Fp.mk (S:=S) (w:=w') d f none 0 (fun _ _=> .bool false) au au (fun i j e _=>by omega) (fun i j e _=>by omega) (fun i j _ e _=>by omega)
  grind
 ·exact a
 ·obtain⟨u,rfl,l⟩:=a;exact au6 k l
 ·obtain⟨_,_,c⟩:=a;exact c
theorem af8 {t:TypeId}{x y:Operand}{ty:Ty}(ho:o.op= .store t x y)(hT:eP P t ty)(hTT:T t=some ty)(h:Hp S w0 N blk g al w)(hx:(aG slot x).Rel S (aY N blk g) w g (a.eval x))
  (hy:(aG slot y).Rel S (aY N blk g) w g (a.eval y)) (c:GV T S blk t (aG slot x) (aG slot y)=some out) (hS:iZ S) (hp:nH out.pre) (hK:Post S w0 N blk g al w fr out o.dst a K):o.wp P a w K Q:=by
 have hsz:=mg hT w;unfold GV at c;split at c
 ·rename_i ty' l V u f H FU;rw[hTT]at f;injection f with f
  subst f;rw[H]at hx;rw[FU]at hy;obtain⟨b,G,hv⟩:=hx;split at c
  ·rename_i cs C;split at c
   ·rename_i R;injection c with c
    subst c;simp only[jA]at R;obtain⟨⟨Z,I⟩,J⟩:=R;have Z:=Qa Z;have I:=Qa0 I;obtain⟨vs,t',hh,hr⟩:=Qk h C G;have D:=uf h.refs (Ey J) hy;have hlen:=D.length;obtain⟨w',A,Y,hn,hs,p,M,L⟩:=mX (P:=P) b t' (a.eval y).cells.toList w vs V 0 hh (by rw[<-hr.length];omega) (LX h.refs J D);have r:(execOp a.eval o).run P w= .ok .skip w':=by
     have B:(a.eval y).cells.size=ty.size:=by grind
     simp[execOp,ho,Instr.storeAt,Instr.sureAddr,hv,storeVar,hsz,B,A]
    obtain⟨O,W⟩:=h.write (bk':= .cells (putAt cs V u.cells)) C rfl rfl G rfl p M L hs hn (fun hk=>by
     refine⟨b,_,t',rfl,(zS.lt (h.dD l _ C).choose_spec.2 rfl (by rw[Qdw ((h.dD l _ C).choose_spec.1.symm.trans G)];rfl)).2,Y,?_⟩;simpa using(hr.putAt D (V+0)).keep hk (More.refl _))
    exact Nb r (hK _ _ _ (More.refl _) W (O.weaken fun _ h=> .inl h) trivial)
   ·cases c
  ·cases c
 ·rename_i ty' l i j sz u f H FU;rw[hTT]at f;injection f with f
  subst f;rw[H]at hx;rw[FU]at hy;obtain⟨b,n,cap,G,hv⟩:=hx;split at c
  ·rename_i e d C;split at c
   ·rename_i R;split at c
    ·rename_i d' X;injection c with c
     subst c;simp only[jA]at R;obtain⟨⟨⟨Z,I⟩,h4⟩,J⟩:=R;have Z:=Qa Z;have I:=Qa0 I;have h4:=Qa h4;subst h4;have hp:i < S.len d:=hp;obtain⟨es,el,ec⟩:=hS.set _ _ _ _ _ X hp;obtain⟨v,F,hm,xs,⟨hxl,hown⟩,hcell⟩:=h.dD l _ C;rw[G]at F;injection F with F
     subst F;have D:=uf h.refs (Ey J) hy;have hlen:=D.length;rcases hown with⟨h0,_⟩ | ⟨b',cap',k,hvv,_,hh,hnc,hcm,hcs,htake⟩
     ·cases h0
     ·injection hvv with p M L
      injection p with p
      injection p with p
      subst p M L;have hh':w.heap[b]? =some (.cells (k.toList).toArray e (0,0)):=by simpa using hh
      have hrow:i*S.size d+S.size d<=S.len d*S.size d:=by rw[<-Nat.succ_mul];exact Qbu _ hp
      have hcap:S.len d*S.size d<=k.toList.length:=by grind
      obtain⟨w',A,Y,hn,hs,p,M,L⟩:=mX (P:=P) b e (a.eval y).cells.toList w k.toList (i*S.size d+j) 0 hh' au (LX h.refs J D);have r:(execOp a.eval o).run P w= .ok .skip w':=by
       have B:(a.eval y).cells.size=ty.size:=by grind
       simp[execOp,ho,Instr.storeAt,Instr.sureAddr,hv,storeVar,hsz,B,A]
      generalize hus:(a.eval y).cells.toList=U at*;obtain⟨O,W⟩:=h.write (bk':= .row e d') C rfl rfl G rfl p M L hs hn (fun hk=>by
       refine⟨⟨hm.1,by omega,hS.aDp _ _ _ _ _ X hm.2.2⟩,(k.toList.take (i*S.size d+j+0)++(U++k.toList.drop (i*S.size d+j+0+U.length))).take (S.len d*S.size d),⟨?_, .inr ⟨b,cap,(k.toList.take (i*S.size d+j+0)++(U++k.toList.drop (i*S.size d+j+0+U.length))).toArray,by rw[el],Jd _,Y,by omega,hcm,?_,by rw[el,es]⟩⟩,fun m q s z=> ?_⟩
       ·grind
       ·grind
       ·rw[el]at s;rw[es]at z;rw[es];have hlt:=vH s z;obtain⟨uo,hxo,hdo,hro⟩:=hcell m q s z;have hold:k.toList[m*S.size d+q]? =some uo:=by grind
        rw[Qcr,nI hlt];by_cases hin:m=i/\j<=q/\q < j+u.cells.length
        ·obtain⟨rfl,hj1,hj2⟩:=hin;obtain⟨x,hx1,hx2⟩:=(ec m q s z).1 ⟨rfl,hj1,by simpa using hj2⟩;obtain⟨uv,huv,hrv⟩:=D.norm.get (q - j) hx1;refine⟨uv,?_,hS.data _ _ _ au au,?_⟩
         ·rw[Qb5 xI,Qc4 qg,<-huv]
          grind
         ·exact(hx2.rel hrv).keep hk (More.refl _)
        ·rw[(ec m q s z).2 (by simpa using hin)];refine⟨uo,?_,hdo,hro.keep hk (More.refl _)⟩;rw[<-hold];have E:m*S.size d+q < i*S.size d+j\/i*S.size d+j+U.length<=m*S.size d+q:=by
          rcases Qd3 m i with hlt' | rfl | hgt
          ·left
           have:(m+1)*S.size d<=i*S.size d:=Qbu _ hlt'
           grind
          ·omega
          ·right
           have:(i+1)*S.size d<=m*S.size d:=Qbu _ hgt
           grind
         rcases E with E | E
         ·rw[Qc4 qg,Qcr,nI au]
         ·rw[Qb5 qg,Qb5 (by simp only[C9];omega),Qc3];congr 1
          grind)
      exact Nb r (hK _ _ _ (More.refl _) W (O.weaken fun _ h=> .inl h) trivial)
    ·cases c
   ·cases c
  ·cases c
 ·cases c
theorem ag6 {t:TypeId}{x:Operand}{f:Nat}{I:Ty}(E:o.op= .fieldAddr t x f)(H:eP P t I)(R:T t=some I)(h:Hp S w0 N blk g al w)(s:(aG slot x).Rel S (aY N blk g) w g (a.eval x))
  (c:QC T t (aG slot x) f=some out) (F:Post S w0 N blk g al w fr out o.dst a K):o.wp P a w K Q:=by
 simp only[QC,R]at c;split at c
 ·rename_i q u _ l L r B;rw[B]at s;obtain⟨b,G,A⟩:=s;obtain⟨M,O,D,C,m,p,_⟩:=LV H r;split at c
  ·cases c
  ·rename_i k;have k:u≠0:=fun e=>k (by simp[e])
   injection c with c
   subst c;refine bg (v:= .pointer (some ⟨b,L+q,none⟩)) ?_ h F rfl ⟨b,G,rfl⟩;simp[execOp,E,Instr.fieldAt,run_underlying D,C,A,Instr.sureAddr,fieldPlace,rV p k,k,m,m_]
 ·rename_i q u _ d i j r B;rw[B]at s;obtain⟨J,n,y,U,V,A⟩:=s;obtain⟨M,O,D,C,m,p,_⟩:=LV H r;split at c
  ·cases c
  ·rename_i k;have k:u≠0:=fun e=>k (by simp[e])
   injection c with c
   subst c;refine bg (v:= .pointer (some (J.add (i*S.size d+(j+q))))) ?_ h F rfl ⟨J,n,y,U,V,rfl⟩;simp[execOp,E,Instr.fieldAt,run_underlying D,C,A,Instr.sureAddr,fieldPlace,rV p k,k,m,add_add',Qec]
 ·rename_i q u _ l i j z r B;rw[B]at s;obtain⟨b,n,y,G,A⟩:=s;obtain⟨M,O,D,C,m,p,_⟩:=LV H r;split at c
  ·cases c
  ·rename_i k;have k:u≠0:=fun e=>k (by simp[e])
   injection c with c
   subst c;refine bg (v:= .pointer (some ⟨b,i*z+(j+q),none⟩)) ?_ h F rfl ⟨b,n,y,G,rfl⟩;simp[execOp,E,Instr.fieldAt,run_underlying D,C,A,Instr.sureAddr,fieldPlace,rV p k,k,m,m_,Qec]
 ·cases c
theorem akT {t:TypeId}{x:Operand}{f:Nat}{n:Ty}(s:o.op= .field t x f)(J:eP P t n)(E:T t=some n)(h:Hp S w0 N blk g al w)(u:(aG slot x).Rel S (aY N blk g) w g (a.eval x))
  (b:anw T t (aG slot x) f=some out) (z:Post S w0 N blk g al w fr out o.dst a K):o.wp P a w K Q:=by
 simp only[anw,E]at b;split at b
 ·rename_i j p R cs C H;rw[H]at u;obtain⟨I,q,F⟩:=u;obtain⟨M,O,D,A,k,l,r⟩:=LV J C;split at b
  ·cases b
  ·rename_i c;have c:p≠0:=fun e=>c (by simp[e])
   have i:=fun w=>ax9 l c w
   rw[r]at i;split at b
   ·rename_i d;split at b
    ·rename_i L;injection b with b
     subst b;refine bg (v:= .agg ((I.drop j).take p).toArray) ?_ h z rfl ⟨_,rfl,(F.drop j).take _⟩;simp[execOp,s,Instr.field,run_underlying D,A,q,asAgg,part,i,d,rV l c,k]
    ·cases b
   ·rename_i d;split at b
    ·rename_i y G;injection b with b
     subst b;obtain⟨v,B,m⟩:=F.get j G;refine bg (v:=v) ?_ h z rfl m;simp[execOp,s,Instr.field,run_underlying D,A,q,asAgg,part,i,d,k,B]
    ·cases b
 ·cases b
theorem aaj {x:Operand}{i:Nat}(k:o.op= .extract x i)(h:Hp S w0 N blk g al w)(d:(aG slot x).Rel S (aY N blk g) w g (a.eval x))
  (b:Gi (aG slot x) i=some out) (l:Post S w0 N blk g al w fr out o.dst a K):o.wp P a w K Q:=by
 unfold Gi at b;split at b
 ·rename_i q f;rw[f]at d;obtain⟨p,j,n⟩:=d;split at b
  ·rename_i y m;injection b with b
   subst b;obtain⟨v,e,c⟩:=n.get i m;refine bg (v:=v) ?_ h l rfl c;simp[execOp,k,Instr.extract,j,e]
  ·cases b
 ·cases b
theorem agM {t:TypeId}{x D:Operand}(J:o.op= .indexAddr t x D)(G:∀t H,T t=some H->eP P t H)(h:Hp S w0 N blk g al w)(j:(aG slot x).Rel S (aY N blk g) w g (a.eval x))
  (s:(aG slot D).Rel S (aY N blk g) w g (a.eval D)) (c:JY T S blk t (aG slot x) (aG slot D)=some out) (M:nH out.pre) (L:Post S w0 N blk g al w fr out o.dst a K):o.wp P a w K Q:=by
 unfold JY at c;split at c
 ·cases c
 ·rename_i H U;split at c
  ·cases c
  ·rename_i e Z;split at c
   ·cases c
   ·rename_i E Y;have z:=lF (G _ _ U) Z;have C:=mg (G _ _ Y) w;split at c
    ·rename_i d k n y A;rw[y]at j;rw[A]at s;split at c
     ·rename_i r;simp only[jA]at r;have F:=Qa r.1;have V:0 < E.size:=by simp_all
      injection c with c
      subst c;obtain⟨q,u⟩:=M;simp only[Sl.Rel,Sv.Rel,Lf.Rel]at s;obtain⟨av,p,f,O⟩:=dF.slice j au;have m:n.toNat < S.len d:=by omega
      rw[f]at j;obtain⟨B,rfl⟩:=dF.DN j m au;refine bg (v:= .pointer (some (B.add (n.toNat*S.size d+0)))) ?_ h L rfl ⟨B,_,p,j,m,rfl⟩;simp[execOp,J,Instr.indexAt,s,asIntOf,run_underlying z,f,q,u,C,F]
     ·cases c
    ·rename_i l k n y A;rw[y]at j;rw[A]at s;split at c
     ·rename_i e' d I;split at c
      ·rename_i r;simp only[jA]at r;have F:=Qa r.1;have V:0 < E.size:=by simp_all
       injection c with c
       subst c;obtain⟨q,u⟩:=M;simp only[Sl.Rel,Sv.Rel,Lf.Rel]at s j;obtain⟨v,f,_,xs,⟨hxl,R⟩,_⟩:=h.dD l _ I;rw[j]at f;injection f with f
       rcases R with⟨h0,hz⟩ | ⟨b,p,cur,X,_⟩
       ·omega
       ·rw[X]at f;refine bg (v:= .pointer (some ⟨b,n.toNat*E.size+0,none⟩)) ?_ h L rfl ⟨b,_,p,j.trans (by rw[f]),rfl⟩;simp[execOp,J,Instr.indexAt,s,asIntOf,run_underlying z,f,q,u,C,m_]
      ·cases c
     ·rename_i d I;split at c
      ·rename_i r;simp only[jA]at r;have F:=Qa r.1;have V:0 < E.size:=by simp_all
       injection c with c
       subst c;obtain⟨q,u⟩:=M;simp only[Sl.Rel,Sv.Rel,Lf.Rel]at s j;obtain⟨v,f,i⟩:=h.dD l _ I;rw[j]at f;injection f with f
       have i:dF S (aY N blk g) w d v:=i;obtain⟨av,p,W,O⟩:=dF.slice i au;have m:n.toNat < S.len d:=by omega
       rw[W]at i f;obtain⟨B,rfl⟩:=dF.DN i m au;refine bg (v:= .pointer (some (B.add (n.toNat*S.size d+0)))) ?_ h L rfl ⟨B,_,p,i,m,rfl⟩;simp[execOp,J,Instr.indexAt,s,asIntOf,run_underlying z,f,q,u,C,F]
      ·cases c
     ·cases c
    ·cases c
theorem mF {op:BinOp}{t:TypeId}{x y:Operand}{u v:Value}(a:one' u=true)(b:u≠ .nilIface):(eqGuard op t x y u v).run P w= .ok () w:=by
 cases u<;>first | (simp[one']at a;done) | (simp at b;done) | (cases op<;>rfl)
theorem Fa {a:List Value}{i:Nat}{u:Value}{r:List Value}(h:a.drop i=u::r):a[i]? =some u/\a.drop (i+1)=r:=by
 constructor
 ·have:=Ll (·[0]?) h
  grind
 ·have:=Ll (·.drop 1) h;simpa[Qdn]using this
theorem anU {d:Nat}{t:TypeId}{k:Nat}{x y:Lf D}{u v:Value}{e:Bool}(b:VZ P t=some k)(h:x.Rel S M w g u)(j:y.Rel S M w g v)(a:eq1 k x y=some e):
  (Op.equalIn (d+1) t u v).run P w= .ok e w/\(isAgg t).run P w= .ok false w:=by
 unfold VZ at b;split at b
 ·rename_i c;injection b with b
  subst b;simp only[eq1]at a;split at a
  ·injection a with a
   subst a;cases h;cases j;exact⟨by simp[Op.equalIn,run_underlying c],by simp[isAgg,run_underlying c]⟩
  ·cases a
 ·rename_i c;injection b with b
  subst b;simp only[eq1]at a;split at a
  ·split at a
   ·rename_i f;injection a with a
    subst a;cases h;cases j;simp only[kEq,Vt]at f;subst f;exact⟨by simp[Op.equalIn,run_underlying c],by simp[isAgg,run_underlying c]⟩
   ·cases a
  ·cases a
 ·rename_i c;injection b with b
  subst b;simp only[eq1]at a;split at a
  ·rename_i i l;injection a with a
   subst a;obtain⟨rfl,_⟩:=h;obtain⟨rfl,_⟩:=j;refine⟨?_,by simp[isAgg,run_underlying c]⟩;have:((⟨i.toArray⟩:ByteArray)==⟨l.toArray⟩)=(i==l):=by
    show(i.toArray==l.toArray)=_
    simp
   simp[Op.equalIn,run_underlying c,this]
  ·cases a
 ·cases b
theorem aow {d:Nat}{us vs:Array Value}:∀(p:List Field) (i:Nat) (q:List Nat) (j l:List (Lf D)) (r:Bool),eqFields P i p=some q->xC q j l=some r->
  bf S M w g j (us.toList.drop i)->bf S M w g l (vs.toList.drop i)->
  (forIn (m:=Sem) p ((none:Option Bool),()) fun f _=>if f.name≠ "_" then do
    let a<-part f.type us f.offset
    let b<-part f.type vs f.offset
    let e<-Op.equalIn (d+1) f.type a b
    if (!e)=true then pure (ForInStep.done (some false,()))else pure (ForInStep.yield (none,()))
   else pure (ForInStep.yield (none,()))).run P w= .ok (if r then none else some false,()) w
 | [],i,q,j,l,r,h,c,o,n=>by
  simp only[eqFields,TC]at h;subst h;cases j with
  | cons x j=>simp[xC]at c
  | nil=>
   cases l with
   | cons y l=>simp[xC]at c
   | nil=>
    simp only[xC,TC]at c;simp_all
 | f::p,i,q,j,l,r,h,c,o,n=>by
  unfold eqFields at h;split at h
  ·rename_i k z O B;split at h
   ·rename_i E;simp only[jA,Qbg]at E;obtain⟨⟨s,t⟩,T⟩:=E;have s:=Qa s;have t:f.name≠ "_" :=by simpa using t
    injection h with h
    subst h;cases j with
    | nil=>simp[xC]at c
    | cons x j=>
     cases l with
     | nil=>simp[xC]at c
     | cons y l=>
      unfold xC at c;split at c
      ·rename_i e N A H;injection c with c
       subst c;generalize F:us.toList.drop i=U at o;generalize G:vs.toList.drop i=V at n;cases U with
       | nil=>exact o.elim
       | cons u U=>
        cases V with
        | nil=>exact n.elim
        | cons v V=>
         obtain⟨Q,u2⟩:=Fa F;obtain⟨I,J⟩:=Fa G;obtain⟨L,C⟩:=anU (d:=d) O o.1 n.1 A;have W:=aow (d:=d) (us:=us) (vs:=vs) p (i+1) z j l N B H (by rw[u2];exact o.2) (by rw[J];exact n.2);have R:(part f.type us f.offset).run P w= .ok u w:=by
          have:us[i]? =some u:=by simpa using Q
          simp[part,C,s,this]
         have K:(part f.type vs f.offset).run P w= .ok v w:=by
          have:vs[i]? =some v:=by simpa using I
          simp[part,C,s,this]
         rw[List.forIn_cons];simp only[t,ne_eq,not_false_eq_true,if_true,Sem.run_bind,R,K,L,Result.andThen_ok];cases e with
         | false=>simp
         | true=>
          simp_all
      ·cases c
   ·cases h
  ·cases h
theorem atw {d n0:Nat}{e:TypeId}{k:Nat}{us vs:Array Value}(s:VZ P e=some k):∀(n i:Nat) (h j:List (Lf D)) (r:Bool),xC (List.replicate n k) h j=some r->
  bf S M w g h (us.toList.drop i)->bf S M w g j (vs.toList.drop i)->
  (forIn (m:=Sem) (List.range' i n) ((none:Option Bool),()) fun i _=>do
    let a<-part e us (i*1)
    let b<-part e vs (i*1)
    let c<-Op.equalIn (d+1) e a b
    if (!c)=true then pure (ForInStep.done (some false,()))else pure (ForInStep.yield (none,()))).run P w= .ok (if r then none else some false,()) w
 | 0,i,h,j,r,f,o,l=>by
  cases h with
  | cons x h=>simp[xC]at f
  | nil=>
   cases j with
   | cons y j=>simp[xC]at f
   | nil=>
    simp only[List.replicate,xC,TC]at f;simp_all
 | n+1,i,h,j,r,f,o,l=>by
  rw[List.replicate_succ]at f;cases h with
  | nil=>simp[xC]at f
  | cons x h=>
   cases j with
   | nil=>simp[xC]at f
   | cons y j=>
    unfold xC at f;split at f
    ·rename_i c G p A;injection f with f
     subst f;generalize t:us.toList.drop i=U at o;generalize z:vs.toList.drop i=V at l;cases U with
     | nil=>exact o.elim
     | cons u U=>
      cases V with
      | nil=>exact l.elim
      | cons v V=>
       obtain⟨H,u2⟩:=Fa t;obtain⟨B,C⟩:=Fa z;obtain⟨F,q⟩:=anU (d:=d) s o.1 l.1 p;have J:=atw (d:=d) (n0:=n0) (us:=us) (vs:=vs) s n (i+1) h j G A (by rw[u2];exact o.2) (by rw[C];exact l.2);have I:(part e us (i*1)).run P w= .ok u w:=by
        have:us[i]? =some u:=by simpa using H
        simp[part,q,this]
       have E:(part e vs (i*1)).run P w= .ok v w:=by
        have:vs[i]? =some v:=by simpa using B
        simp[part,q,this]
       rw[List.range'_succ,List.forIn_cons];simp only[Sem.run_bind,I,E,F,Result.andThen_ok];cases c with
       | false=>simp
       | true=>
        simp_all
    ·cases f
theorem ab5 {t:TypeId}{l:Ty}{us vs:List Value}{h j:List (Lf D)}{k:Nat}{s:List Nat}{r:Bool}(F:eP P t l)(a:l.eqs=k::s)(B:xC (k::s) h j=some r)(hx:bf S M w g h us)(m:bf S M w g j vs):
  (Op.equal t (.agg us.toArray) (.agg vs.toArray)).run P w= .ok r w/\P.eqGuardType P.depth t=false:=by
 obtain⟨i,d,z,lt,K,y,I,rfl⟩:=nP F;cases d with
 | struct C=>
  simp only[ahP]at a;split at a
  ·cases a
  ·rename_i b;simp only[Qbi,not_or,Qc0]at b;obtain⟨E,G⟩:=b;refine⟨?_,G⟩;split at a
   ·rename_i H p;subst a
    suffices f:∀d,(Op.equalIn (d+1+1) t (.agg us.toArray) (.agg vs.toArray)).run P w= .ok r w from f 9998
    intro d;have:=aow (P:=P) (w:=w) (d:=d) (us:=us.toArray) (vs:=vs.toArray) C.toList 0 _ h j r p B qci (by simpa using m);rw[Array.forIn_toList]at this;simp only[Op.equalIn,Sem.run_bind,run_underlying y,Result.andThen_ok,program];simp only[Sem.run,Result.andThen_ok,E,RX,if_false];rw[Sem.run_bind];refine(Ll (fun x=>Result.andThen x _) this).trans ?_;rw[Result.andThen_ok];cases r<;>rfl
   ·cases a
 | array n e=>
  simp only[ahP]at a;split at a
  ·cases a
  ·rename_i b;simp only[Qc0]at b;refine⟨?_,b⟩;split at a
   ·rename_i J L u A;split at a
    ·rename_i c;have c:=Qa c
     suffices f:∀d,(Op.equalIn (d+1+1) t (.agg us.toArray) (.agg vs.toArray)).run P w= .ok r w from f 9998
     intro d;have:=atw (P:=P) (w:=w) (d:=d) (n0:=0) (us:=us.toArray) (vs:=vs.toArray) u n 0 h j r qg qci (by simpa using m);have v:(sizeOf e).run P w= .ok 1 w:=by simp[sizeOf,typeInfo,A,c]
     obtain⟨o,q⟩:∃o,o=d+1:=⟨_,rfl⟩;rw[<-q]at this⊢;simp only[Op.equalIn,Sem.run_bind,run_underlying y,Result.andThen_ok,v,Std.Legacy.Range.forIn_eq_forIn_range',Std.Legacy.Range.size];rw[show(n - 0+1 - 1) / 1=n by simp];refine(Ll (fun x=>Result.andThen x _) this).trans ?_;rw[Result.andThen_ok];cases r<;>rfl
    ·cases a
   ·cases a
 | _=>simp[ahP]at a
theorem alC {op:BinOp}{t G:TypeId}{x y:Operand}(p:o.op= .binOp op t x y G)(s:∀t z,T t=some z->eP P t z)(h:Hp S w0 N blk g al w)(c:(aG slot x).Rel S (aY N blk g) w g (a.eval x))
  (f:(aG slot y).Rel S (aY N blk g) w g (a.eval y)) (b:ahZ T S op t (aG slot x) (aG slot y)=some out) (q:Post S w0 N blk g al w fr out o.dst a K):o.wp P a w K Q:=by
 unfold ahZ at b;split at b
 ·cases b
 ·rename_i z r;split at b
  ·rename_i e d B n D;split at b
   rotate_left
   ·cases b
   rename_i C;have C:0 < S.size d:=by simp_all
   have j:=lF (s _ _ r) B;rw[n]at c;rw[D]at f;have c:dF S (aY N blk g) w d (a.eval x):=c;have f:a.eval y= .slice none 0 0:=f;obtain⟨k,l,A,H⟩:=dF.slice c C;have m:k.isNone=true->S.len d=0:=fun I=>by
    rw[A]at c;rcases Nat.eq_zero_or_pos (S.len d)with E | E
    ·exact E
    ·obtain⟨J,rfl⟩:=dF.DN c E C;cases I
   have i:=fun w=>mF (P:=P) (w:=w) (op:=op) (t:=t) (x:=x) (y:=y) (u:= .slice k (S.len d) l) (v:= .slice none 0 0) rfl kM
   split at b
   ·injection b with b;subst b
    refine bg (v:= .bool k.isNone) ?_ h q rfl ⟨_,rfl,m⟩;simp[execOp,p,A,f,i,Lib.run_eql_slice_nil w t e k (S.len d) l 0 0 j]
   ·injection b with b;subst b
    refine bg (v:= .bool (!k.isNone)) ?_ h q rfl ⟨_,rfl,fun F=>m (by simpa using F)⟩;simp[execOp,p,A,f,i,run_neq_slice_nil_any w t e k (S.len d) l 0 0 j]
   ·cases b
  ·rename_i e B n D;have j:=lF (s _ _ r) B;rw[n]at c;rw[D]at f;have c:a.eval x= .slice none 0 0:=c;have f:a.eval y= .slice none 0 0:=f;have i:=fun w=>mF (P:=P) (w:=w) (op:=op) (t:=t) (x:=x) (y:=y) (u:= .slice none 0 0) (v:= .slice none 0 0) rfl kM
   split at b
   ·injection b with b;subst b
    refine bg (v:= .bool true) ?_ h q rfl rfl;simp[execOp,p,c,f,i,Lib.run_eql_slice_nil w t e none 0 0 0 0 j]
   ·injection b with b;subst b
    refine bg (v:= .bool false) ?_ h q rfl rfl;simp[execOp,p,c,f,i,run_neq_slice_nil_any w t e none 0 0 0 0 j]
   ·cases b
  ·cases b
theorem aqE {op:BinOp}{t yt:TypeId}{x y:Operand}(i:o.op= .binOp op t x y yt)(E:∀t A,T t=some A->eP P t A)(h:Hp S w0 N blk g al w)(f:(aG slot x).Rel S (aY N blk g) w g (a.eval x))
  (e:(aG slot y).Rel S (aY N blk g) w g (a.eval y)) (b:aAM T op t (aG slot x) (aG slot y)=some out) (p:nH out.pre) (l:Post S w0 N blk g al w fr out o.dst a K):o.wp P a w K Q:=by
 unfold aAM at b;split at b
 ·rename_i k n O m j D;rw[j]at f;rw[D]at e;simp only[Sl.Rel,Sv.Rel,Lf.Rel]at f e;split at b
  ·
   have c:=fun w=>mF (P:=P) (w:=w) (op:= .shl) (t:=t) (x:=x) (y:=y) (u:= .int k n) (v:= .int O m) rfl kM
   injection b with b
   subst b;have p:0<=m:=p;refine bg (v:=_) ?_ h l rfl rfl;simp[execOp,i,f,e,c,binOp,Op.shift,show ¬m < 0 by omega,WZ]
  ·have c:=fun w=>mF (P:=P) (w:=w) (op:= .shr) (t:=t) (x:=x) (y:=y) (u:= .int k n) (v:= .int O m) rfl kM
   injection b with b
   subst b;have p:0<=m:=p;refine bg (v:=_) ?_ h l rfl rfl;simp[execOp,i,f,e,c,binOp,Op.shift,show ¬m < 0 by omega,BD]
  ·split at b
   rotate_left
   ·cases b
   rename_i hns aJ7 q;have q:k=O:=by simpa[kEq]using q
   subst q;have c:=fun w=>mF (P:=P) (w:=w) (op:=op) (t:=t) (x:=x) (y:=y) (u:= .int k n) (v:= .int k m) rfl kM
   unfold aHc at b;split at b<;>first
    | (
      injection b with b;subst b
      refine bg (v:=_) ?_ h l rfl rfl;first
       | (simp[execOp,i,f,e,c,binOp,Op.intArith,bJ];done)
       | (simp[execOp,i,f,e,c,binOp,Op.intBits,uF,orI,TE,aGM];done)
       | (simp[execOp,i,f,e,c,binOp,Op.intCmp];done)
       | (simp[execOp,i,f,e,c,binOp,Op.intDiv,show m≠0 from p];done)
       | (simp[execOp,i,f,e,c,binOp,Op.intDiv,show m≠0 from p,bJ];done))
    | cases b
 ·rename_i s u j D;rw[j]at f;rw[D]at e;simp only[Sl.Rel,Sv.Rel,Lf.Rel]at f e;obtain⟨f,hxl⟩:=f;obtain⟨e,hyl⟩:=e;have c:=fun w=>mF (P:=P) (w:=w) (op:=op) (t:=t) (x:=x) (y:=y) (u:= .string ⟨s.toArray⟩) (v:= .string ⟨u.toArray⟩) rfl kM
  unfold aH9 at b;split at b<;>first
   | (
     injection b with b;subst b
     refine bg (v:=_) ?_ h l rfl rfl;simp[execOp,i,f,e,c,binOp,Op.stringOp,bne];done)
   | (cases b;done)
   | skip
  injection b with b
  subst b;have B:=run_string_add_sum (P:=P) w ⟨s.toArray⟩ ⟨u.toArray⟩ (by simpa[ByteArray.size,nH]using p);rw[ByteArray.mk_append_mk]at B;refine bg (v:= .string ⟨(s++u).toArray⟩) ?_ h l rfl ⟨rfl,by simpa[nH]using p⟩;simp[execOp,i,f,e,c,binOp,B]
 ·rename_i xs ys j D;rw[j]at f;rw[D]at e;obtain⟨V,I,G⟩:=f;obtain⟨Z,F,H⟩:=e;split at b
  ·rename_i A z;split at b
   ·cases b
   ·rename_i ks hne;cases C:A.eqs with
    | nil=>grind
    | cons k ks'=>
     rw[C]at b;split at b
     ·rename_i r J;injection b with b;subst b
      obtain⟨R,L⟩:=ab5 (E _ _ z) C J G.norm H.norm;refine bg (v:= .bool r) ?_ h l rfl rfl;have c:(eqGuard .eql t x y (.agg V.toArray) (.agg Z.toArray)).run P w= .ok () w:=by
       simp only[eqGuard,program];simp[Sem.run,L]
      simp[execOp,i,I,F,c,binOp,R]
     ·rename_i r J;injection b with b;subst b
      obtain⟨R,L⟩:=ab5 (E _ _ z) C J G.norm H.norm;refine bg (v:= .bool (!r)) ?_ h l rfl rfl;have c:(eqGuard .neq t x y (.agg V.toArray) (.agg Z.toArray)).run P w= .ok () w:=by
       simp only[eqGuard,program];simp[Sem.run,L]
      simp[execOp,i,I,F,c,binOp,R]
     ·cases b
  ·cases b
 ·split at b
  ·rename_i s u W U
   have f:=IY W f;have e:=IY U e;have c:=fun w=>mF (P:=P) (w:=w) (op:=op) (t:=t) (x:=x) (y:=y) (u:= .bool s) (v:= .bool u) rfl kM
   split at b
   ·rename_i A z;split at b
    ·rename_i q;obtain⟨d,hd,Y⟩:=oz (E _ _ z);have q:A.kind=1:=by simpa using q
     rw[q]at Y;have hd:P.underlying t=some .bool:=by cases d<;>simp_all [kindOf]
     have X:∀n,(Op.equalIn (n+1) t (.bool s) (.bool u)).run P w= .ok (s==u) w:=fun n=>by simp[Op.equalIn,run_underlying hd]
     have M:(Op.equal t (.bool s) (.bool u)).run P w= .ok (s==u) w:=X 9999;split at b<;>first
      | (
        injection b with b;subst b
        refine bg (v:=_) ?_ h l rfl rfl;simp[execOp,i,f,e,c,binOp,M,bne];done)
      | cases b
    ·cases b
   ·cases b
  ·cases b
theorem awM {j:UnOp}{t:TypeId}{x:Operand}(f:o.op= .unOp j t x)(h:Hp S w0 N blk g al w)(d:(aG slot x).Rel S (aY N blk g) w g (a.eval x))
  (c:xUn j (aG slot x)=some out) (q:nH out.pre) (i:Post S w0 N blk g al w fr out o.dst a K):o.wp P a w K Q:=by
 unfold xUn at c;split at c
 ·rename_i b e;rw[e]at d;simp only[Sl.Rel,Sv.Rel,Lf.Rel]at d;injection c with c;subst c
  refine bg (v:=_) ?_ h i rfl rfl;simp[execOp,f,d,Op.unary]
 ·rename_i b e;rw[e]at d;simp only[Sl.Rel,Sv.Rel,Lf.Rel]at d;injection c with c;subst c
  refine bg (v:=_) ?_ h i rfl rfl;simp[execOp,f,d,Op.unary]
 ·rename_i p e;rw[e]at d;obtain⟨b,m,l⟩:=d;injection c with c;subst c
  refine bg (v:= .bool (!b)) ?_ h i rfl ⟨!b,rfl,by simpa using l⟩;simp[execOp,f,m,Op.unary]
 ·rename_i k n e;rw[e]at d;simp only[Sl.Rel,Sv.Rel,Lf.Rel]at d;injection c with c;subst c
  refine bg (v:=_) ?_ h i rfl rfl;simp[execOp,f,d,Op.unary,Op.intArith,bJ]
 ·rename_i k n e;rw[e]at d;simp only[Sl.Rel,Sv.Rel,Lf.Rel]at d;injection c with c;subst c
  refine bg (v:=_) ?_ h i rfl rfl;simp[execOp,f,d,Op.unary,Op.intBits,TE]
 ·cases c
theorem alc {c x y:Operand}(ho:o.op= .pick c x y)(h:Hp S w0 N blk g al w)(hc:(aG slot c).Rel S (aY N blk g) w g (a.eval c))(e:(aG slot x).Rel S (aY N blk g) w g (a.eval x))
  (i:(aG slot y).Rel S (aY N blk g) w g (a.eval y)) (b:ag9 slot c x y=some out) (f:Post S w0 N blk g al w fr out o.dst a K):o.wp P a w K Q:=by
 unfold ag9 at b;split at b
 ·rename_i d;rw[d]at hc;simp only[Sl.Rel,Sv.Rel,Lf.Rel]at hc;injection b with b;subst b
  exact bg (v:=a.eval x) qcc h f rfl e
 ·rename_i d;rw[d]at hc;simp only[Sl.Rel,Sv.Rel,Lf.Rel]at hc;injection b with b;subst b
  exact bg (v:=a.eval y) qcc h f rfl i
 ·rename_i t d;rw[d]at hc;simp only[Sl.Rel,Sv.Rel,Lf.Rel]at hc;split at b
  ·rename_i p q k j;have e:=IY k e;have i:=IY j i;injection b with b;subst b
   cases t
   ·exact bg (v:=a.eval y) qcc h f rfl i
   ·exact bg (v:=a.eval x) qcc h f rfl e
  ·cases b
 ·cases b
end
end Go.Vc
namespace Go.Vc
open Go.RowKit
section
variable {D:Type}{P:Program}{S:Sh D}{T:TypeId->Option Ty}{Γ:FuncId->Option (Ct D)}{M N:Nat->Prop}{w w':World}{w0:Bs}{g:Nat->Option Value}{blk:Nat->Option (Bk D)}{al:Nat->Prop}
 {a:Act} {o:Oper} {K:Act->World->Prop} {Q:Exit->Act->World->Prop} {slot:Nat->Sl D} {out:Out D} {fr:Nat}
theorem acd:∀(b:List Value) (a k:Nat) (cs:Array Value),a+k+b.length<=cs.size->
  ((b.zipIdx k).foldl (fun(cs:Array Value) (p:Value×Nat)=>cs.setIfInBounds (a+p.2) p.1) cs).toList=cs.toList.take (a+k)++(b++cs.toList.drop (a+k+b.length))
 | [],a,k,cs,_=>by simp
 | u::b,a,k,cs,h=>by
  simp only[zx]at h;have c:a+k < cs.toList.length:=by simp;omega
  rw[List.zipIdx_cons,Qde,acd b a (k+1) _ xI];simp only[Array.toList_setIfInBounds];have e:(cs.toList.set (a+k) u).take (a+(k+1))=cs.toList.take (a+k)++[u]:=by
   rw[show a+(k+1)=(a+k)+1 by omega,List.take_succ_eq_append_getElem (by simpa using c),Qen,List.set_eq_of_length_le xI];simp
  have d:(cs.toList.set (a+k) u).drop (a+(k+1)+b.length)=cs.toList.drop (a+k+(u::b).length):=by
   rw[List.drop_set_of_lt au]
   grind
  grind
theorem ai1 {v:Value}{a:Nat}{cs:Array Value}(h:a+v.cells.size<=cs.size):
  (v.cells.zipIdx.foldl (fun(cs:Array Value) (p:Value×Nat)=>cs.setIfInBounds (a+p.2) p.1) cs).toList=cs.toList.take a++(v.cells.toList++cs.toList.drop (a+v.cells.toList.length)):=by
 rw[<-Array.foldl_toList,Array.toList_zipIdx];simpa using acd v.cells.toList a 0 cs qbr
theorem aoq {s:Ty}{place:Nat->Option (Nat×Nat)}(k:∀l u,g l=some u->isRef u=true)(z:∀t,(slot t).Rel S M w g (a.tmps.getD t undef))
  (n:∀f b j q,s.amQ[f]? =some (b,j,q)->place f=some (b,j)):
  ∀(parts:List (Nat×Operand)) (cs d:List (Lf D)) (i:Array Value),bf S M w g cs i.toList->J6 s slot parts cs=some d->
   ∃e,Instr.fill place i (parts.map fun p=>(p.1,a.eval p.2))=some e/\bf S M w g d e.toList
 | [],cs,d,i,h,c=>⟨i,rfl,by injection c with c;grind⟩
 | (f,x)::r,cs,d,i,h,c=>by
  unfold J6 at c;split at c
  ·rename_i b j q u C E;split at c
   ·rename_i m;simp only[jA]at m;obtain⟨⟨F,v⟩,A⟩:=m;have v:=Qa v;have A:=Qa0 A;have y:=pR z x;rw[E]at y;have m:=uf k F y;have J:=m.length;have G:=h.length;have I:(a.eval x).cells.size=j:=by grind
    have o:b+(a.eval x).cells.size<=i.size:=by
     grind
    obtain⟨e,H,B⟩:=aoq k z n r _ d _ (by rw[ai1 o];exact h.putAt m b) c;refine⟨e,?_,B⟩;simp only[Lj,Instr.fill,n f b j q C]
    grind
   ·cases c
  ·cases c
theorem FC:∀(a:List Field),(∀f∈a,cellsIn P f.type≠0)->
  (a.mapM fun f=>(do pure (f.offset,<-sizeOf f.type):Sem (Nat×Nat))).run P w= .ok (a.map fun f=>(f.offset,cellsIn P f.type)) w
 | [],_=>rfl
 | f::a,h=>by
  have c:=rV (P:=P) rfl (h f kM) w;have d:=FC a fun x b=>h x (by simp[b])
  simp_all
theorem ahv {t:TypeId}{parts:Array (Nat×Operand)}(l:o.op= .build t parts)(A:∀t k,T t=some k->eP P t k)(h:Hp S w0 N blk g al w)
  (G:∀t,(slot t).Rel S (aY N blk g) w g (a.tmps.getD t undef)) (b:afa T slot t parts=some out) (D:Post S w0 N blk g al w fr out o.dst a K):o.wp P a w K Q:=by
 unfold afa at b;split at b
 ·rename_i k u;have C:=A _ _ u;split at b
  ·rename_i q;simp only[jA]at q;split at b
   ·rename_i cs E;injection b with b
    subst b;obtain⟨z,F,y⟩:=EQ C w;obtain⟨i,d,M,lt,R,H,I,rfl⟩:=nP C;cases d with
    | struct m=>
     have n:∀f∈m.toList,cellsIn P f.type≠0:=by
      intro f s;have:=q.2;simp only[Qp,List.all_map,Qbd,Function.comp,Qbg]at this;intro e;have:=this f s;simp_all
     obtain⟨j,c,B⟩:=aoq (a:=a) (place:=fun f=>((m.toList.map fun f=>(f.offset,cellsIn P f.type)).toArray)[f]?) h.refs G (fun f J L O l=>by
      simp only[Qp,Qb4,Qck,Qbw]at l
      grind) parts.toList _ cs z.cells (by rw[y];exact ui _) E
     refine bg (v:= .agg j) ?_ h D rfl ⟨j.toList,by simp,B⟩;have s:=FC (P:=P) (w:=w) m.toList n;have r:parts.toList.map (fun p=>(p.1,a.eval p.2))=(parts.map fun(i,x)=>(i,a.eval x)).toList:=by simp
     rw[r]at c;simp only[execOp,l,Instr.build,Sem.run_bind,F,Result.andThen_ok,run_underlying H];rw[Qdq];simp only[Sem.run_map,s,Result.andThen_ok,Sem.run_pure];simp at c;simp[c]
    | _=>simp[kindOf]at q
   ·cases b
  ·cases b
 ·cases b
theorem VB {sz:Nat}(j:∀l u,g l=some u->isRef u=true)(q:∀t,(slot t).Rel S M w g (a.tmps.getD t undef)):
  ∀(parts:List (Nat×Operand)) (cs c:List (Lf D)) (e:Array Value),bf S M w g cs e.toList->Az sz slot parts cs=some c->
   ∃d,Instr.fill (fun i=>some (i*sz,sz)) e (parts.map fun p=>(p.1,a.eval p.2))=some d/\bf S M w g c d.toList
 | [],cs,c,e,h,b=>⟨e,rfl,by injection b with b;grind⟩
 | (f,x)::r,cs,c,e,h,b=>by
  unfold Az at b;split at b
  ·rename_i u y;split at b
   ·rename_i k;simp only[jA]at k;obtain⟨⟨z,o⟩,s⟩:=k;have o:=Qa o;have s:=Qa0 s;have n:=pR q x;rw[y]at n;have k:=uf j z n;have E:=k.length;have A:=h.length;have C:(a.eval x).cells.size=sz:=by grind
    have m:f*sz+(a.eval x).cells.size<=e.size:=by
     grind
    obtain⟨d,B,v⟩:=VB j q r _ c _ (by rw[ai1 m];exact h.putAt k (f*sz)) b;refine⟨d,?_,v⟩;simp only[Lj,Instr.fill]
    grind
   ·cases b
  ·cases b
theorem KX {x:Lf D}{u:Value}(d:x.jY=true)(h:x.Rel S M w g u)(c:∀b,b < w.heap.size->¬M b->w'.heap[b]? =w.heap[b]?):Lf.plain x u/\∀a,x= .dat a->Fp S w' a u:=by
 cases x<;>first | (simp[Lf.jY]at d;done) | exact⟨h,fun a e=>by cases e⟩ | exact⟨trivial,fun a e=>by cases e;exact h w' c⟩
theorem arT {d:D}{b n:Nat}{e:TypeId}{f:Array Value}{cs:List (Lf D)}(l:iZ S)(t:S.make e n cs=some d)(m:w.heap[b]? =some (.cells f e (0,0)))(r:¬M b)(A:bf S M w g cs f.toList)(F:n<=9223372036854775807):
  dF S M w d (.slice (some ⟨b,0,none⟩) n n):=by
 intro w' s;obtain⟨E,C,y⟩:=l.make e n cs d t;have p:=(s b (Ui m) r).trans m;have v:∀i j,i < n->j < S.size d->∃u,f.toList[i*S.size d+j]? =some u/\Lf.plain (S.cell d i j) u/\∀k,S.cell d i j= .dat k->Fp S w' k u:=by
  intro i j h a;obtain⟨x,z,q⟩:=y i j h a;obtain⟨u,c,o⟩:=A.get _ z;exact⟨u,c,KX (l.data d i j au a) (q.rel o) s⟩
 have:=Fp.mk (S:=S) (w:=w') d (l.ZO _ _ _ _ t) (some ⟨b,0,none⟩) n (fun i j=>(f.toList[i*S.size d+j]?).getD undef) au au
  (fun i j h a=>by
   obtain⟨u,c,_⟩:=v i j au a;refine⟨_,rfl,?_⟩;simp only[c,Qdb];rw[m_,zM];simp[World.cell?,p,<-c])
  (fun i j h a=>by
   grind)
  (fun i j k h a B=>by
   grind)
 grind
theorem sound_row {t:TypeId}{n:Nat}{parts:Array (Nat×Operand)}(F:iZ S)(ho:o.op= .buildSlice t n parts)(B:∀t J,T t=some J->eP P t J)(h:Hp S w0 N blk g al w)
  (hs:∀t,(slot t).Rel S (aY N blk g) w g (a.tmps.getD t undef)) (hfr:∀n,fr<=n->n < fr+64->¬al n) (c:aAR T S slot fr t n parts=some out) (hK:Post S w0 N blk g al w fr out o.dst a K):o.wp P a w K Q:=by
 unfold aAR at c;split at c
 ·cases c
 ·rename_i J V;split at c
  ·cases c
  ·rename_i e hel;split at c
   ·cases c
   ·rename_i f H;have Y:=lF (B _ _ V) hel;have hsz:=mg (B _ _ H) w;obtain⟨z,E,hzc⟩:=EQ (B _ _ H) w;split at c
    ·rename_i G;simp only[jA]at G;obtain⟨⟨h1,s⟩,h3⟩:=G;have h1:=Qa0 h1;have s:0 < f.size:=by simp_all
     have h3:=Qa h3;have hzs:z.cells.size=f.size:=by grind
     split at c
     ·rename_i cs hf;split at c
      ·rename_i d U;let r:Array Value:=(Array.range (n*f.size)).map fun k=>z.cells[k % z.cells.size]!
       have hzr:bf S (aY N blk g) w g ((List.range (n*f.size)).map fun k=>(D8 ((f.zero[k % f.size]?).getD (.bool false)):Lf D)) r.toList:=by
        have:r.toList=(List.range (n*f.size)).map fun k=>(f.zero[k % f.size]?).getD (.bool false):=by
         simp only[r,Array.toList_map,Array.toList_range];apply Qbb;intro k _;have hk:k % f.size < z.cells.size:=by rw[hzs];exact Qdl _ s
         grind
        rw[this];have E:=ui (S:=S) (M:=aY N blk g) (w:=w) (g:=g) (D:=D) ((List.range (n*f.size)).map fun k=>(f.zero[k % f.size]?).getD (.bool false));rw[Qcy]at E;exact E
       obtain⟨q,m,A⟩:=VB (a:=a) h.refs hs parts.toList _ cs r hzr hf;have hB:Below w.heap.size w (w.alloc (.cells q e)):=(Below.refl w.heap.size w).alloc (rC _) _;obtain⟨hp',I⟩:=h.grow hB;have y:(execOp a.eval o).run P w= .ok (.value (.slice (some ⟨w.heap.size,0,none⟩) n n)) (w.alloc (.cells q e)):=by
        have R:parts.toList.map (fun p=>(p.1,a.eval p.2))=(parts.map fun(i,x)=>(i,a.eval x)).toList:=by simp
        rw[R]at m;simp only[execOp,ho,Instr.buildSlice,Sem.run_bind,run_underlying Y,Result.andThen_ok,hsz];rw[kT au];by_cases C:n*f.size=0
        ·simp only[C,if_true,Sem.run_bind,Sem.run_pure,Result.andThen_ok];have e0:r= #[]:=by simp[r,C]
         rw[e0]at m;simp at m;simp[m,newRow,newObj,Sem.run,show Array.range 0= #[]from rfl]
        ·simp only[C,if_false,Sem.run_bind,Sem.run_pure,Result.andThen_ok,E];simp only[r]at m;simp at m;simp[m,newRow,newObj,Sem.run]
       split at c
       ·injection c with c
        subst c;obtain⟨O,q2,q3⟩:=F.make _ _ _ _ U;have aa:q.toList.length=n*S.size d:=by rw[<-q2,Qby];exact A.length.symm
        obtain⟨g1,g2,g3⟩:=h.add (l:=fr) (bk:= .row e d) (v:= .slice (some ⟨w.heap.size,0,none⟩) n n) hB (hfr fr (rC _) au) (fun b L=>by simp[eH]at L;omega)
         (fun M' hk _=>by
          refine⟨⟨fun b L=> .inl ?_,⟨by rw[O];have:n*1<=n*f.size:=Qd n s;omega,F.ZO _ _ _ _ U⟩⟩,q.toList,⟨by grind, .inr ⟨w.heap.size,n,q,by rw[O],Jd _,heap_alloc_new w _,by omega,?_,by simpa using aa,?_⟩⟩,fun i j hi X=> ?_⟩
          ·simp only[eH,TC]at L;have:=h.below.size;omega
          ·have:n*1<=n*f.size:=Qd n s;simp only[maxLen];omega
          ·grind
          ·rw[O]at hi;obtain⟨x,G,hle⟩:=q3 i j hi X;obtain⟨u,hu,Z⟩:=A.norm.get _ G;refine⟨u,hu,F.data d i j au X,(hle.rel Z).keep hk (fun l v hl=> ?_)⟩;rw[bU _ _ _ _ qbk];exact hl)
        exact lL y (hK _ _ _ g3 g2 (g1.weaken fun n C=>C.elim .inl fun e=> .inr ⟨Qdo e.symm,by omega⟩) (upd_same _ _ _))
       injection c with c
       subst c;refine lL y (hK _ _ _ (More.refl _) I (hp'.weaken fun _ h=> .inl h) ?_);exact arT F U (heap_alloc_new w _) (fun W=>by have:=h.mlt W;omega) (A.norm.keep I (More.refl _)) (by have:n*1<=n*f.size:=Qd n s;omega)
      ·cases c
     ·cases c
    ·cases c
theorem asu {c:Call}{x:Operand}(y:o.op= .call c)(B:c.callee= .builtin .len)(O:c.args.toList=[x])(L:∀t n,T t=some n->eP P t n)(h:Hp S w0 N blk g al w)
  (k:(aG slot x).Rel S (aY N blk g) w g (a.eval x)) (b:aks S T blk c.argTypes (aG slot x)=some out) (z:Post S w0 N blk g al w fr out o.dst a K):o.wp P a w K Q:=by
 have j:c.args= #[x]:=by grind
 unfold aks at b;split at b
 ·cases b
 ·rename_i t r;split at b
  ·cases b
  ·rename_i n H;obtain⟨u,C,i⟩:=oz (L _ _ H);split at b
   ·rename_i d p;rw[p]at k;split at b
    ·rename_i f;have f:n.kind=4/\0 < S.size d:=by simpa using f
     obtain⟨f,D⟩:=f;obtain⟨E,q,m,_⟩:=dF.slice k D;rw[f]at i;cases u<;>simp[kindOf]at i
     injection b with b
     subst b;refine bg (v:= .int .i64 (S.len d)) ?_ h z rfl rfl;simp[execOp,y,resolve,B,invoke,builtin,Builtin.len_,j,r,run_underlying C,m,goInt]
    ·cases b
   ·rename_i s p;rw[p]at k;simp only[Sl.Rel,Sv.Rel,Lf.Rel]at k;split at b
    ·rename_i f;have f:n.kind=3:=by simpa using f
     rw[f]at i;cases u<;>simp[kindOf]at i
     injection b with b
     subst b;refine bg (v:= .int .i64 s.length) ?_ h z rfl rfl;have J:(ByteArray.mk s.toArray).size=s.length:=by rfl
     simp[execOp,y,resolve,B,invoke,builtin,Builtin.len_,j,r,run_underlying C,k,goInt,J]
    ·cases b
   ·rename_i l p;rw[p]at k;simp only[Sl.Rel,Sv.Rel,Lf.Rel]at k;split at b
    ·rename_i e d F;split at b
     ·rename_i f;have f:n.kind=4:=by simpa using f
      rw[f]at i;cases u<;>simp[kindOf]at i
      injection b with b
      subst b;obtain⟨v,m,_,R,⟨_,M⟩,_⟩:=h.dD l _ F;rw[k]at m;injection m with m
      have I:∃E q,a.eval x= .slice E (S.len d) q:=by
       grind
      obtain⟨E,q,A⟩:=I;refine bg (v:= .int .i64 (S.len d)) ?_ h z rfl rfl;simp[execOp,y,resolve,B,invoke,builtin,Builtin.len_,j,r,run_underlying C,A,goInt]
     ·cases b
    ·rename_i d F;split at b
     ·rename_i f;have f:n.kind=4/\0 < S.size d:=by simpa using f
      obtain⟨f,D⟩:=f;rw[f]at i;cases u<;>simp[kindOf]at i
      injection b with b
      subst b;obtain⟨v,m,G⟩:=h.dD l _ F;rw[k]at m;injection m with m
      obtain⟨E,q,A,_⟩:=dF.slice (show dF S (aY N blk g) w d v from G) D;rw[A]at m;refine bg (v:= .int .i64 (S.len d)) ?_ h z rfl rfl;simp[execOp,y,resolve,B,invoke,builtin,Builtin.len_,j,r,run_underlying C,m,goInt]
     ·cases b
    ·cases b
   ·rename_i p;rw[p]at k;simp only[Sl.Rel,Sv.Rel,Lf.Rel]at k;split at b
    ·rename_i f;have f:n.kind=4:=by simpa using f
     rw[f]at i;cases u<;>simp[kindOf]at i
     injection b with b
     subst b;refine bg (v:= .int .i64 0) ?_ h z rfl rfl;simp[execOp,y,resolve,B,invoke,builtin,Builtin.len_,j,r,run_underlying C,k,goInt]
    ·cases b
   ·cases b
theorem ab_ {c:Call}{x y:Operand}{b:Builtin}(u:b= .min\/b= .max)(p:o.op= .call c)(r:c.callee= .builtin b)(t:c.args.toList=[x,y])(h:Hp S w0 N blk g al w)
  (f:(aG slot x).Rel S (aY N blk g) w g (a.eval x)) (i:(aG slot y).Rel S (aY N blk g) w g (a.eval y)) (d:ay8 b (aG slot x) (aG slot y)=some out) (q:Post S w0 N blk g al w fr out o.dst a K):o.wp P a w K Q:=by
 have e:c.args= #[x,y]:=by grind
 unfold ay8 at d;split at d
 ·rename_i k n s m j l;rw[j]at f;rw[l]at i;simp only[Sl.Rel,Sv.Rel,Lf.Rel]at f i;injection d with d
  subst d;refine bg (v:= .int k (min n m)) ?_ h q rfl rfl;have:(if m < n then m else n)=min n m:=by split<;>omega
  simp[execOp,p,resolve,r,invoke,builtin,Builtin.min_,Builtin.min2,e,f,i,this]
 ·rename_i k n s m j l;rw[j]at f;rw[l]at i;simp only[Sl.Rel,Sv.Rel,Lf.Rel]at f i;injection d with d
  subst d;refine bg (v:= .int k (max n m)) ?_ h q rfl rfl;have:(if n < m then m else n)=max n m:=by split<;>omega
  simp[execOp,p,resolve,r,invoke,builtin,Builtin.max_,Builtin.max2,e,f,i,this]
 ·cases d
end
end Go.Vc
namespace Go.Vc
open Go.RowKit
section
variable {D:Type}{P:Program}{S:Sh D}{T:TypeId->Option Ty}{M N:Nat->Prop}{w w':World}{w0:Bs}{g:Nat->Option Value}{blk:Nat->Option (Bk D)}{al:Nat->Prop}
 {a:Act} {o:Oper} {K:Act->World->Prop} {Q:Exit->Act->World->Prop} {slot:Nat->Sl D} {out:Out D} {fr:Nat}
theorem aoo {p:Nat->Value->Prop}:∀(n:Nat),(∀k,k < n->∃u,p k u)->∃l:List Value,l.length=n/\∀k u,l[k]? =some u->p k u
 | 0,_=>⟨[],rfl,fun k u h=>by simp at h⟩
 | n+1,h=>by
  obtain⟨l,a,d⟩:=aoo n fun k c=>h k au
  obtain⟨u,e⟩:=h n au;refine⟨l++[u],by simp[a],fun k x b=> ?_⟩
  grind
theorem V5 {x:Lf D}{v:Value}(c:x.jY=true)(h:x.Rel S M w g v):v.oneCell'=true:=by
 cases x with
 | bool b=>simp only[Lf.Rel]at h;subst h;rfl
 | int k n=>simp only[Lf.Rel]at h;subst h;rfl
 | str s=>obtain⟨rfl,_⟩:=h;rfl
 | dat d=>rcases dF.form h with⟨a,e,rfl⟩ | ⟨r,rfl⟩<;>rfl
 | Tz x=>obtain⟨rfl,_⟩:=h;cases x<;>rfl
 | _=>simp[Lf.jY]at c
theorem yf (v:Value)(h:∃a n c,v= .slice a n c):v.ownBlock=eH v:=by
 obtain⟨a,n,c,rfl⟩:=h;cases a<;>rfl
theorem Ns (z:iZ S){d:D}{v:Value}(h:dF S M w d v)(b:0 < S.size d):∃(q:Option Addr) (c:Nat) (a:List Value),v= .slice q (S.len d) c/\a.length=S.len d*S.size d/\
  (∀f,q=some f->∀j u,a[j]? =some u->w.cell? (f.add j)=some u)/\(q=none->S.len d=0)/\(∀u∈a,u.oneCell'=true)/\
  ∀i j,i < S.len d->j < S.size d->∃u,a[i*S.size d+j]? =some u/\(S.cell d i j).Rel S M w g u:=by
 obtain⟨q,c,rfl,y⟩:=h.slice b;rcases Nat.eq_zero_or_pos (S.len d)with x | x
 ·simp_all
 ·obtain⟨f,rfl⟩:=h.DN x b;obtain⟨l,A,t⟩:=aoo (p:=fun k u=>w.cell? (f.add k)=some u/\(S.cell d (k / S.size d) (k % S.size d)).Rel S M w g u/\k / S.size d < S.len d) (S.len d*S.size d) fun k r=>by
   have m:k / S.size d < S.len d:=by rw[Nat.div_lt_iff_lt_mul b];exact r
   obtain⟨u,o,s⟩:=h.cell (g:=g) m (Qdl k b);have:k / S.size d*S.size d+k % S.size d=k:=by rw[Qb0];exact Nat.div_add_mod k (S.size d)
   grind
  refine⟨some f,c,l,rfl,A,fun C e j u n=>by grind,(fun e=>by cases e),fun u o=> ?_,fun i j m n=> ?_⟩
  ·obtain⟨k,r⟩:=List.getElem?_of_mem o;obtain⟨_,s,m⟩:=t k u r;exact V5 (z.data _ _ _ m (Qdl k b)) s
  ·have B:=vH m n;obtain⟨u,o⟩:∃u,l[i*S.size d+j]? =some u:=⟨_,Qav au⟩;obtain⟨_,s,_⟩:=t _ u o;have F:(i*S.size d+j) / S.size d=i:=by rw[Qb0,Nat.mul_add_div b,Nat.div_eq_of_lt n,Qb]
   have E:(i*S.size d+j) % S.size d=j:=by rw[Qb0,Qeg,Qcs n]
   grind
theorem ath (L:iZ S)(h:Hp S w0 N blk g al w){l:Nat}{e:TypeId}{d:D}{v:Value}(F:blk l=some (.row e d))(H:g l=some v):∃(t:Option Addr) (n:Nat) (a:List Value),v= .slice t (S.len d) n/\a.length=S.len d*S.size d/\
  (∀q,t=some q->∀j u,a[j]? =some u->w.cell? (q.add j)=some u)/\(t=none->S.len d=0)/\(∀u∈a,u.oneCell'=true)/\
  ∀i j,i < S.len d->j < S.size d->∃u,a[i*S.size d+j]? =some u/\(S.cell d i j).Rel S (aY N blk g) w g u:=by
 obtain⟨M,m,P,s,c,o⟩:=h.dD l _ F;rw[H]at m;injection m with m
 subst m;have r:∀u∈s,u.oneCell'=true:=by
  intro u I;obtain⟨k,A⟩:=List.getElem?_of_mem I;have p:k < s.length:=(Qbn.1 A).1;rw[c.1]at p;have z:0 < S.size d:=by
   grind
  have B:k / S.size d < S.len d:=by rw[Nat.div_lt_iff_lt_mul z];exact p
  obtain⟨K,f,C,G⟩:=o _ _ B (Qdl k z);have:k / S.size d*S.size d+k % S.size d=k:=by rw[Qb0];exact Nat.div_add_mod k (S.size d)
  rw[this,A]at f;injection f with f
  subst f;exact V5 C G
 rcases c.2 with⟨O,Q⟩ | ⟨b,n,J,x,E⟩
 ·simp_all
 ·refine⟨_,n,s,x,c.1,fun q e j u y=> ?_,(fun e=>by cases e),r,fun i j B y=> ?_⟩
  ·injection e with e
   subst e;subst x;exact c.cells (g:=b) rfl j u y
  grind
theorem Kr (l:iZ S)(h:Hp S w0 N blk g al w){y:Sl D}{v:Value}{d:D}(f:y.Rel S (aY N blk g) w g v)(a:Nz blk y=some d)(p:0 < S.size d):∃(m:Option Addr) (n:Nat) (b:List Value),v= .slice m (S.len d) n/\b.length=S.len d*S.size d/\
  (∀o,m=some o->∀j u,b[j]? =some u->w.cell? (o.add j)=some u)/\(m=none->S.len d=0)/\(∀u∈b,u.oneCell'=true)/\
  ∀i j,i < S.len d->j < S.size d->∃u,b[i*S.size d+j]? =some u/\(S.cell d i j).Rel S (aY N blk g) w g u:=by
 unfold Nz at a;split at a
 ·injection a with a
  subst a;exact Ns l f p
 ·split at a
  ·rename_i e r k;injection a with a
   subst a;exact ath l h k f
  ·rename_i r k;injection a with a
   subst a;obtain⟨s,c,q⟩:=h.dD _ _ k;have f:g _=some v:=f;rw[f]at c;injection c with c
   subst c;exact Ns l q p
  ·cases a
 ·cases a
theorem Zp (t A e:TypeId)(i:TypeInfo)(z:Value)(a bytes:Nat)(s:P.underlying t=some (.slice e))(y:P.info? e=some i)(H:i.zero=some z)
  (q:i.size=a) (B:i.bytes=bytes) (E:z.cells.size=a) (F:0 < a)
  (v:Value) (n:Nat) (x:List Value) (k:w.ownsRow 0 e a v n x)
  (r:Option Addr) (m c:Nat) (d:List Value) (G:d.length=m*a) (o:∀f,r=some f->∀j u,d[j]? =some u->w.cell? (f.add j)=some u) (p:r=none->m=0) (I:∀u∈d,u.oneCell'=true)
  (C:n+m<=maxLen) (h:(n+m)*bytes<=140737488355328):
  ∃g l,(Builtin.append_ #[t,t] A #[v, .slice r m c]).run P w= .ok g l/\l.ownsRow 0 e a g (n+m) (x++d)/\w.grownBy l v.ownBlock/\(g.ownBlock=v.ownBlock\/g.ownBlock=some w.heap.size):=by
 cases r with
 | some f=>
  obtain⟨g,l,L,O,N,_,Q⟩:=run_append_own_at (P:=P) w 0 t A e i z a bytes s y H q B E F v n x k f m c d G (o f rfl) I C h (Jd _)
  grind
 | none=>
  obtain rfl:=p rfl;obtain rfl:d=[]:=Qau (by simpa using G);refine⟨v,w,?_,by grind,⟨rfl,rfl,rfl,rC _,fun _ _ _=>rfl⟩, .inl rfl⟩;rcases k.2 with⟨rfl,rfl⟩ | ⟨b,J,K,rfl,_,M,D,_⟩
  ·simp[Builtin.append_,run_underlying s,sizeOf,typeInfo,y,Builtin.lenOf,Builtin.firstCells]
  ·simp[Builtin.append_,run_underlying s,sizeOf,typeInfo,y,Builtin.lenOf,Builtin.firstCells,D,storeCells]
theorem EM {t:TypeId}{a:Ty}(h:eP P t a):∃i z,P.info? t=some i/\i.zero=some z/\i.size=a.size/\i.bytes=a.bytes/\z.cells.toList=a.zero:=by
 obtain⟨i,d,z,lt,c,b,e,rfl⟩:=nP h
 grind
theorem Xy {b:Nat->Prop}{a:Nat}:∀n,(b n\/n=a)->b n\/(a<=n/\n < a+64):=fun n c=>c.elim .inl fun e=> .inr ⟨Qdo e.symm,by omega⟩
theorem adh {c:Call}{x y:Operand}(I:iZ S)(ho:o.op= .call c)(hc:c.callee= .builtin .append)(hx':c.args.toList=[x,y])(hTy:∀t ty,T t=some ty->eP P t ty)(h:Hp S w0 N blk g al w)(hfr:∀n,fr<=n->n < fr+64->¬al n)
  (E:(aG slot x).Rel S (aY N blk g) w g (a.eval x)) (hy:(aG slot y).Rel S (aY N blk g) w g (a.eval y)) (f:Ii T S blk fr c.argTypes (aG slot x) (aG slot y)=some out) (hp:nH out.pre)
  (hK:Post S w0 N blk g al w fr out o.dst a K):o.wp P a w K Q:=by
 have hargs:c.args= #[x,y]:=by grind
 have W:∀v',More g (upd g fr (some v')):=fun v' l v hl=>by
  rw[bU _ _ _ _ qbk];exact hl
 unfold Ii at f;split at f
 ·rename_i t t' htt;split at f
  ·rename_i ZJ;have ZJ:=Qa ZJ;subst ZJ;have hat:c.argTypes= #[t,t]:=by grind
   split at f
   ·cases f
   ·rename_i ty hty;split at f
    ·cases f
    ·rename_i e hel;split at f
     ·cases f
     ·rename_i s hte;split at f
      ·cases f
      ·rename_i d2 hd2;have hsl:=lF (hTy _ _ hty) hel;obtain⟨i,z,hi,hz,q1,q2,q3⟩:=EM (hTy _ _ hte);split at f
       ·rename_i O;simp only[jA]at O;have e1:=Qa O.1.1;have e2:0 < s.size:=by simp_all
        have e3:=Qa O.2;have hzs:z.cells.size=s.size:=by grind
        obtain⟨av,cap,B,hv2,hl2,hc2,hn2,h12,D⟩:=Kr I h hy hd2 au;have run:∀(r:Value) (n:Nat) (C:List Value),a.eval x=r->w.ownsRow 0 e s.size r n C->dE (n+S.len d2) s.bytes->
          ∃v' w',(execOp a.eval o).run P w= .ok (.value v') w'/\w'.ownsRow 0 e s.size v' (n+S.len d2) (C++B)/\w.grownBy w' r.ownBlock/\(v'.ownBlock=r.ownBlock\/v'.ownBlock=some w.heap.size):=by
         intro r n C A q G;obtain⟨v',w',L,X,p,m⟩:=Zp (P:=P) (w:=w) t o.type e i z s.size s.bytes hsl hi hz q1 q2 hzs e2 r n C q av (S.len d2) cap B qg hc2 hn2 h12 (by have:=G.1;simp only[maxLen];omega) G.2;refine⟨v',w',?_,X,p,m⟩;simp only[execOp,ho,resolve,hc,invoke,builtin,hargs,hat,Sem.run_bind,Sem.run_pure,Result.andThen_ok,Qci,Lj,Qc6,A,hv2,L]
        split at f
        ·rename_i M;injection f with f
         subst f;rw[M]at E;obtain⟨v',w',L,X,p,m⟩:=run (.slice none 0 0) 0 [] E (World.ownsRow_nil w 0 e s.size) (by rw[zM];exact hp);have hB:Below w.heap.size w w':=⟨p.os,p.tape,p.output,p.size,fun k J=>p.block k J (by simp[Value.ownBlock])⟩;have FV:∃a n c,v'= .slice a n c:=by rcases X.2 with⟨rfl,_⟩ | ⟨b,cp,cur,rfl,_⟩<;>exact⟨_,_,_,rfl⟩
         have Y:∀b,eH v'=some b->w.heap.size<=b:=by
          intro b hb;rw[yf v' FV]at m;rcases m with m | m
          ·rw[hb]at m;simp[Value.ownBlock]at m
          grind
         obtain⟨g1,g2,g3⟩:=h.add (l:=fr) (bk:= .row e d2) (v:=v') hB (hfr fr (rC _) au) Y (fun M' J _=>by
          refine⟨⟨fun b hb=> .inl (KF h.below.size (Y b hb)),⟨by have:dE (S.len d2) s.bytes:=hp;have:=this.1;omega,I.asQ au⟩⟩,B,?_,fun F j H hj=> ?_⟩
          ·grind
          ·obtain⟨u,hu,V⟩:=D F j H hj;exact⟨u,hu,I.data _ _ _ H hj,V.keep J (W _)⟩)
         exact lL L (hK _ _ _ g3 g2 (g1.weaken Xy) (upd_same _ _ _))
        ·rename_i l M;rw[M]at E;have E:g l=some (a.eval x):=E;split at f
         ·rename_i e' d1 hb;split at f
          ·rename_i U;have U:=Qa U;subst U;split at f
           ·rename_i d Jj;injection f with f
            subst f;obtain⟨c1,c2,c3,c4,c5⟩:=I.cat _ _ _ Jj;obtain⟨r,A,hm,C,q,Z⟩:=h.dD l _ hb;rw[E]at A;injection A with A
            have es:s.size=S.size d1:=by omega
            rw[<-es]at q;obtain⟨v',w',L,X,p,m⟩:=run r (S.len d1) C A q hp;have R:∃a n c,r= .slice a n c:=by rcases q.2 with⟨rfl,_⟩ | ⟨b,cp,cur,rfl,_⟩<;>exact⟨_,_,_,rfl⟩
            have FV:∃a n c,v'= .slice a n c:=by rcases X.2 with⟨rfl,_⟩ | ⟨b,cp,cur,rfl,_⟩<;>exact⟨_,_,_,rfl⟩
            rw[yf v' FV,yf r R]at m;rw[yf r R]at p;obtain⟨g1,g2,g3⟩:=h.move (l:=l) (fr:=fr) (bk':= .row e d) (v:=r) (v':=v') qc (A▸E) (hfr fr (rC _) au) p.os p.tape p.output p.size (fun n hn hne=>p.block n hn fun e=>hne e.symm)
             (fun b hb'=>by
              grind)
             (fun M' J _=>by
              refine⟨⟨fun b hb'=> ?_,⟨by have:dE (S.len d1+S.len d2) s.bytes:=hp;have:=this.1;omega,I.ZN _ _ _ ‹_›⟩⟩,C++B,?_,fun F j H hj=> ?_⟩
              ·rcases m with m | m
               ·grind
               ·rw[hb']at m;injection m with m;exact .inl (m▸h.below.size)
              ·grind
              ·rw[c3]at H;have hxl:C.length=S.len d1*S.size d:=by rw[q.1];congr 1;omega
               by_cases hlt:F < S.len d1
               ·obtain⟨u,hu,hda,V⟩:=Z F j hlt au;rw[c4 F j hlt];refine⟨u,?_,hda,V.keep J (W _)⟩
                grind
               ·obtain⟨k,rfl⟩:∃k,F=S.len d1+k:=⟨F - S.len d1,by omega⟩;obtain⟨u,hu,V⟩:=D k j au au;rw[c5 k j au];refine⟨u,?_,I.data _ _ _ au au,V.keep J (W _)⟩
                grind)
            exact lL L (hK _ _ _ g3 g2 (g1.weaken Xy) (upd_same _ _ _))
           ·cases f
          ·cases f
         ·cases f
        ·cases f
       ·cases f
  ·cases f
 ·cases f
theorem aiC {t:TypeId}{x f:Operand}(B:o.op= .index t x f)(y:∀t e,T t=some e->eP P t e)(h:Hp S w0 N blk g al w)(c:(aG slot x).Rel S (aY N blk g) w g (a.eval x))
  (l:(aG slot f).Rel S (aY N blk g) w g (a.eval f)) (b:adL T t (aG slot x) (aG slot f)=some out) (D:nH out.pre) (C:Post S w0 N blk g al w fr out o.dst a K):o.wp P a w K Q:=by
 unfold adL at b;split at b
 ·cases b
 ·rename_i e p;split at b
  ·rename_i s k n q r;rw[q]at c;rw[r]at l;simp only[Sl.Rel,Sv.Rel,Lf.Rel]at c l;obtain⟨c,F⟩:=c;split at b
   ·rename_i j;obtain⟨d,A,z⟩:=oz (y _ _ p);have j:e.kind=3:=by simpa using j
    rw[j]at z;have A:P.underlying t=some .string:=by cases d<;>simp_all [kindOf]
    injection b with b
    subst b;obtain⟨E,G⟩:=D;have m:n.toNat < s.length:=by omega
    refine bg (v:= .int .u8 ((s.getD n.toNat 0).toNat:Nat)) ?_ h C rfl rfl;have i:(ByteArray.mk s.toArray)[n.toNat]? =some (s.getD n.toNat 0):=by
     have u:n.toNat < (ByteArray.mk s.toArray).size:=by show n.toNat < s.toArray.size;simpa using m
     rw[getElem?_pos (ByteArray.mk s.toArray) n.toNat u];congr 1;show s.toArray[n.toNat]=_
     grind
    simp[execOp,B,Instr.index,l,asIntOf,run_underlying A,c,E,i]
   ·cases b
  ·cases b
theorem abp {k a:IntKind}(h:ar5 (uQ k)=some a):k=a:=by cases k<;>simp[uQ,ar5]at h<;>exact h
theorem amf {t c:TypeId}{x:Operand}(s:o.op= .convert t c x)(e:∀t f,T t=some f->eP P t f)(h:Hp S w0 N blk g al w)(i:(aG slot x).Rel S (aY N blk g) w g (a.eval x))
  (b:ao1 T t c (aG slot x)=some out) (z:nH out.pre) (u:Post S w0 N blk g al w fr out o.dst a K):o.wp P a w K Q:=by
 unfold ao1 at b;split at b
 ·rename_i tys f A n y m p;rw[p]at i;simp only[Sl.Rel,Sv.Rel,Lf.Rel]at i;split at b
  ·rename_i k j;injection b with b
   subst b;obtain⟨d,l,r⟩:=oz (e _ _ m);obtain⟨d0,q,_⟩:=oz (e _ _ y);have l:P.underlying c=some (.int k):=by
    rw[<-r]at j;cases d<;>simp[kindOf,ar5]at j
    rw[l,abp j]
   refine bg (v:= .int k (bJ k n)) ?_ h u rfl rfl;simp[execOp,s,convert,run_underlying q,run_underlying l,i,Conv.intToInt,bJ]
  ·cases b
 ·cases b
theorem anI (d:∀t,(slot t).Rel S (aY N blk g) w g (a.tmps.getD t undef)):∀(e:List Operand) (c:List Nat),F7 slot e=some c->c.map g=(e.map a.eval).map some
 | [],c,h=>by simp[F7]at h;subst h;rfl
 | x::r,c,h=>by
  unfold F7 at h;split at h
  ·rename_i l f i m;injection h with h
   subst h;have:=pR d x;rw[i]at this;obtain⟨b,k,j⟩:=this;simp only[Lj,anI d r f m,j,k]
  ·cases h
theorem aj_ {t:TypeId}{x y:Operand}(J:iZ S)(ho:o.op= .makeSlice t x y)(B:∀t C,T t=some C->eP P t C)(h:Hp S w0 N blk g al w)(V:∀n,fr<=n->n < fr+64->¬al n)(G:(aG slot x).Rel S (aY N blk g) w g (a.eval x))
  (E:(aG slot y).Rel S (aY N blk g) w g (a.eval y)) (c:atH T S fr t (aG slot x) (aG slot y)=some out) (hp:nH out.pre) (hK:Post S w0 N blk g al w fr out o.dst a K):o.wp P a w K Q:=by
 unfold atH at c;split at c
 ·cases c
 ·rename_i C O;split at c
  ·cases c
  ·rename_i e X;split at c
   ·cases c
   ·rename_i u Y;have U:=lF (B _ _ O) X;obtain⟨i,z,hi,hz,I,q2,q3⟩:=EM (B _ _ Y);split at c
    ·rename_i k n k' m R FU;rw[R]at G;rw[FU]at E;simp only[Sl.Rel,Sv.Rel,Lf.Rel]at G E;split at c
     ·rename_i hc;simp only[jA]at hc;have e2:0 < u.size:=by simp_all
      have e3:=Qa hc.2;have W:z.cells.size=u.size:=by grind
      split at c
      ·rename_i d hd;injection c with c
       subst c;obtain⟨rfl,p1,p2,p3⟩:=hp;obtain⟨p,z2,z3⟩:=J.zero _ _ _ _ hd;have f:S.size d=u.size:=by grind
       have F:=run_make (P:=P) w t e i z U hi hz k k' n n p1 (ZU _) qg au;have s:(execOp a.eval o).run P w= .ok (.value (.slice (some ⟨w.heap.size,0,none⟩) n.toNat n.toNat)) (w.alloc (.cells (madeCells z.cells (n.toNat*i.size)) e)):=by
        simp only[execOp,ho,G,E,Sem.run_bind,F,Result.andThen_ok,Sem.run_pure]
       have hB:Below w.heap.size w (w.alloc (.cells (madeCells z.cells (n.toNat*i.size)) e)):=(Below.refl w.heap.size w).alloc (rC _) _;obtain⟨g1,g2,g3⟩:=h.add (l:=fr) (bk:= .row e d) (v:= .slice (some ⟨w.heap.size,0,none⟩) n.toNat n.toNat) hB (V fr (rC _) au) (fun b D=>by simp[eH]at D;omega)
        (fun M' hk _=>by
         refine⟨⟨fun b D=> .inl ?_,by rw[p];omega,J.amO _ _ _ _ hd⟩,(madeCells z.cells (n.toNat*i.size)).toList,⟨?_, .inr ⟨w.heap.size,n.toNat,_,by rw[p],Jd _,heap_alloc_new w _,by omega,by simp only[maxLen];omega,?_,?_⟩⟩,fun M j q r=> ?_⟩
         ·simp only[eH,TC]at D;have:=h.below.size;omega
         ·rw[Qc8,size_madeCells,p,f,I]
         ·rw[size_madeCells,f,I]
         ·rw[Qcz];rw[Qc8,size_madeCells,p,f,I];omega
         ·rw[p]at q;obtain⟨x0,A,Z⟩:=z3 M j q r;have hlt:=vH q r;have aa:j < z.cells.size:=by omega
          have H:(M*S.size d+j) % z.cells.size=j:=by rw[W,<-f,Qb0,Qeg,Qcs r]
          refine⟨z.cells[j],?_,J.data _ _ _ au r,Z.rel ?_⟩
          ·have L:M*S.size d+j < n.toNat*i.size:=by grind
           simp[madeCells,L,H,aa]
          ·have ab:u.zero[j]? =some z.cells[j]:=by grind
           simp only[Qb4,ab,ZR,TC]at A;rw[<-A];exact(Cc _).norm)
       exact lL s (hK _ _ _ g3 g2 (g1.weaken Xy) (upd_same _ _ _))
      ·cases c
     ·cases c
    ·cases c
end
end Go.Vc
