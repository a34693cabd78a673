/- Own engine: Vd4, Vd5, Vd6, Vd7, Vdf. -/
import Derived.Test.YtenjnekcoapajaaGreatDoorEng1
import Derived.WalkSpells
import Derived.Maps.AppendAt
import Derived.Laws.MakeOwn
set_option linter.unusedVariables false
set_option linter.unusedSimpArgs false
namespace Go.Vc
open Go.RowKit
def jc {a:Type}:(Nat->a)->List (Nat×a)->(Nat->a)
 | f,[]=>f
 | f,(k,v)::r=>jc (upd f k v) r
def aD5 {D:Type}:Dl D->Option Pv
 | .bool b=>some (.bool b)
 | .int k n=>some (.int k n)
 | .str s=>some (.str s)
 | _=>none
def OL {D:Type}:List (Dl D)->Option (List Pv)
 | []=>some []
 | x::a=>(match aD5 x,OL a with
  | some p,some b=>some (p::b)
  | _,_=>none)
def Lf.Le {D:Type}(S:Sh D)(x y:Lf D):Prop:=x=y\/(x= .val (.slice none 0 0)/\∃d,y= .dat d/\S.len d=0/\S.mp d=none)\/(∃b,x= .val (.bool b)/\y= .bool b)\/(∃t e a c,x= .xt (.ifd t e a)/\y= .Xw (some ⟨t,e,c⟩)/\OL a=some c)\/∃d,x= .xt (.clip d)/\y= .dat d
structure ShOk {D:Type}(S:Sh D):Prop where
 make:∀e n cs d,S.make e n cs=some d->S.len d=n/\cs.length=n*S.size d/\
  ∀i j,i < n->j < S.size d->∃x,cs[i*S.size d+j]? =some x/\x.Le S (S.cell d i j)
 data:∀d i j,i < S.len d->j < S.size d->(S.cell d i j).jr=true
 zero:∀e n zs d,S.zero e n zs=some d->S.len d=n/\zs.length=S.size d/\∀i j,i < n->j < S.size d->∃x,zs[j]? =some x/\x.Le S (S.cell d i j)
 set:∀d i j xs d',S.set d i j xs=some d'->i < S.len d->S.size d'=S.size d/\S.len d'=S.len d/\
  ∀i' j',i' < S.len d->j' < S.size d->(i'=i/\j<=j'/\j' < j+xs.length->∃x,xs[j' - j]? =some x/\x.Le S (S.cell d' i' j'))/\(¬(i'=i/\j<=j'/\j' < j+xs.length)->S.cell d' i' j'=S.cell d i' j')
 cat:∀d1 d2 d,S.cat d1 d2=some d->S.size d1=S.size d/\S.size d2=S.size d/\S.len d=S.len d1+S.len d2/\
  (∀i j,i < S.len d1->S.cell d i j=S.cell d1 i j)/\∀i j,i < S.len d2->S.cell d (S.len d1+i) j=S.cell d2 i j
 sub:∀d i j d',S.sub d i j=some d'->i<=j->j<=S.len d->S.size d'=S.size d/\S.len d'=j - i/\∀k c,k < j - i->S.cell d' k c=S.cell d (i+k) c
 text:∀e s d,S.text e s=some d->S.size d=1/\S.len d=s.length/\∀i,i < s.length->S.cell d i 0= .int .u8 (s.getD i 0).toNat
 Xy:∀e n cs d,S.make e n cs=some d->S.mp d=none
 axr:∀e n zs d,S.zero e n zs=some d->S.mp d=none
 aCR:∀d i j xs d',S.set d i j xs=some d'->S.mp d=none->S.mp d'=none
 axp:∀d1 d2 d,S.cat d1 d2=some d->S.mp d=none
 EN:∀d i j d',S.sub d i j=some d'->S.mp d=none/\S.mp d'=none
 aGb:∀e s d,S.text e s=some d->S.mp d=none
 x8:∀d m,S.mp d=some m->S.len d=0/\S.size d=0/\aA5 S m
 axq:∀t d,S.aqM t=some d->∃m,S.mp d=some m/\m.kvs=[]
 aGa:∀i d,S.MB i=some d->S.mp d=none
theorem ShOk.aBl {D:Type}{S:Sh D}(h:ShOk S){d:D}(b:0 < S.size d):S.mp d=none:=by
 cases a:S.mp d with
 | none=>rfl
 | some m=>have:=(h.x8 d m a).2.1;omega
def eF {D:Type}(S:Sh D)(M:Nat->Prop)(w:World)(g:Nat->Option Value):List (Sl D)->List Value->Prop
 | [],[]=>True
 | x::b,v::a=>x.Rel S M w g v/\eF S M w g b a
 | _,_=>False
def noG:Nat->Option Value:=fun _=>none
def jD {D:Type}(a:List (Bk D)):Nat->Option (Bk D):=fun i=>a[i]?
structure CtOk {D:Type}(P:Program)(S:Sh D)(f:FuncId)(ct:Ct D):Prop where
 enters:∀(args:Array Value) (w:World),(callFunc f args).run P w= .ok (.enter f args) w
 calls:∀(X N:Nat->Prop) (g:Nat->Option Value) (w:World) (args:List Value) (lq:List (Sl D)) (bY:List (Bk D)) (p:Option DP) (r:Sl D) (post:List (Nat×Bk D)) (keep:List Nat),
  Hp S ⟨w,X⟩ N (jD bY) g (· < bY.length) w->eF S (aS N (jD bY) g) w g lq args->ct lq bY=some (p,r,post,keep)->lG p->
  Calls P f args.toArray w fun e w'=>∃v g',e= .returned v/\More g g'/\Hp S ⟨w,X⟩ N (yf post keep bY) g' (fun _=>True) w'/\r.Rel S (aS N (yf post keep bY) g') w' g' v
section
variable {D:Type}{P:Program}{S:Sh D}{T:TypeId->Option Ty}{M N:Nat->Prop}{w w':World}{w0:Bs}{g:Nat->Option Value}{blk:Nat->Option (Bk D)}{al:Nat->Prop}
 {a:Act} {o:Oper} {K:Act->World->Prop} {Q:Exit->Act->World->Prop} {slot:Nat->Sl D} {out:Out D} {fr:Nat}
def Post (S:Sh D)(f:Bs)(N:Nat->Prop)(c:Nat->Option (Bk D))(g:Nat->Option Value)(h:Nat->Prop)(w:World)(e:Nat)(b:Out D)(d:Option Tmp)(a:Act)(K:Act->World->Prop):Prop:=
 ∀v w' g',More g g'->Keeps (aS N c g) w (aS N (jc c b.blks) g') w'->Hp S f N (jc c b.blks) g' (fun n=>h n\/(e<=n/\n < e+64)) w'->
  b.val.Rel S (aS N (jc c b.blks) g') w' g' v->K (a.put d v) w'
theorem Hp.weaken {a:Nat->Prop}(h:Hp S w0 N blk g al w)(c:∀n,al n->a n):Hp S w0 N blk g a w:=⟨h.below,h.hN,h.bY,h.sep,fun l v b=>c l (h.al l v b),h.refs,h.gl⟩
theorem mW {v:Value}(c:(execOp a.eval o).run P w= .ok (.value v) w')(b:K (a.put o.dst v) w'):o.wp P a w K Q:=by
 simp only[Oper.wp,c,Oper.upon_value];exact b
theorem J_ (c:(execOp a.eval o).run P w= .ok .skip w')(b:K (a.put o.dst undef) w'):o.wp P a w K Q:=by
 simp only[Oper.wp,c,Oper.upon_skip];exact b
theorem apf {v:Value}(h:Hp S w0 N blk g al w)(b:Post S w0 N blk g al w fr out o.dst a K)(d:out.blks=[])(c:out.val.Rel S (aS N blk g) w g v):K (a.put o.dst v) w:=by
 refine b v w g (More.refl _) ?_ ?_ ?_<;>rw[d]
 ·exact Keeps.refl _ _
 ·exact h.weaken fun _ h=> .inl h
 ·exact c
theorem aY {v:Value}(d:(execOp a.eval o).run P w= .ok (.value v) w)(h:Hp S w0 N blk g al w)(c:Post S w0 N blk g al w fr out o.dst a K)(e:out.blks=[])
  (b:out.val.Rel S (aS N blk g) w g v):o.wp P a w K Q:=mW d (apf h c e b)
theorem Ec (v:Value):(Jr v:Lf D).Rel S M w g v:=by
 cases v with
 | string s=>
  show(if s.data.size.ble 9223372036854775807=true then Lf.str s.data.toList else Lf.val (Value.string s):Lf D).Rel S M w g _
  split
  ·rename_i h;cases s;exact⟨by simp,by simp_all⟩
  ·rfl
 | nilIface=>exact⟨rfl,trivial⟩
 | _=>rfl
theorem E5 {x:Sl D}{v:Value}{b:Bool}(h:bOf x=some b)(a:x.Rel S M w g v):v= .bool b:=by
 unfold bOf at h;split at h
 ·injection h with h;subst h;exact a
 ·injection h with h;subst h;exact a
 ·cases h
theorem Lf.Rel.norm {x:Lf D}{v:Value}(h:x.Rel S M w g v):x.norm.Rel S M w g v:=by
 unfold Lf.norm;split
 ·exact h
 ·exact h
theorem aW.norm:∀{a:List (Lf D)} {b:List Value},aW S M w g a b->aW S M w g (a.map Lf.norm) b
 | [],[],_=>trivial
 | _::_,_::_,h=>⟨h.1.norm,aW.norm h.2⟩
theorem Sv.Rel.norm {x:Sv D}{v:Value}(h:x.Rel S M w g v):x.norm.Rel S M w g v:=by
 cases x with
 | lf x=>exact Lf.Rel.norm h
 | agg d=>obtain⟨b,a,c⟩:=h;exact⟨b,a,c.norm⟩
theorem fP.norm:∀{a:List (Sv D)} {b:List Value},fP S M w g a b->fP S M w g (a.map Sv.norm) b
 | [],[],_=>trivial
 | _::_,_::_,h=>⟨h.1.norm,fP.norm h.2⟩
theorem Sl.Rel.norm {x:Sl D}{v:Value}(h:x.Rel S M w g v):x.norm.Rel S M w g v:=by
 cases x with
 | one x=>exact Sv.Rel.norm h
 | Dh d=>obtain⟨b,a,c⟩:=h;exact⟨b,a,c.norm⟩
theorem eF.norm:∀{a:List (Sl D)} {b:List Value},eF S M w g a b->eF S M w g (a.map Sl.norm) b
 | [],[],_=>trivial
 | _::_,_::_,h=>⟨h.1.norm,eF.norm h.2⟩
theorem ug:∀(a:List Value),aW S M w g (a.map (Jr:Value->Lf D)) a
 | []=>trivial
 | v::a=>⟨Ec v,ug a⟩
theorem aoo (v:Value):(aCz v:Sl D).Rel S M w g v:=by
 cases v with
 | agg cs=>exact⟨cs.toList,by simp,ug _⟩
 | string s=>exact Ec (.string s)
 | nilIface=>exact⟨rfl,trivial⟩
 | _=>rfl
theorem mD (b:∀t,(slot t).Rel S M w g (a.tmps.getD t undef))(x:Operand):(aP slot x).Rel S M w g (a.eval x):=by
 cases x with
 | tmp t=>exact b t
 | const v=>exact aoo v
 | global n=>trivial
 | func f=>exact⟨[],rfl,rfl⟩
theorem MZ (c:∀t,(slot t).Rel S M w g (a.tmps.getD t undef)):∀(b:List Operand),eF S M w g (b.map (aP slot)) (b.map a.eval)
 | []=>trivial
 | x::b=>⟨mD c x,MZ c b⟩
theorem kY {t:TypeId}{a:Ty}(h:TyOk P t a):∃i d z e,P.info? t=some i/\P.underlying t=some d/\i.zero=some z/\
  a=⟨kindOf d,Hy P t,i.size,i.bytes,z.cells.toList,ND P d,aju d,agr P t d,e,atH d,En z,akN d⟩:=by
 unfold TyOk apL at h;split at h
 ·rename_i i d c b;split at h
  ·rename_i z f;injection h with h
   refine⟨i,d,z,a.lit,c,b,f,?_⟩;simp_all
  ·cases h
 ·cases h
theorem wZ {t:TypeId}{b:Ty}(h:TyOk P t b)(w:World):(isAgg t).run P w= .ok b.agg w:=by
 obtain⟨i,d,z,lt,c,a,e,rfl⟩:=kY h;simp only[isAgg,Sem.run_bind,run_underlying a,Result.andThen_ok,Hy,a];cases d<;>rfl
theorem kJ {t:TypeId}{a:Ty}(h:TyOk P t a)(w:World):(sizeOf t).run P w= .ok a.size w:=by
 obtain⟨i,d,z,lt,b,c,e,rfl⟩:=kY h;simp[sizeOf,typeInfo,b]
theorem Fq {t:TypeId}{a:Ty}(h:TyOk P t a)(w:World):∃z,(zeroValue t).run P w= .ok z w/\z.cells.toList=a.zero:=by
 obtain⟨i,d,z,lt,b,e,c,rfl⟩:=kY h;exact⟨z,by simp[zeroValue,typeInfo,b,c],rfl⟩
theorem lZ {t e:TypeId}{a:Ty}(h:TyOk P t a)(b:a.elem=some e):P.underlying t=some (.slice e):=by
 obtain⟨i,d,z,lt,f,c,g,rfl⟩:=kY h;cases d<;>simp[aju]at b
 grind
theorem aEI {t e:TypeId}{n:Nat}{a:Ty}(h:TyOk P t a)(b:a.arr=some (e,n)):P.underlying t=some (.array n e):=by
 obtain⟨i,d,z,lt,f,c,g,rfl⟩:=kY h;cases d<;>simp[atH]at b
 grind
theorem asZ {t:TypeId}{a:Ty}(h:TyOk P t a)(w:World):∃z,(zeroValue t).run P w= .ok z w/\z.cells.toList=a.zero/\En z=a.zag:=by
 obtain⟨i,d,z,lt,b,e,c,rfl⟩:=kY h;exact⟨z,by simp[zeroValue,typeInfo,b,c],rfl,rfl⟩
theorem mV {t:TypeId}{a:Ty}(h:TyOk P t a):∃d,P.underlying t=some d/\kindOf d=a.kind:=by
 grind [kY]
theorem Kw {t:TypeId}{k:Ty}{f b j:Nat}{g:Bool}(h:TyOk P t k)(e:k.aqN[f]? =some (b,j,g)):
  ∃c a,P.underlying t=some (.struct c)/\c[f]? =some a/\a.offset=b/\cellsIn P a.type=j/\Hy P a.type=g:=by
 obtain⟨i,d,z,lt,m,l,n,rfl⟩:=kY h;cases d with
 | struct c=>
  simp only[ND,Qb1,Qb3,Qbk]at e
  grind
 | _=>simp[ND]at e
theorem pK {t:TypeId}{n:Nat}(h:cellsIn P t=n)(b:n≠0)(w:World):(sizeOf t).run P w= .ok n w:=by
 unfold cellsIn at h;split at h
 ·unfold Program.cellsOf at h;cases a:P.info? t with
  | none=>grind
  | some i=>rw[a]at h;simp at h;simp[sizeOf,typeInfo,a,h]
 omega
theorem atB {t:TypeId}{n:Nat}(h:cellsIn P t=n)(c:n≠0)(w:World):(isAgg t).run P w= .ok (Hy P t) w:=by
 unfold cellsIn at h;split at h
 ·rename_i b;obtain⟨d,a⟩:=Qbj.1 b;simp only[isAgg,Sem.run_bind,run_underlying a,Result.andThen_ok,Hy,a];cases d<;>rfl
 omega
theorem run_loadCells (c:Addr):∀(b:List Value) (i:Nat) (a:Array Value),(∀k u,b[k]? =some u->w.cell? (c.add (i+k))=some u)->
  (loadCellsFrom c i b.length a).run P w= .ok (a++b.toArray) w
 | [],i,a,_=>by rfl
 | v::b,i,a,h=>by
  have d:=h 0 v rfl;simp only[XE]at d;have f:=run_loadCells c b (i+1) (a.push v) fun k u e=>by
   have:=h (k+1) u (by simpa using e)
   grind
  simp only[JV,loadCellsFrom,Sem.run_bind,load];simp only[Sem.run,d,Result.andThen_ok];simp_all
theorem lg (b o n:Nat):(⟨b,o,none⟩:Addr).add n=⟨b,o+n,none⟩:=by
 unfold Addr.add
 grind
theorem add_add' (a:Addr)(i j:Nat):(a.add i).add j=a.add (i+j):=by
 unfold Addr.add
 grind
theorem cell_of {b:Nat}{a:List Value}{t:TypeId}(h:w.heap[b]? =some (.cells a.toArray t (0,0)))(i:Nat):w.cell? ⟨b,i,none⟩=a[i]? :=by
 simp[World.cell?,h]
def one':Value->Bool
 | .agg _ | .tuple _=>false
 | _=>true
theorem nZ (b t:Nat):∀(c:List Value) (w:World) (a:List Value) (o i:Nat),w.heap[b]? =some (.cells a.toArray t (0,0))->o+i+c.length<=a.length->c.all one'=true->
  ∃d,(storeCells ⟨b,o,none⟩ c i).run P w= .ok () d/\d.heap[b]? =some (.cells (a.take (o+i)++(c++a.drop (o+i+c.length))).toArray t (0,0))/\
   (∀n,n≠b->d.heap[n]? =w.heap[n]?)/\d.heap.size=w.heap.size/\d.os=w.os/\d.tape=w.tape/\d.output=w.output
 | [],w,a,o,i,h,_,_=>⟨w,by rfl,by simpa using h,fun _ _=>rfl,rfl,rfl,rfl,rfl⟩
 | u::c,w,a,o,i,h,m,f=>by
  simp only[Qcm,iZ]at f;simp only[JV]at m;have j:o+i < a.length:=by omega
  have y:w.cell? ⟨b,o+i,none⟩=some a[o+i]:=by rw[cell_of h];simp[j]
  have l:w.frozen? ⟨b,o+i,none⟩=false:=by simp[World.frozen?,h]
  have e:(w.setCell ⟨b,o+i,none⟩ u).heap[b]? =some (.cells (a.set (o+i) u).toArray t (0,0)):=by
   simp[World.setCell,Qdw,h]
  obtain⟨d,A,v,s,r,q,x,p⟩:=nZ b t c (w.setCell ⟨b,o+i,none⟩ u) (a.set (o+i) u) o (i+1) e vH f.2;refine⟨d,?_,?_,fun n g=>(s n g).trans ?_,r.trans qbx,q,x,p⟩
  ·simp only[storeCells,Sem.run_bind,store,lg];have k:(Sem.store Mode.plain ⟨b,o+i,none⟩ u (Sem.pure ())).run P w= .ok () (w.setCell ⟨b,o+i,none⟩ u):=by
    cases u<;>first | (simp[one']at f;done) | simp[Sem.run,y,l]
   simp_all
  ·rw[v];congr 2;have z:(a.set (o+i) u).take (o+(i+1))=a.take (o+i)++[u]:=by
    rw[show o+(i+1)=(o+i)+1 by omega,List.take_succ_eq_append_getElem (by simpa using j),Qd9,List.set_eq_of_length_le vH];simp
   have B:(a.set (o+i) u).drop (o+(i+1)+c.length)=a.drop (o+i+(u::c).length):=by
    rw[List.drop_set_of_lt aj];congr 1;simp;omega
   grind
  ·simp only[World.setCell,Qdw]
   grind
end
end Go.Vc
namespace Go.Vc
open Go.RowKit
section
variable {D:Type}{P:Program}{S:Sh D}{T:TypeId->Option Ty}{M N:Nat->Prop}{w w':World}{w0:Bs}{g:Nat->Option Value}{blk:Nat->Option (Bk D)}{al:Nat->Prop}
 {a:Act} {o:Oper} {K:Act->World->Prop} {Q:Exit->Act->World->Prop} {slot:Nat->Sl D} {out:Out D} {fr:Nat}
theorem KD {x:Lf D}{v:Value}(m:∀l u,g l=some u->isRef u=true)(q:x.storable=true)(h:x.Rel S M w g v):one' v=true:=by
 cases x with
 | any=>simp[Lf.storable]at q
 | val u=>simp only[Lf.Rel]at h;subst h;cases v<;>first | rfl | simp[Lf.storable]at q
 | bool b=>simp only[Lf.Rel]at h;subst h;rfl
 | int k n=>simp only[Lf.Rel]at h;subst h;rfl
 | str s=>obtain⟨rfl,_⟩:=h;rfl
 | ptr l o=>obtain⟨b,_,rfl⟩:=h;rfl
 | dat d=>rcases bW.form h with⟨a,c,rfl⟩ | ⟨r,rfl⟩<;>rfl
 | elt d i j=>obtain⟨a,n,c,_,_,rfl⟩:=h;rfl
 | fn f t=>obtain⟨z,rfl,_⟩:=h;rfl
 | own l=>have:=m l v h;cases v<;>first | rfl | simp[isRef]at this
 | opt l i j y=>obtain⟨b,n,c,_,rfl⟩:=h;rfl
 | unk p=>obtain⟨b,rfl,_⟩:=h;rfl
 | part l i j y f=>obtain⟨a,n,c,_,rfl,_⟩:=h;rfl
 | glb i=>simp only[Lf.Rel]at h;subst h;rfl
 | Xw x=>obtain⟨rfl,_⟩:=h;cases x<;>rfl
 | xt e=>cases e<;>(obtain⟨u,rfl,_⟩:=h;rfl)
theorem qK {u:Sv D}{v:Value}(a:∀l u,g l=some u->isRef u=true)(c:u.whole=true)(h:u.Rel S M w g v):aW S M w g u.cells v.cells.toList:=by
 cases u with
 | lf x=>
  have b:=KD a c h;have:v.cells= #[v]:=by cases v<;>first | rfl | simp[one']at b
  rw[this];exact⟨h,trivial⟩
 | agg f=>obtain⟨e,rfl,d⟩:=h;simpa[Sv.cells,Value.cells]using d
theorem JM (a:∀l u,g l=some u->isRef u=true):∀{b:List (Lf D)} {c:List Value},b.all Lf.storable=true->aW S M w g b c->c.all one'=true
 | [],[],_,_=>rfl
 | x::b,v::c,d,h=>by
  simp only[Qcm,iZ]at d⊢;exact⟨KD a d.1 h.1,JM a d.2 h.2⟩
theorem B_ {u:Sv D}(h:u.cells.all Lf.storable=true):u.whole=true:=by
 cases u with
 | lf x=>simpa[Sv.cells,Sv.whole]using h
 | agg a=>rfl
theorem aW.append:∀{c d:List (Lf D)} {b a:List Value},aW S M w g c b->aW S M w g d a->aW S M w g (c++d) (b++a)
 | [],_,[],_,_,h=>h
 | _::_,_,_::_,_,h,e=>⟨h.1,aW.append h.2 e⟩
theorem aW.take:∀(n:Nat) {a:List (Lf D)} {b:List Value},aW S M w g a b->aW S M w g (a.take n) (b.take n)
 | 0,_,_,_=>by simp[aW]
 | _+1,[],[],_=>by simp[aW]
 | n+1,_::_,_::_,h=>⟨h.1,aW.take n h.2⟩
theorem aW.drop:∀(n:Nat) {a:List (Lf D)} {b:List Value},aW S M w g a b->aW S M w g (a.drop n) (b.drop n)
 | 0,_,_,h=>by simpa using h
 | _+1,[],[],_=>by simp[aW]
 | n+1,_::_,_::_,h=>by simpa using aW.drop n h.2
theorem aW.putAt {d c:List (Lf D)}{a b:List Value}(h:aW S M w g d a)(e:aW S M w g c b)(o:Nat):aW S M w g (putAt d o c) (a.take o++(b++a.drop (o+b.length))):=by
 unfold Vc.putAt
 grind [append,drop,length,take]
theorem Og (h:Hp S w0 N blk g al w){l:Nat}{cs:List (Lf D)}(c:blk l=some (.cells cs)){b:Nat}(d:g l=some (.pointer (some ⟨b,0,none⟩))):
  ∃a t,w.heap[b]? =some (.cells (List.toArray a) t (0,0))/\aW S (aS N blk g) w g cs a:=by
 obtain⟨v,f,i,a,t,rfl,_,e,j⟩:=h.bY l _ c
 grind
theorem Y7 {e:TypeId}{cs:List (Lf D)}{vs:Array Value}(h:Hp S w0 N blk g al w)(hfr:∀n,fr<=n->n < fr+64->¬al n)(p:(execOp a.eval o).run P w= .ok (.value (.pointer (some ⟨w.heap.size,0,none⟩))) (w.alloc (.cells vs e)))
  (f:aW S (aS N blk g) w g cs vs.toList) (m:Post S w0 N blk g al w fr ⟨none, .one (.lf (.ptr fr 0)),[(fr,some (.cells cs))]⟩ o.dst a K):o.wp P a w K Q:=by
 obtain⟨c,q,k⟩:=h.add (l:=fr) (bk:= .cells cs) (v:= .pointer (some ⟨w.heap.size,0,none⟩)) ((Below.refl w.heap.size w).alloc (pJ _) (.cells vs e)) (hfr fr (pJ _) aj) (fun b j=>by simp[dE]at j;omega)
  (fun M' d _=>⟨w.heap.size,vs.toList,e,rfl, .inl h.below.size,heap_alloc_new w _,f.keep d (fun l v hl=>by rw[bM _ _ _ _ qa2];exact hl)⟩)
 exact mW p (m _ _ _ k q (c.weaken fun n i=>i.elim .inl fun e=> .inr ⟨Qdf e.symm,by omega⟩) ⟨w.heap.size,upd_same _ _ _,rfl⟩)
theorem ae5 {t:TypeId}{d:Ty}(f:o.op= .alloc t)(j:TyOk P t d)(h:Hp S w0 N blk g al w)(b:∀n,fr<=n->n < fr+64->¬al n)
  (k:Post S w0 N blk g al w fr ⟨none, .one (.lf (.ptr fr 0)),[(fr,some (.cells (d.zero.map Jr)))]⟩ o.dst a K):o.wp P a w K Q:=by
 obtain⟨z,i,c⟩:=Fq j w;refine Y7 (vs:=z.cells) (e:=t) h b ?_ (by rw[c];exact ug _) k;simp[execOp,f,Instr.alloc,i,newVar,newRow,newObj,Sem.run]
theorem ann {t:TypeId}{x:Operand}{u:Sv D}(c:o.op= .box t x)(h:Hp S w0 N blk g al w)(b:∀n,fr<=n->n < fr+64->¬al n)(f:u.Rel S (aS N blk g) w g (a.eval x))(d:u.whole=true)
  (i:Post S w0 N blk g al w fr ⟨none, .one (.lf (.ptr fr 0)),[(fr,some (.cells u.cells))]⟩ o.dst a K):o.wp P a w K Q:=by
 refine Y7 (vs:=(a.eval x).cells) (e:=t) h b ?_ (qK h.refs d f) i;simp[execOp,c,Instr.box,newVar,newRow,newObj,Sem.run]
theorem yN {d:D}{l:Addr}{n f i:Nat}(h:bW S M w d (.slice (some l) n f))(c:i < S.len d):∀(m j:Nat),j+m<=S.size d->
  ∃a:List Value,a.length=m/\aW S M w g (BP S d i j m) a/\∀k u,a[k]? =some u->w.cell? (l.add (i*S.size d+(j+k)))=some u
 | 0,j,_=>⟨[],rfl,trivial,fun k u b=>by simp at b⟩
 | m+1,j,s=>by
  obtain⟨u,q,p⟩:=h.cell (g:=g) c (show j < S.size d by omega);obtain⟨a,o,e,r⟩:=yN h c m (j+1) aj;refine⟨u::a,by simp[o],⟨p,e⟩,fun k x b=> ?_⟩
  grind
theorem D5 {i j n m:Nat}(a:i < n)(b:j < m):i*m+j < n*m:=by
 have:(i+1)*m<=n*m:=Qce m a
 grind
theorem SH (h:Hp S w0 N blk g al w){l i j b n o:Nat}{e:TypeId}{d:D}(r:blk l=some (.row e d))(x:g l=some (.slice (some ⟨b,0,none⟩) n o))(y:i < S.len d)(B:j < S.size d):
  ∃u,w.cell? ⟨b,i*S.size d+j,none⟩=some u/\(S.cell d i j).Rel S (aS N blk g) w g u:=by
 obtain⟨v,c,_,I,⟨C,f⟩,A⟩:=h.bY l _ r;rw[x]at c;injection c with c
 subst c;obtain⟨u,E,_,t⟩:=A i j y B;refine⟨u,?_,t⟩;rcases f with⟨q,_⟩ | ⟨G,s,k,m,_,z,_,_,_,p⟩
 ·cases q
 ·injection m with a F H
  injection a with a
  injection a with a
  subst a;have:w.cell? ⟨b,i*S.size d+j,none⟩=k[i*S.size d+j]? :=by simp[World.cell?,z]
  grind
theorem xJ (h:Hp S w0 N blk g al w){l i b n s:Nat}{e:TypeId}{d:D}(q:blk l=some (.row e d))(o:g l=some (.slice (some ⟨b,0,none⟩) n s))(f:i < S.len d):∀(m j:Nat),j+m<=S.size d->
  ∃a:List Value,a.length=m/\aW S (aS N blk g) w g (BP S d i j m) a/\∀k u,a[k]? =some u->w.cell? ⟨b,i*S.size d+(j+k),none⟩=some u
 | 0,j,_=>⟨[],rfl,trivial,fun k u c=>by simp at c⟩
 | m+1,j,v=>by
  obtain⟨u,y,t⟩:=SH h q o f (show j < S.size d by omega);obtain⟨a,r,p,z⟩:=xJ h q o f m (j+1) aj;refine⟨u::a,by simp[r],⟨t,p⟩,fun k x c=> ?_⟩
  grind
theorem aig {t:TypeId}{x:Operand}{A:Ty}(E:o.op= .load t x)(V:TyOk P t A)(ab:T t=some A)(h:Hp S w0 N blk g al w)(F:(aP slot x).Rel S (aS N blk g) w g (a.eval x))
  (c:PL T S blk t (aP slot x)=some out) (W:lG out.pre) (G:Post S w0 N blk g al w fr out o.dst a K):o.wp P a w K Q:=by
 have p:=wZ V w;have I:=kJ V w;simp only[PL,ab]at c;split at c
 ·
  rename_i l q H;rw[H]at F;obtain⟨b,J,C⟩:=F;split at c
  ·rename_i cs L;obtain⟨s,t',hh,r⟩:=Og h L J;split at c
   ·rename_i m;split at c
    ·rename_i z;injection c with c
     subst c;have hle':q+A.size<=s.length:=by rw[<-r.length];simp_all
     have f:=run_loadCells (P:=P) (w:=w) ⟨b,q,none⟩ ((s.drop q).take A.size) 0 #[] (fun k u X=>by
      grind [lg,cell_of])
     rw[show((s.drop q).take A.size).length=A.size by simp;omega]at f;refine aY (v:= .agg ((s.drop q).take A.size).toArray) ?_ h G rfl ⟨_,rfl,(r.drop q).take _⟩;simp[execOp,E,Instr.loadAt,Instr.sureAddr,C,loadVar,p,m,I,loadCells,f]
    ·cases c
   ·rename_i m;split at c
    ·rename_i y hy;injection c with c
     subst c;obtain⟨v,Y,M⟩:=r.get q hy;refine aY (v:=v) ?_ h G rfl M;simp[execOp,E,Instr.loadAt,Instr.sureAddr,C,loadVar,p,m,load,Sem.run,cell_of hh,Y]
    ·cases c
  ·cases c
 ·
  rename_i d i j H;rw[H]at F;obtain⟨ad,n,aa,U,hi,C⟩:=F;split at c
  ·rename_i m;split at c
   ·rename_i z;injection c with c
    subst c;obtain⟨s,R,r,hc⟩:=yN (g:=g) U hi A.size j (Qat z);have f:=run_loadCells (P:=P) (w:=w) (ad.add (i*S.size d+j)) s 0 #[] (fun k u X=>by
     grind [add_add'])
    rw[R]at f;refine aY (v:= .agg s.toArray) ?_ h G rfl ⟨_,rfl,r⟩;simp[execOp,E,Instr.loadAt,Instr.sureAddr,C,loadVar,p,m,I,loadCells,f]
   ·cases c
  ·rename_i m;split at c
   ·rename_i B;injection c with c
    subst c;obtain⟨u,O,r⟩:=U.cell (g:=g) hi (by simpa[Qcp]using B);refine aY (v:=u) ?_ h G rfl r;simp[execOp,E,Instr.loadAt,Instr.sureAddr,C,loadVar,p,m,load,Sem.run,O]
   ·cases c
 ·
  rename_i l i j Z H;rw[H]at F;obtain⟨b,n,aa,J,C⟩:=F;split at c
  ·rename_i e d L;split at c
   ·rename_i m;split at c
    ·rename_i z;injection c with c
     subst c;simp only[iZ]at z;have D:Z=S.size d:=Qa z.2;subst D;obtain⟨s,R,r,hc⟩:=xJ h L J W A.size j (Qat z.1);have f:=run_loadCells (P:=P) (w:=w) ⟨b,i*S.size d+j,none⟩ s 0 #[] (fun k u X=>by
      grind [lg])
     rw[R]at f;refine aY (v:= .agg s.toArray) ?_ h G rfl ⟨_,rfl,r⟩;simp[execOp,E,Instr.loadAt,Instr.sureAddr,C,loadVar,p,m,I,loadCells,f]
    ·cases c
   ·rename_i m;split at c
    ·rename_i B;injection c with c
     subst c;simp only[iZ]at B;have D:Z=S.size d:=Qa B.2;subst D;obtain⟨u,O,r⟩:=SH h L J W (by simpa[Qcp]using B.1);refine aY (v:=u) ?_ h G rfl r;simp[execOp,E,Instr.loadAt,Instr.sureAddr,C,loadVar,p,m,load,Sem.run,O]
    ·cases c
  ·cases c
 ·cases c
theorem an4 {t:TypeId}{x:Sl D}{v:Value}{s:Ty}(M:TyOk P t s)(W:T t=some s)(h:Hp S w0 N blk g al w)(K:x.Rel S (aS N blk g) w g v)
  (a:PL T S blk t x=some out) (O:lG out.pre):∃G u,v= .pointer (some G)/\(loadVar t G).run P w= .ok u w/\out.val.Rel S (aS N blk g) w g u:=by
 have m:=wZ M w;have C:=kJ M w;simp only[PL,W]at a;split at a
 ·
  rename_i l o;obtain⟨b,E,A⟩:=K;split at a
  ·rename_i cs F;obtain⟨q,t',Z,p⟩:=Og h F E;split at a
   ·rename_i f;split at a
    ·rename_i r;injection a with a
     subst a;have hle':o+s.size<=q.length:=by rw[<-p.length];simp_all
     have c:=run_loadCells (P:=P) (w:=w) ⟨b,o,none⟩ ((q.drop o).take s.size) 0 #[] (fun k u Q=>by
      grind [lg,cell_of])
     rw[show((q.drop o).take s.size).length=s.size by simp;omega]at c;exact⟨_, .agg ((q.drop o).take s.size).toArray,A,by simp[loadVar,m,f,C,loadCells,c],⟨_,rfl,(p.drop o).take _⟩⟩
    ·cases a
   ·rename_i f;split at a
    ·rename_i y Y;injection a with a
     subst a;obtain⟨v,R,H⟩:=p.get o Y;exact⟨_,v,A,by simp[loadVar,m,f,load,Sem.run,cell_of Z,R],H⟩
    ·cases a
  ·cases a
 ·
  rename_i d i j;obtain⟨G,n,V,L,X,A⟩:=K;split at a
  ·rename_i f;split at a
   ·rename_i r;injection a with a
    subst a;obtain⟨q,J,p,hc⟩:=yN (g:=g) L X s.size j (Qat r);have c:=run_loadCells (P:=P) (w:=w) (G.add (i*S.size d+j)) q 0 #[] (fun k u Q=>by
     grind [add_add'])
    rw[J]at c;exact⟨_, .agg q.toArray,A,by simp[loadVar,m,f,C,loadCells,c],⟨_,rfl,p⟩⟩
   ·cases a
  ·rename_i f;split at a
   ·rename_i z;injection a with a
    subst a;obtain⟨u,I,p⟩:=L.cell (g:=g) X (by simpa[Qcp]using z);exact⟨_,u,A,by simp[loadVar,m,f,load,Sem.run,I],p⟩
   ·cases a
 ·
  rename_i l i j U;obtain⟨b,n,V,E,A⟩:=K;split at a
  ·rename_i e d F;split at a
   ·rename_i f;split at a
    ·rename_i r;injection a with a
     subst a;simp only[iZ]at r;have B:U=S.size d:=Qa r.2;subst B;obtain⟨q,J,p,hc⟩:=xJ h F E O s.size j (Qat r.1);have c:=run_loadCells (P:=P) (w:=w) ⟨b,i*S.size d+j,none⟩ q 0 #[] (fun k u Q=>by
      grind [lg])
     rw[J]at c;exact⟨_, .agg q.toArray,A,by simp[loadVar,m,f,C,loadCells,c],⟨_,rfl,p⟩⟩
    ·cases a
   ·rename_i f;split at a
    ·rename_i z;injection a with a
     subst a;simp only[iZ]at z;have B:U=S.size d:=Qa z.2;subst B;obtain⟨u,I,p⟩:=SH h F E O (by simpa[Qcp]using z.1);exact⟨_,u,A,by simp[loadVar,m,f,load,Sem.run,I],p⟩
    ·cases a
  ·cases a
 ·cases a
end
end Go.Vc
namespace Go.Vc
open Go.RowKit
section
variable {D:Type}{P:Program}{S:Sh D}{T:TypeId->Option Ty}{M N:Nat->Prop}{w w':World}{w0:Bs}{g:Nat->Option Value}{blk:Nat->Option (Bk D)}{al:Nat->Prop}
 {a:Act} {o:Oper} {K:Act->World->Prop} {Q:Exit->Act->World->Prop} {slot:Nat->Sl D} {out:Out D} {fr:Nat}
theorem adh {x:Dl D}{p:Pv}{v:Value}(h:aD5 x=some p)(a:x.Rel S M w v):v=p.val/\p.fits:=by
 unfold aD5 at h;split at h<;>first | (injection h with h;subst h;exact⟨a,trivial⟩) | (injection h with h;subst h;exact a) | (cases h;done)
theorem Yl:∀{c:List (Dl D)} {a:List Pv} {b:List Value},OL c=some a->ul S M w c b->b=a.map Pv.val/\∀p∈a,p.fits
 | [],a,[],h,_=>by simp[OL]at h;grind
 | x::c,a,v::b,h,d=>by
  unfold OL at h;split at h
  ·rename_i p g e f;injection h with h
   subst h;obtain⟨k,j⟩:=adh e d.1;obtain⟨i,l⟩:=Yl f d.2
   grind
  ·cases h
theorem auX {f:Bool}{d:List (Dl D)}{e:List Pv}{t:TypeId}{u:Value}(h:OL d=some e)(a:Ou S M w f d u):Value.iface t u=ajT (some ⟨t,f,e⟩)/\∀p∈e,p.fits:=by
 cases f with
 | true=>
  obtain⟨j,rfl,a⟩:=a;obtain⟨c,b⟩:=Yl h a;exact⟨by rw[c];rfl,b⟩
 | false=>
  match d,a with
  | [x],a=>
   have a:x.Rel S M w u:=a;unfold OL at h;split at h
   ·rename_i p i c b;injection h with h
    subst h;injection b with b
    subst b;obtain⟨g,k⟩:=adh c a;refine⟨by rw[g];rfl,fun p l=> ?_⟩
    grind
   ·cases h
theorem Lf.Le.rel {x y:Lf D}{v:Value}(h:x.Le S y)(a:x.Rel S M w g v):y.Rel S M w g v:=by
 rcases h with rfl | ⟨rfl,d,rfl,c,f⟩ | ⟨b,rfl,rfl⟩ | ⟨t,o,m,n,rfl,rfl,l⟩ | ⟨d,rfl,rfl⟩
 ·exact a
 ·simp only[Lf.Rel]at a;subst a;intro w' _;have:=CS.mk (S:=S) (w:=w') d f none 0 (fun _ _=> .bool false) aj aj (fun i j e _=>by omega) (fun i j e _=>by omega) (fun i j _ e _=>by omega)
  grind
 ·exact a
 ·obtain⟨u,rfl,k⟩:=a;exact auX l k
 ·obtain⟨_,_,c⟩:=a;exact c
theorem age {t:TypeId}{x y:Operand}{ty:Ty}(ho:o.op= .store t x y)(hT:TyOk P t ty)(hTT:T t=some ty)(h:Hp S w0 N blk g al w)(hx:(aP slot x).Rel S (aS N blk g) w g (a.eval x))
  (hy:(aP slot y).Rel S (aS N blk g) w g (a.eval y)) (c:acN T S blk t (aP slot x) (aP slot y)=some out) (hS:ShOk S) (hp:lG out.pre) (hK:Post S w0 N blk g al w fr out o.dst a K):o.wp P a w K Q:=by
 have hsz:=kJ hT w;unfold acN at c;split at c
 ·rename_i ty' l H u f Y Gy;rw[hTT]at f;injection f with f
  subst f;rw[Y]at hx;rw[Gy]at hy;obtain⟨b,G,hv⟩:=hx;split at c
  ·rename_i cs C;split at c
   ·rename_i O;injection c with c
    subst c;simp only[iZ]at O;obtain⟨⟨U,I⟩,Z⟩:=O;have U:=Qa U;have I:=Qat I;obtain⟨vs,t',hh,hr⟩:=Og h C G;have B:=qK h.refs (B_ Z) hy;have hlen:=B.length;obtain⟨w',A,L,hn,hs,p,M,V⟩:=nZ (P:=P) b t' (a.eval y).cells.toList w vs H 0 hh (by rw[<-hr.length];omega) (JM h.refs Z B);have r:(execOp a.eval o).run P w= .ok .skip w':=by
     have E:(a.eval y).cells.size=ty.size:=by grind
     simp[execOp,ho,Instr.storeAt,Instr.sureAddr,hv,storeVar,hsz,E,A]
    obtain⟨X,W⟩:=h.write (bk':= .cells (putAt cs H u.cells)) C rfl rfl G rfl p M V hs hn (fun hk=>by
     refine⟨b,_,t',rfl,(vk.lt (h.bY l _ C).choose_spec.2 rfl (by rw[Qdn ((h.bY l _ C).choose_spec.1.symm.trans G)];rfl)).2,L,?_⟩;simpa using(hr.putAt B (H+0)).keep hk (More.refl _))
    exact J_ r (hK _ _ _ (More.refl _) W (X.weaken fun _ h=> .inl h) trivial)
   ·cases c
  ·cases c
 ·rename_i ty' l i j sz u f Y Gy;rw[hTT]at f;injection f with f
  subst f;rw[Y]at hx;rw[Gy]at hy;obtain⟨b,n,cap,G,hv⟩:=hx;split at c
  ·rename_i e d C;split at c
   ·rename_i O;split at c
    ·rename_i d' R;injection c with c
     subst c;simp only[iZ]at O;obtain⟨⟨⟨U,I⟩,h4⟩,Z⟩:=O;have U:=Qa U;have I:=Qat I;have h4:=Qa h4;subst h4;have hp:i < S.len d:=hp;obtain⟨es,el,ec⟩:=hS.set _ _ _ _ _ R hp;obtain⟨v,F,hm,xs,⟨hxl,hown⟩,hcell⟩:=h.bY l _ C;rw[G]at F;injection F with F
     subst F;have B:=qK h.refs (B_ Z) hy;have hlen:=B.length;rcases hown with⟨h0,_⟩ | ⟨b',cap',k,hvv,_,hh,hnc,hcm,hcs,htake⟩
     ·cases h0
     ·injection hvv with p M V
      injection p with p
      injection p with p
      subst p M V;have hh':w.heap[b]? =some (.cells (k.toList).toArray e (0,0)):=by simpa using hh
      have hrow:i*S.size d+S.size d<=S.len d*S.size d:=by rw[<-Nat.succ_mul];exact Qce _ hp
      have hcap:S.len d*S.size d<=k.toList.length:=by grind
      obtain⟨w',A,L,hn,hs,p,M,V⟩:=nZ (P:=P) b e (a.eval y).cells.toList w k.toList (i*S.size d+j) 0 hh' aj (JM h.refs Z B);have r:(execOp a.eval o).run P w= .ok .skip w':=by
       have E:(a.eval y).cells.size=ty.size:=by grind
       simp[execOp,ho,Instr.storeAt,Instr.sureAddr,hv,storeVar,hsz,E,A]
      generalize hus:(a.eval y).cells.toList=J at*;obtain⟨X,W⟩:=h.write (bk':= .row e d') C rfl rfl G rfl p M V hs hn (fun hk=>by
       refine⟨⟨hm.1,by omega,hS.aCR _ _ _ _ _ R hm.2.2⟩,(k.toList.take (i*S.size d+j+0)++(J++k.toList.drop (i*S.size d+j+0+J.length))).take (S.len d*S.size d),⟨?_, .inr ⟨b,cap,(k.toList.take (i*S.size d+j+0)++(J++k.toList.drop (i*S.size d+j+0+J.length))).toArray,by rw[el],Gw _,L,by omega,hcm,?_,by rw[el,es]⟩⟩,fun m q z s=> ?_⟩
       ·grind
       ·grind
       ·rw[el]at z;rw[es]at s;rw[es];have hlt:=D5 z s;obtain⟨uo,hxo,hdo,hro⟩:=hcell m q z s;have hold:k.toList[m*S.size d+q]? =some uo:=by grind
        rw[Qd6,vJ hlt];by_cases hin:m=i/\j<=q/\q < j+u.cells.length
        ·obtain⟨rfl,hj1,hj2⟩:=hin;obtain⟨x,hx1,hx2⟩:=(ec m q z s).1 ⟨rfl,hj1,by simpa using hj2⟩;obtain⟨uv,huv,hrv⟩:=B.norm.get (q - j) hx1;refine⟨uv,?_,hS.data _ _ _ aj aj,?_⟩
         ·rw[Qbo vH,Qdi dm,<-huv];congr 1;simp only[Iq];omega
         ·exact(hx2.rel hrv).keep hk (More.refl _)
        ·rw[(ec m q z s).2 (by simpa using hin)];refine⟨uo,?_,hdo,hro.keep hk (More.refl _)⟩;rw[<-hold];have D:m*S.size d+q < i*S.size d+j\/i*S.size d+j+J.length<=m*S.size d+q:=by
          rcases Nat.lt_trichotomy m i with hlt' | rfl | hgt
          ·left
           have:(m+1)*S.size d<=i*S.size d:=Qce _ hlt'
           grind
          ·omega
          ·right
           have:(i+1)*S.size d<=m*S.size d:=Qce _ hgt
           grind
         rcases D with D | D
         ·rw[Qdi qbi,Qd6,vJ aj]
         ·rw[Qbo qbi,Qbo qbi,Qd5];congr 1;simp only[Iq];omega)
      exact J_ r (hK _ _ _ (More.refl _) W (X.weaken fun _ h=> .inl h) trivial)
    ·cases c
   ·cases c
  ·cases c
 ·cases c
theorem afw {t:TypeId}{x:Operand}{f:Nat}{J:Ty}(E:o.op= .fieldAddr t x f)(F:TyOk P t J)(M:T t=some J)(h:Hp S w0 N blk g al w)(s:(aP slot x).Rel S (aS N blk g) w g (a.eval x))
  (c:abK T t (aP slot x) f=some out) (H:Post S w0 N blk g al w fr out o.dst a K):o.wp P a w K Q:=by
 simp only[abK,M]at c;split at c
 ·rename_i m C _ l I r u;rw[u]at s;obtain⟨b,G,A⟩:=s;obtain⟨L,O,B,y,p,q,_⟩:=Kw F r;split at c
  ·cases c
  ·rename_i k;have k:C≠0:=fun e=>k (by simp[e])
   injection c with c
   subst c;refine aY (v:= .pointer (some ⟨b,I+m,none⟩)) ?_ h H rfl ⟨b,G,rfl⟩;simp[execOp,E,Instr.fieldAt,run_underlying B,y,A,Instr.sureAddr,fieldPlace,pK q k,k,p,lg]
 ·rename_i m C _ d i j r u;rw[u]at s;obtain⟨R,n,D,U,V,A⟩:=s;obtain⟨L,O,B,y,p,q,_⟩:=Kw F r;split at c
  ·cases c
  ·rename_i k;have k:C≠0:=fun e=>k (by simp[e])
   injection c with c
   subst c;refine aY (v:= .pointer (some (R.add (i*S.size d+(j+m))))) ?_ h H rfl ⟨R,n,D,U,V,rfl⟩;simp[execOp,E,Instr.fieldAt,run_underlying B,y,A,Instr.sureAddr,fieldPlace,pK q k,k,p,add_add',Qe]
 ·rename_i m C _ l i j z r u;rw[u]at s;obtain⟨b,n,D,G,A⟩:=s;obtain⟨L,O,B,y,p,q,_⟩:=Kw F r;split at c
  ·cases c
  ·rename_i k;have k:C≠0:=fun e=>k (by simp[e])
   injection c with c
   subst c;refine aY (v:= .pointer (some ⟨b,i*z+(j+m),none⟩)) ?_ h H rfl ⟨b,n,D,G,rfl⟩;simp[execOp,E,Instr.fieldAt,run_underlying B,y,A,Instr.sureAddr,fieldPlace,pK q k,k,p,lg,Qe]
 ·cases c
theorem ajd {t:TypeId}{x:Operand}{f:Nat}{r:Ty}(q:o.op= .field t x f)(J:TyOk P t r)(D:T t=some r)(h:Hp S w0 N blk g al w)(s:(aP slot x).Rel S (aS N blk g) w g (a.eval x))
  (b:amF T t (aP slot x) f=some out) (F:Post S w0 N blk g al w fr out o.dst a K):o.wp P a w K Q:=by
 simp only[amF,D]at b;split at b
 ·rename_i d C M cs E H;rw[H]at s;obtain⟨G,A,u⟩:=s;obtain⟨O,R,B,p,k,l,n⟩:=Kw J E;split at b
  ·cases b
  ·rename_i c;have c:C≠0:=fun e=>c (by simp[e])
   have j:=fun w=>atB l c w
   rw[n]at j;split at b
   ·rename_i i;split at b
    ·rename_i L;injection b with b
     subst b;refine aY (v:= .agg ((G.drop d).take C).toArray) ?_ h F rfl ⟨_,rfl,(u.drop d).take _⟩;simp[execOp,q,Instr.field,run_underlying B,p,A,asAgg,part,j,i,pK l c,k]
    ·cases b
   ·rename_i i;split at b
    ·rename_i y I;injection b with b
     subst b;obtain⟨v,z,m⟩:=u.get d I;refine aY (v:=v) ?_ h F rfl m;simp[execOp,q,Instr.field,run_underlying B,p,A,asAgg,part,j,i,k,z]
    ·cases b
 ·cases b
theorem XU {x:Operand}{i:Nat}(f:o.op= .extract x i)(h:Hp S w0 N blk g al w)(e:(aP slot x).Rel S (aS N blk g) w g (a.eval x))
  (b:VF (aP slot x) i=some out) (m:Post S w0 N blk g al w fr out o.dst a K):o.wp P a w K Q:=by
 unfold VF at b;split at b
 ·rename_i q k;rw[k]at e;obtain⟨p,j,n⟩:=e;split at b
  ·rename_i y l;injection b with b
   subst b;obtain⟨v,d,c⟩:=n.get i l;refine aY (v:=v) ?_ h m rfl c;simp[execOp,f,Instr.extract,j,d]
  ·cases b
 ·cases b
theorem ae_ {t:TypeId}{x F:Operand}(H:o.op= .indexAddr t x F)(G:∀t I,T t=some I->TyOk P t I)(h:Hp S w0 N blk g al w)(j:(aP slot x).Rel S (aS N blk g) w g (a.eval x))
  (r:(aP slot F).Rel S (aS N blk g) w g (a.eval F)) (c:ahs T S blk t (aP slot x) (aP slot F)=some out) (J:lG out.pre) (R:Post S w0 N blk g al w fr out o.dst a K):o.wp P a w K Q:=by
 unfold ahs at c;split at c
 ·cases c
 ·rename_i I V;split at c
  ·cases c
  ·rename_i e W;split at c
   ·cases c
   ·rename_i D Z;have A:=lZ (G _ _ V) W;have z:=kJ (G _ _ Z) w;split at c
    ·rename_i d k n y B;rw[y]at j;rw[B]at r;split at c
     ·rename_i u;simp only[iZ]at u;have E:=Qa u.1;have X:0 < D.size:=by simp_all
      injection c with c
      subst c;obtain⟨m,s⟩:=J;simp only[Sl.Rel,Sv.Rel,Lf.Rel]at r;obtain⟨av,q,f,L⟩:=bW.slice j aj;have p:n.toNat < S.len d:=by omega
      rw[f]at j;obtain⟨C,rfl⟩:=bW.AZ j p aj;refine aY (v:= .pointer (some (C.add (n.toNat*S.size d+0)))) ?_ h R rfl ⟨C,_,q,j,p,rfl⟩;simp[execOp,H,Instr.indexAt,r,asIntOf,run_underlying A,f,m,s,z,E]
     ·cases c
    ·rename_i l k n y B;rw[y]at j;rw[B]at r;split at c
     ·rename_i e' d M;split at c
      ·rename_i u;simp only[iZ]at u;have E:=Qa u.1;have X:0 < D.size:=by simp_all
       injection c with c
       subst c;obtain⟨m,s⟩:=J;simp only[Sl.Rel,Sv.Rel,Lf.Rel]at r j;obtain⟨v,f,_,xs,⟨hxl,O⟩,_⟩:=h.bY l _ M;rw[j]at f;injection f with f
       rcases O with⟨h0,hz⟩ | ⟨b,q,cur,Y,_⟩
       ·omega
       ·rw[Y]at f;refine aY (v:= .pointer (some ⟨b,n.toNat*D.size+0,none⟩)) ?_ h R rfl ⟨b,_,q,j.trans (by rw[f]),rfl⟩;simp[execOp,H,Instr.indexAt,r,asIntOf,run_underlying A,f,m,s,z,lg]
      ·cases c
     ·rename_i d M;split at c
      ·rename_i u;simp only[iZ]at u;have E:=Qa u.1;have X:0 < D.size:=by simp_all
       injection c with c
       subst c;obtain⟨m,s⟩:=J;simp only[Sl.Rel,Sv.Rel,Lf.Rel]at r j;obtain⟨v,f,i⟩:=h.bY l _ M;rw[j]at f;injection f with f
       have i:bW S (aS N blk g) w d v:=i;obtain⟨av,q,U,L⟩:=bW.slice i aj;have p:n.toNat < S.len d:=by omega
       rw[U]at i f;obtain⟨C,rfl⟩:=bW.AZ i p aj;refine aY (v:= .pointer (some (C.add (n.toNat*S.size d+0)))) ?_ h R rfl ⟨C,_,q,i,p,rfl⟩;simp[execOp,H,Instr.indexAt,r,asIntOf,run_underlying A,f,m,s,z,E]
      ·cases c
     ·cases c
    ·cases c
theorem jZ {op:BinOp}{t:TypeId}{x y:Operand}{u v:Value}(a:one' u=true)(b:u≠ .nilIface):(eqGuard op t x y u v).run P w= .ok () w:=by
 cases u<;>first | (simp[one']at a;done) | (simp at b;done) | (cases op<;>rfl)
theorem Bj {a:List Value}{i:Nat}{u:Value}{r:List Value}(h:a.drop i=u::r):a[i]? =some u/\a.drop (i+1)=r:=by
 constructor
 ·have:=II (·[0]?) h
  grind
 ·have:=II (·.drop 1) h;simpa[Qdt]using this
theorem ak4 {d:Nat}{t:TypeId}{k:Nat}{x y:Lf D}{u v:Value}{e:Bool}(b:Tc P t=some k)(h:x.Rel S M w g u)(l:y.Rel S M w g v)(a:eq1 k x y=some e):
  (Op.equalIn (d+1) t u v).run P w= .ok e w/\(isAgg t).run P w= .ok false w:=by
 unfold Tc at b;split at b
 ·rename_i c;injection b with b
  subst b;simp only[eq1]at a;split at a
  ·injection a with a
   subst a;cases h;cases l;exact⟨by simp[Op.equalIn,run_underlying c],by simp[isAgg,run_underlying c]⟩
  ·cases a
 ·rename_i c;injection b with b
  subst b;simp only[eq1]at a;split at a
  ·split at a
   ·rename_i f;injection a with a
    subst a;cases h;cases l;simp only[kEq,Qbw]at f;subst f;exact⟨by simp[Op.equalIn,run_underlying c],by simp[isAgg,run_underlying c]⟩
   ·cases a
  ·cases a
 ·rename_i c;injection b with b
  subst b;simp only[eq1]at a;split at a
  ·rename_i i j;injection a with a
   subst a;obtain⟨rfl,_⟩:=h;obtain⟨rfl,_⟩:=l;refine⟨?_,by simp[isAgg,run_underlying c]⟩;have:((⟨i.toArray⟩:ByteArray)==⟨j.toArray⟩)=(i==j):=by
    show(i.toArray==j.toArray)=_
    simp
   simp[Op.equalIn,run_underlying c,this]
  ·cases a
 ·cases b
theorem akW {d:Nat}{us vs:Array Value}:∀(p:List Field) (i:Nat) (s:List Nat) (l j:List (Lf D)) (r:Bool),eqFields P i p=some s->uQ s l j=some r->
  aW S M w g l (us.toList.drop i)->aW S M w g j (vs.toList.drop i)->
  (forIn (m:=Sem) p ((none:Option Bool),()) fun f _=>if f.name≠ "_" then do
    let a<-part f.type us f.offset
    let b<-part f.type vs f.offset
    let e<-Op.equalIn (d+1) f.type a b
    if (!e)=true then pure (ForInStep.done (some false,()))else pure (ForInStep.yield (none,()))
   else pure (ForInStep.yield (none,()))).run P w= .ok (if r then none else some false,()) w
 | [],i,s,l,j,r,h,c,o,n=>by
  simp only[eqFields,XM]at h;subst h;cases l with
  | cons x l=>simp[uQ]at c
  | nil=>
   cases j with
   | cons y j=>simp[uQ]at c
   | nil=>
    simp only[uQ,XM]at c;simp_all
 | f::p,i,s,l,j,r,h,c,o,n=>by
  unfold eqFields at h;split at h
  ·rename_i k C L B;split at h
   ·rename_i H;simp only[iZ,Qbf]at H;obtain⟨⟨q,t⟩,W⟩:=H;have q:=Qa q;have t:f.name≠ "_" :=by simpa using t
    injection h with h
    subst h;cases l with
    | nil=>simp[uQ]at c
    | cons x l=>
     cases j with
     | nil=>simp[uQ]at c
     | cons y j=>
      unfold uQ at c;split at c
      ·rename_i e I A F;injection c with c
       subst c;generalize E:us.toList.drop i=U at o;generalize G:vs.toList.drop i=V at n;cases U with
       | nil=>exact o.elim
       | cons u U=>
        cases V with
        | nil=>exact n.elim
        | cons v V=>
         obtain⟨Q,u2⟩:=Bj E;obtain⟨N,R⟩:=Bj G;obtain⟨J,z⟩:=ak4 (d:=d) L o.1 n.1 A;have T:=akW (d:=d) (us:=us) (vs:=vs) p (i+1) C l j I B F (by rw[u2];exact o.2) (by rw[R];exact n.2);have O:(part f.type us f.offset).run P w= .ok u w:=by
          have:us[i]? =some u:=by simpa using Q
          simp[part,z,q,this]
         have K:(part f.type vs f.offset).run P w= .ok v w:=by
          have:vs[i]? =some v:=by simpa using N
          simp[part,z,q,this]
         rw[List.forIn_cons];simp only[t,ne_eq,not_false_eq_true,if_true,Sem.run_bind,O,K,J,Result.andThen_ok];cases e with
         | false=>simp
         | true=>
          simp_all
      ·cases c
   ·cases h
  ·cases h
theorem ase {d n0:Nat}{e:TypeId}{k:Nat}{us vs:Array Value}(s:Tc P e=some k):∀(n i:Nat) (j h:List (Lf D)) (r:Bool),uQ (List.replicate n k) j h=some r->
  aW S M w g j (us.toList.drop i)->aW S M w g h (vs.toList.drop i)->
  (forIn (m:=Sem) (List.range' i n) ((none:Option Bool),()) fun i _=>do
    let a<-part e us (i*1)
    let b<-part e vs (i*1)
    let c<-Op.equalIn (d+1) e a b
    if (!c)=true then pure (ForInStep.done (some false,()))else pure (ForInStep.yield (none,()))).run P w= .ok (if r then none else some false,()) w
 | 0,i,j,h,r,f,o,l=>by
  cases j with
  | cons x j=>simp[uQ]at f
  | nil=>
   cases h with
   | cons y h=>simp[uQ]at f
   | nil=>
    simp only[List.replicate,uQ,XM]at f;simp_all
 | n+1,i,j,h,r,f,o,l=>by
  rw[List.replicate_succ]at f;cases j with
  | nil=>simp[uQ]at f
  | cons x j=>
   cases h with
   | nil=>simp[uQ]at f
   | cons y h=>
    unfold uQ at f;split at f
    ·rename_i c B q z;injection f with f
     subst f;generalize t:us.toList.drop i=U at o;generalize A:vs.toList.drop i=V at l;cases U with
     | nil=>exact o.elim
     | cons u U=>
      cases V with
      | nil=>exact l.elim
      | cons v V=>
       obtain⟨H,u2⟩:=Bj t;obtain⟨F,I⟩:=Bj A;obtain⟨C,p⟩:=ak4 (d:=d) s o.1 l.1 q;have J:=ase (d:=d) (n0:=n0) (us:=us) (vs:=vs) s n (i+1) j h B z (by rw[u2];exact o.2) (by rw[I];exact l.2);have G:(part e us (i*1)).run P w= .ok u w:=by
        have:us[i]? =some u:=by simpa using H
        simp[part,p,this]
       have E:(part e vs (i*1)).run P w= .ok v w:=by
        have:vs[i]? =some v:=by simpa using F
        simp[part,p,this]
       rw[List.range'_succ,List.forIn_cons];simp only[Sem.run_bind,G,E,C,Result.andThen_ok];cases c with
       | false=>simp
       | true=>
        simp_all
    ·cases f
theorem Zw {t:TypeId}{p:Ty}{us vs:List Value}{j h:List (Lf D)}{k:Nat}{A:List Nat}{r:Bool}(E:TyOk P t p)(a:p.eqs=k::A)(B:uQ (k::A) j h=some r)(hx:aW S M w g j us)(m:aW S M w g h vs):
  (Op.equal t (.agg us.toArray) (.agg vs.toArray)).run P w= .ok r w/\P.eqGuardType P.depth t=false:=by
 obtain⟨i,d,z,lt,K,o,I,rfl⟩:=kY E;cases d with
 | struct G=>
  simp only[agr]at a;split at a
  ·cases a
  ·rename_i c;simp only[Qbi,not_or,Qc0]at c;obtain⟨F,C⟩:=c;refine⟨?_,C⟩;split at a
   ·rename_i H v;subst a
    suffices f:∀d,(Op.equalIn (d+1+1) t (.agg us.toArray) (.agg vs.toArray)).run P w= .ok r w from f 9998
    intro d;have:=akW (P:=P) (w:=w) (d:=d) (us:=us.toArray) (vs:=vs.toArray) G.toList 0 _ j h r v B qby (by simpa using m);rw[Array.forIn_toList]at this;simp only[Op.equalIn,Sem.run_bind,run_underlying o,Result.andThen_ok,program];simp only[Sem.run,Result.andThen_ok,F,Qbt,if_false];rw[Sem.run_bind];refine(II (fun x=>Result.andThen x _) this).trans ?_;rw[Result.andThen_ok];cases r<;>rfl
   ·cases a
 | array n e=>
  simp only[agr]at a;split at a
  ·cases a
  ·rename_i c;simp only[Qc0]at c;refine⟨?_,c⟩;split at a
   ·rename_i J L u l;split at a
    ·rename_i b;have b:=Qa b
     suffices f:∀d,(Op.equalIn (d+1+1) t (.agg us.toArray) (.agg vs.toArray)).run P w= .ok r w from f 9998
     intro d;have:=ase (P:=P) (w:=w) (d:=d) (n0:=0) (us:=us.toArray) (vs:=vs.toArray) u n 0 j h r dm qby (by simpa using m);have s:(sizeOf e).run P w= .ok 1 w:=by simp[sizeOf,typeInfo,l,b]
     obtain⟨q,y⟩:∃q,q=d+1:=⟨_,rfl⟩;rw[<-y]at this⊢;simp only[Op.equalIn,Sem.run_bind,run_underlying o,Result.andThen_ok,s,Std.Legacy.Range.forIn_eq_forIn_range',Std.Legacy.Range.size];rw[show(n - 0+1 - 1) / 1=n by simp];refine(II (fun x=>Result.andThen x _) this).trans ?_;rw[Result.andThen_ok];cases r<;>rfl
    ·cases a
   ·cases a
 | _=>simp[agr]at a
theorem ahK {op:BinOp}{t I:TypeId}{x y:Operand}(p:o.op= .binOp op t x y I)(r:∀t D,T t=some D->TyOk P t D)(h:Hp S w0 N blk g al w)(c:(aP slot x).Rel S (aS N blk g) w g (a.eval x))
  (f:(aP slot y).Rel S (aS N blk g) w g (a.eval y)) (b:amm T S op t (aP slot x) (aP slot y)=some out) (q:Post S w0 N blk g al w fr out o.dst a K):o.wp P a w K Q:=by
 unfold amm at b;split at b
 ·cases b
 ·rename_i D s;split at b
  ·rename_i e d A l z;split at b
   rotate_left
   ·cases b
   rename_i B;have B:0 < S.size d:=by simp_all
   have i:=lZ (r _ _ s) A;rw[l]at c;rw[z]at f;have c:bW S (aS N blk g) w d (a.eval x):=c;have f:a.eval y= .slice none 0 0:=f;obtain⟨k,m,E,G⟩:=bW.slice c B;have n:k.isNone=true->S.len d=0:=fun F=>by
    rw[E]at c;rcases Nat.eq_zero_or_pos (S.len d)with C | C
    ·exact C
    ·obtain⟨J,rfl⟩:=bW.AZ c C B;cases F
   have j:=fun w=>jZ (P:=P) (w:=w) (op:=op) (t:=t) (x:=x) (y:=y) (u:= .slice k (S.len d) m) (v:= .slice none 0 0) rfl jQ
   split at b
   ·injection b with b;subst b
    refine aY (v:= .bool k.isNone) ?_ h q rfl ⟨_,rfl,n⟩;simp[execOp,p,E,f,j,Lib.run_eql_slice_nil w t e k (S.len d) m 0 0 i]
   ·injection b with b;subst b
    refine aY (v:= .bool (!k.isNone)) ?_ h q rfl ⟨_,rfl,fun H=>n (by simpa using H)⟩;simp[execOp,p,E,f,j,run_neq_slice_nil_any w t e k (S.len d) m 0 0 i]
   ·cases b
  ·rename_i e A l z;have i:=lZ (r _ _ s) A;rw[l]at c;rw[z]at f;have c:a.eval x= .slice none 0 0:=c;have f:a.eval y= .slice none 0 0:=f;have j:=fun w=>jZ (P:=P) (w:=w) (op:=op) (t:=t) (x:=x) (y:=y) (u:= .slice none 0 0) (v:= .slice none 0 0) rfl jQ
   split at b
   ·injection b with b;subst b
    refine aY (v:= .bool true) ?_ h q rfl rfl;simp[execOp,p,c,f,j,Lib.run_eql_slice_nil w t e none 0 0 0 0 i]
   ·injection b with b;subst b
    refine aY (v:= .bool false) ?_ h q rfl rfl;simp[execOp,p,c,f,j,run_neq_slice_nil_any w t e none 0 0 0 0 i]
   ·cases b
  ·cases b
theorem ao8 {op:BinOp}{t yt:TypeId}{x y:Operand}(i:o.op= .binOp op t x y yt)(D:∀t A,T t=some A->TyOk P t A)(h:Hp S w0 N blk g al w)(f:(aP slot x).Rel S (aS N blk g) w g (a.eval x))
  (e:(aP slot y).Rel S (aS N blk g) w g (a.eval y)) (b:aEF T op t (aP slot x) (aP slot y)=some out) (l:lG out.pre) (p:Post S w0 N blk g al w fr out o.dst a K):o.wp P a w K Q:=by
 unfold aEF at b;split at b
 ·rename_i k n R m j C;rw[j]at f;rw[C]at e;simp only[Sl.Rel,Sv.Rel,Lf.Rel]at f e;split at b
  ·
   have c:=fun w=>jZ (P:=P) (w:=w) (op:= .shl) (t:=t) (x:=x) (y:=y) (u:= .int k n) (v:= .int R m) rfl jQ
   injection b with b
   subst b;have l:0<=m:=l;refine aY (v:=_) ?_ h p rfl rfl;simp[execOp,i,f,e,c,binOp,Op.shift,show ¬m < 0 by omega,Tv]
  ·have c:=fun w=>jZ (P:=P) (w:=w) (op:= .shr) (t:=t) (x:=x) (y:=y) (u:= .int k n) (v:= .int R m) rfl jQ
   injection b with b
   subst b;have l:0<=m:=l;refine aY (v:=_) ?_ h p rfl rfl;simp[execOp,i,f,e,c,binOp,Op.shift,show ¬m < 0 by omega,lN]
  ·split at b
   rotate_left
   ·cases b
   rename_i hns aJ0 q;have q:k=R:=by simpa[kEq]using q
   subst q;have c:=fun w=>jZ (P:=P) (w:=w) (op:=op) (t:=t) (x:=x) (y:=y) (u:= .int k n) (v:= .int k m) rfl jQ
   unfold aG2 at b;split at b<;>first
    | (
      injection b with b;subst b
      refine aY (v:=_) ?_ h p rfl rfl;first
       | (simp[execOp,i,f,e,c,binOp,Op.intArith,aQ];done)
       | (simp[execOp,i,f,e,c,binOp,Op.intBits,nT,orI,mJ,aGI];done)
       | (simp[execOp,i,f,e,c,binOp,Op.intCmp];done)
       | (simp[execOp,i,f,e,c,binOp,Op.intDiv,show m≠0 from l];done)
       | (simp[execOp,i,f,e,c,binOp,Op.intDiv,show m≠0 from l,aQ];done))
    | cases b
 ·rename_i s u j C;rw[j]at f;rw[C]at e;simp only[Sl.Rel,Sv.Rel,Lf.Rel]at f e;obtain⟨f,hxl⟩:=f;obtain⟨e,hyl⟩:=e;have c:=fun w=>jZ (P:=P) (w:=w) (op:=op) (t:=t) (x:=x) (y:=y) (u:= .string ⟨s.toArray⟩) (v:= .string ⟨u.toArray⟩) rfl jQ
  unfold aHF at b;split at b<;>first
   | (
     injection b with b;subst b
     refine aY (v:=_) ?_ h p rfl rfl;simp[execOp,i,f,e,c,binOp,Op.stringOp,bne];done)
   | (cases b;done)
   | skip
  injection b with b
  subst b;have B:=run_string_add_sum (P:=P) w ⟨s.toArray⟩ ⟨u.toArray⟩ (by simpa[ByteArray.size,lG]using l);rw[ByteArray.mk_append_mk]at B;refine aY (v:= .string ⟨(s++u).toArray⟩) ?_ h p rfl ⟨rfl,by simpa[lG]using l⟩;simp[execOp,i,f,e,c,binOp,B]
 ·rename_i xs ys j C;rw[j]at f;rw[C]at e;obtain⟨X,I,H⟩:=f;obtain⟨U,F,G⟩:=e;split at b
  ·rename_i A z;split at b
   ·cases b
   ·rename_i ks hne;cases E:A.eqs with
    | nil=>grind
    | cons k ks'=>
     rw[E]at b;split at b
     ·rename_i r J;injection b with b;subst b
      obtain⟨L,M⟩:=Zw (D _ _ z) E J H.norm G.norm;refine aY (v:= .bool r) ?_ h p rfl rfl;have c:(eqGuard .eql t x y (.agg X.toArray) (.agg U.toArray)).run P w= .ok () w:=by
       simp only[eqGuard,program];simp[Sem.run,M]
      simp[execOp,i,I,F,c,binOp,L]
     ·rename_i r J;injection b with b;subst b
      obtain⟨L,M⟩:=Zw (D _ _ z) E J H.norm G.norm;refine aY (v:= .bool (!r)) ?_ h p rfl rfl;have c:(eqGuard .neq t x y (.agg X.toArray) (.agg U.toArray)).run P w= .ok () w:=by
       simp only[eqGuard,program];simp[Sem.run,M]
      simp[execOp,i,I,F,c,binOp,L]
     ·cases b
  ·cases b
 ·split at b
  ·rename_i s u Y Z
   have f:=E5 Y f;have e:=E5 Z e;have c:=fun w=>jZ (P:=P) (w:=w) (op:=op) (t:=t) (x:=x) (y:=y) (u:= .bool s) (v:= .bool u) rfl jQ
   split at b
   ·rename_i A z;split at b
    ·rename_i q;obtain⟨d,V,aa⟩:=mV (D _ _ z);have q:A.kind=1:=by simpa using q
     rw[q]at aa;have V:P.underlying t=some .bool:=by cases d<;>simp_all [kindOf]
     have W:∀n,(Op.equalIn (n+1) t (.bool s) (.bool u)).run P w= .ok (s==u) w:=fun n=>by simp[Op.equalIn,run_underlying V]
     have O:(Op.equal t (.bool s) (.bool u)).run P w= .ok (s==u) w:=W 9999;split at b<;>first
      | (
        injection b with b;subst b
        refine aY (v:=_) ?_ h p rfl rfl;simp[execOp,i,f,e,c,binOp,O,bne];done)
      | cases b
    ·cases b
   ·cases b
  ·cases b
theorem avb {l:UnOp}{t:TypeId}{x:Operand}(f:o.op= .unOp l t x)(h:Hp S w0 N blk g al w)(d:(aP slot x).Rel S (aS N blk g) w g (a.eval x))
  (c:xUn l (aP slot x)=some out) (q:lG out.pre) (i:Post S w0 N blk g al w fr out o.dst a K):o.wp P a w K Q:=by
 unfold xUn at c;split at c
 ·rename_i b e;rw[e]at d;simp only[Sl.Rel,Sv.Rel,Lf.Rel]at d;injection c with c;subst c
  refine aY (v:=_) ?_ h i rfl rfl;simp[execOp,f,d,Op.unary]
 ·rename_i b e;rw[e]at d;simp only[Sl.Rel,Sv.Rel,Lf.Rel]at d;injection c with c;subst c
  refine aY (v:=_) ?_ h i rfl rfl;simp[execOp,f,d,Op.unary]
 ·rename_i p e;rw[e]at d;obtain⟨b,m,j⟩:=d;injection c with c;subst c
  refine aY (v:= .bool (!b)) ?_ h i rfl ⟨!b,rfl,by simpa using j⟩;simp[execOp,f,m,Op.unary]
 ·rename_i k n e;rw[e]at d;simp only[Sl.Rel,Sv.Rel,Lf.Rel]at d;injection c with c;subst c
  refine aY (v:=_) ?_ h i rfl rfl;simp[execOp,f,d,Op.unary,Op.intArith,aQ]
 ·rename_i k n e;rw[e]at d;simp only[Sl.Rel,Sv.Rel,Lf.Rel]at d;injection c with c;subst c
  refine aY (v:=_) ?_ h i rfl rfl;simp[execOp,f,d,Op.unary,Op.intBits,mJ]
 ·cases c
theorem ahy {c x y:Operand}(ho:o.op= .pick c x y)(h:Hp S w0 N blk g al w)(hc:(aP slot c).Rel S (aS N blk g) w g (a.eval c))(e:(aP slot x).Rel S (aS N blk g) w g (a.eval x))
  (f:(aP slot y).Rel S (aS N blk g) w g (a.eval y)) (b:avU slot c x y=some out) (i:Post S w0 N blk g al w fr out o.dst a K):o.wp P a w K Q:=by
 unfold avU at b;split at b
 ·rename_i d;rw[d]at hc;simp only[Sl.Rel,Sv.Rel,Lf.Rel]at hc;injection b with b;subst b
  exact aY (v:=a.eval x) qbq h i rfl e
 ·rename_i d;rw[d]at hc;simp only[Sl.Rel,Sv.Rel,Lf.Rel]at hc;injection b with b;subst b
  exact aY (v:=a.eval y) qbq h i rfl f
 ·rename_i t d;rw[d]at hc;simp only[Sl.Rel,Sv.Rel,Lf.Rel]at hc;split at b
  ·rename_i p q k j;have e:=E5 k e;have f:=E5 j f;injection b with b;subst b
   cases t
   ·exact aY (v:=a.eval y) qbq h i rfl f
   ·exact aY (v:=a.eval x) qbq h i rfl e
  ·cases b
 ·cases b
end
end Go.Vc
namespace Go.Vc
open Go.RowKit
section
variable {D:Type}{P:Program}{S:Sh D}{T:TypeId->Option Ty}{Γ:FuncId->Option (Ct D)}{M N:Nat->Prop}{w w':World}{w0:Bs}{g:Nat->Option Value}{blk:Nat->Option (Bk D)}{al:Nat->Prop}
 {a:Act} {o:Oper} {K:Act->World->Prop} {Q:Exit->Act->World->Prop} {slot:Nat->Sl D} {out:Out D} {fr:Nat}
theorem YZ:∀(b:List Value) (a k:Nat) (cs:Array Value),a+k+b.length<=cs.size->
  ((b.zipIdx k).foldl (fun(cs:Array Value) (p:Value×Nat)=>cs.setIfInBounds (a+p.2) p.1) cs).toList=cs.toList.take (a+k)++(b++cs.toList.drop (a+k+b.length))
 | [],a,k,cs,_=>by simp
 | u::b,a,k,cs,h=>by
  simp only[JV]at h;have c:a+k < cs.toList.length:=by simp;omega
  rw[List.zipIdx_cons,List.foldl_cons,YZ b a (k+1) _ vH];simp only[Array.toList_setIfInBounds];have d:(cs.toList.set (a+k) u).take (a+(k+1))=cs.toList.take (a+k)++[u]:=by
   rw[show a+(k+1)=(a+k)+1 by omega,List.take_succ_eq_append_getElem (by simpa using c),Qd9,List.set_eq_of_length_le vH];simp
  have e:(cs.toList.set (a+k) u).drop (a+(k+1)+b.length)=cs.toList.drop (a+k+(u::b).length):=by
   rw[List.drop_set_of_lt aj]
   grind
  grind
theorem agu {v:Value}{a:Nat}{cs:Array Value}(h:a+v.cells.size<=cs.size):
  (v.cells.zipIdx.foldl (fun(cs:Array Value) (p:Value×Nat)=>cs.setIfInBounds (a+p.2) p.1) cs).toList=cs.toList.take a++(v.cells.toList++cs.toList.drop (a+v.cells.toList.length)):=by
 rw[<-Array.foldl_toList,Array.toList_zipIdx];simpa using YZ v.cells.toList a 0 cs qa4
theorem alq {q:Ty}{place:Nat->Option (Nat×Nat)}(i:∀l u,g l=some u->isRef u=true)(y:∀t,(slot t).Rel S M w g (a.tmps.getD t undef))
  (z:∀f c m o,q.aqN[f]? =some (c,m,o)->place f=some (c,m)):
  ∀(parts:List (Nat×Operand)) (cs d:List (Lf D)) (e:Array Value),aW S M w g cs e.toList->acB q slot parts cs=some d->
   ∃j,Instr.fill place e (parts.map fun p=>(p.1,a.eval p.2))=some j/\aW S M w g d j.toList
 | [],cs,d,e,h,b=>⟨e,rfl,by injection b with b;grind⟩
 | (f,x)::r,cs,d,e,h,b=>by
  unfold acB at b;split at b
  ·rename_i c m o u I C;split at b
   ·rename_i k;simp only[iZ]at k;obtain⟨⟨B,v⟩,A⟩:=k;have v:=Qa v;have A:=Qat A;have s:=mD y x;rw[C]at s;have k:=qK i B s;have J:=k.length;have F:=h.length;have E:(a.eval x).cells.size=m:=by grind
    have n:c+(a.eval x).cells.size<=e.size:=by
     grind
    obtain⟨j,G,H⟩:=alq i y z r _ d _ (by rw[agu n];exact h.putAt k c) b
    grind [Instr.fill]
   ·cases b
  ·cases b
theorem CZ:∀(a:List Field),(∀f∈a,cellsIn P f.type≠0)->
  (a.mapM fun f=>(do pure (f.offset,<-sizeOf f.type):Sem (Nat×Nat))).run P w= .ok (a.map fun f=>(f.offset,cellsIn P f.type)) w
 | [],_=>rfl
 | f::a,h=>by
  have c:=pK (P:=P) rfl (h f jQ) w;have d:=CZ a fun x b=>h x (by simp[b])
  simp_all
theorem ad9 {t:TypeId}{parts:Array (Nat×Operand)}(k:o.op= .build t parts)(u:∀t l,T t=some l->TyOk P t l)(h:Hp S w0 N blk g al w)
  (G:∀t,(slot t).Rel S (aS N blk g) w g (a.tmps.getD t undef)) (b:ajj T slot t parts=some out) (H:Post S w0 N blk g al w fr out o.dst a K):o.wp P a w K Q:=by
 unfold ajj at b;split at b
 ·rename_i l y;have B:=u _ _ y;split at b
  ·rename_i r;simp only[iZ]at r;split at b
   ·rename_i cs E;injection b with b
    subst b;obtain⟨z,D,A⟩:=Fq B w;obtain⟨i,d,L,lt,R,F,J,rfl⟩:=kY B;cases d with
    | struct q=>
     have n:∀f∈q.toList,cellsIn P f.type≠0:=by
      intro f s;have:=r.2;simp only[ND,List.all_map,Qb,Function.comp,Qbf]at this;intro e;have:=this f s;simp_all
     obtain⟨j,c,C⟩:=alq (a:=a) (place:=fun f=>((q.toList.map fun f=>(f.offset,cellsIn P f.type)).toArray)[f]?) h.refs G (fun f I O M k=>by
      simp only[ND,Qb1,Qb3,Qbk]at k
      grind) parts.toList _ cs z.cells (by rw[A];exact ug _) E
     refine aY (v:= .agg j) ?_ h H rfl ⟨j.toList,by simp,C⟩;have s:=CZ (P:=P) (w:=w) q.toList n;have m:parts.toList.map (fun p=>(p.1,a.eval p.2))=(parts.map fun(i,x)=>(i,a.eval x)).toList:=by simp
     rw[m]at c;simp only[execOp,k,Instr.build,Sem.run_bind,D,Result.andThen_ok,run_underlying F];rw[Qdh];simp only[Sem.run_map,s,Result.andThen_ok,Sem.run_pure];simp at c;simp[c]
    | _=>simp[kindOf]at r
   ·cases b
  ·cases b
 ·cases b
theorem UH {sz:Nat}(e:∀l u,g l=some u->isRef u=true)(q:∀t,(slot t).Rel S M w g (a.tmps.getD t undef)):
  ∀(parts:List (Nat×Operand)) (cs c:List (Lf D)) (d:Array Value),aW S M w g cs d.toList->La sz slot parts cs=some c->
   ∃j,Instr.fill (fun i=>some (i*sz,sz)) d (parts.map fun p=>(p.1,a.eval p.2))=some j/\aW S M w g c j.toList
 | [],cs,c,d,h,b=>⟨d,rfl,by injection b with b;grind⟩
 | (f,x)::r,cs,c,d,h,b=>by
  unfold La at b;split at b
  ·rename_i u y;split at b
   ·rename_i k;simp only[iZ]at k;obtain⟨⟨v,o⟩,s⟩:=k;have o:=Qa o;have s:=Qat s;have n:=mD q x;rw[y]at n;have k:=qK e v n;have E:=k.length;have A:=h.length;have z:(a.eval x).cells.size=sz:=by grind
    have m:f*sz+(a.eval x).cells.size<=d.size:=by
     grind
    obtain⟨j,B,C⟩:=UH e q r _ c _ (by rw[agu m];exact h.putAt k (f*sz)) b
    grind [Instr.fill]
   ·cases b
  ·cases b
theorem Ii {x:Lf D}{u:Value}(c:x.jr=true)(h:x.Rel S M w g u)(d:∀b,b < w.heap.size->¬M b->w'.heap[b]? =w.heap[b]?):Lf.plain x u/\∀a,x= .dat a->CS S w' a u:=by
 cases x<;>first | (simp[Lf.jr]at c;done) | exact⟨h,fun a e=>by cases e⟩ | exact⟨trivial,fun a e=>by cases e;exact h w' d⟩
theorem aqb {d:D}{b n:Nat}{e:TypeId}{c:Array Value}{cs:List (Lf D)}(k:ShOk S)(v:S.make e n cs=some d)(s:w.heap[b]? =some (.cells c e (0,0)))(p:¬M b)(y:aW S M w g cs c.toList)(F:n<=9223372036854775807):
  bW S M w d (.slice (some ⟨b,0,none⟩) n n):=by
 intro w' r;obtain⟨C,E,z⟩:=k.make e n cs d v;have o:=(r b (RJ s) p).trans s;have t:∀i j,i < n->j < S.size d->∃u,c.toList[i*S.size d+j]? =some u/\Lf.plain (S.cell d i j) u/\∀l,S.cell d i j= .dat l->CS S w' l u:=by
  intro i j h a;obtain⟨x,A,q⟩:=z i j h a;obtain⟨u,f,m⟩:=y.get _ A;exact⟨u,f,Ii (k.data d i j aj a) (q.rel m) r⟩
 have:=CS.mk (S:=S) (w:=w') d (k.Xy _ _ _ _ v) (some ⟨b,0,none⟩) n (fun i j=>(c.toList[i*S.size d+j]?).getD undef) aj aj
  (fun i j h a=>by
   obtain⟨u,f,_⟩:=t i j aj a;refine⟨_,rfl,?_⟩;simp only[f,Qdg];rw[lg,Bc];simp[World.cell?,o,<-f])
  (fun i j h a=>by
   grind)
  (fun i j l h a B=>by
   grind)
 grind
theorem sound_row {t:TypeId}{n:Nat}{parts:Array (Nat×Operand)}(E:ShOk S)(ho:o.op= .buildSlice t n parts)(y:∀t J,T t=some J->TyOk P t J)(h:Hp S w0 N blk g al w)
  (hs:∀t,(slot t).Rel S (aS N blk g) w g (a.tmps.getD t undef)) (hfr:∀n,fr<=n->n < fr+64->¬al n) (c:aDF T S slot fr t n parts=some out) (hK:Post S w0 N blk g al w fr out o.dst a K):o.wp P a w K Q:=by
 unfold aDF at c;split at c
 ·cases c
 ·rename_i J Z;split at c
  ·cases c
  ·rename_i e ad;split at c
   ·cases c
   ·rename_i f I;have ab:=lZ (y _ _ Z) ad;have aa:=kJ (y _ _ I) w;obtain⟨z,F,hzc⟩:=Fq (y _ _ I) w;split at c
    ·rename_i G;simp only[iZ]at G;obtain⟨⟨X,A⟩,h3⟩:=G;have X:=Qat X;have A:0 < f.size:=by simp_all
     have h3:=Qa h3;have hzs:z.cells.size=f.size:=by grind
     split at c
     ·rename_i cs hf;split at c
      ·rename_i d U;let r:Array Value:=(Array.range (n*f.size)).map fun k=>z.cells[k % z.cells.size]!
       have W:aW S (aS N blk g) w g ((List.range (n*f.size)).map fun k=>(Jr ((f.zero[k % f.size]?).getD (.bool false)):Lf D)) r.toList:=by
        have:r.toList=(List.range (n*f.size)).map fun k=>(f.zero[k % f.size]?).getD (.bool false):=by
         simp only[r,Array.toList_map,Array.toList_range];apply Qbl;intro k _;have hk:k % f.size < z.cells.size:=by rw[hzs];exact Qc7 _ A
         grind
        rw[this];have F:=ug (S:=S) (M:=aS N blk g) (w:=w) (g:=g) (D:=D) ((List.range (n*f.size)).map fun k=>(f.zero[k % f.size]?).getD (.bool false));rw[Qc5]at F;exact F
       obtain⟨q,m,C⟩:=UH (a:=a) h.refs hs parts.toList _ cs r W hf;have hB:Below w.heap.size w (w.alloc (.cells q e)):=(Below.refl w.heap.size w).alloc (pJ _) _;obtain⟨Y,H⟩:=h.grow hB;have s:(execOp a.eval o).run P w= .ok (.value (.slice (some ⟨w.heap.size,0,none⟩) n n)) (w.alloc (.cells q e)):=by
        have L:parts.toList.map (fun p=>(p.1,a.eval p.2))=(parts.map fun(i,x)=>(i,a.eval x)).toList:=by simp
        rw[L]at m;simp only[execOp,ho,Instr.buildSlice,Sem.run_bind,run_underlying ab,Result.andThen_ok,aa];rw[uU aj];by_cases B:n*f.size=0
        ·simp only[B,if_true,Sem.run_bind,Sem.run_pure,Result.andThen_ok];have e0:r= #[]:=by simp[r,B]
         rw[e0]at m;simp at m;simp[m,newRow,newObj,Sem.run,show Array.range 0= #[]from rfl]
        ·simp only[B,if_false,Sem.run_bind,Sem.run_pure,Result.andThen_ok,F];simp only[r]at m;simp at m;simp[m,newRow,newObj,Sem.run]
       split at c
       ·injection c with c
        subst c;obtain⟨O,q2,q3⟩:=E.make _ _ _ _ U;have ac:q.toList.length=n*S.size d:=by rw[<-q2,Qbx];exact C.length.symm
        obtain⟨g1,g2,g3⟩:=h.add (l:=fr) (bk:= .row e d) (v:= .slice (some ⟨w.heap.size,0,none⟩) n n) hB (hfr fr (pJ _) aj) (fun b R=>by simp[dE]at R;omega)
         (fun M' hk _=>by
          refine⟨⟨fun b R=> .inl ?_,⟨by rw[O];have:n*1<=n*f.size:=Qcy n A;omega,E.Xy _ _ _ _ U⟩⟩,q.toList,⟨by grind, .inr ⟨w.heap.size,n,q,by rw[O],Gw _,heap_alloc_new w _,by omega,?_,by simpa using ac,?_⟩⟩,fun i j hi hj=> ?_⟩
          ·simp only[dE,XM]at R;have:=h.below.size;omega
          ·have:n*1<=n*f.size:=Qcy n A;simp only[maxLen];omega
          ·grind
          ·rw[O]at hi;obtain⟨x,G,hle⟩:=q3 i j hi hj;obtain⟨u,hu,V⟩:=C.norm.get _ G;refine⟨u,hu,E.data d i j aj hj,(hle.rel V).keep hk (fun l v hl=> ?_)⟩;rw[bM _ _ _ _ qa2];exact hl)
        exact mW s (hK _ _ _ g3 g2 (g1.weaken fun n B=>B.elim .inl fun e=> .inr ⟨Qdf e.symm,by omega⟩) (upd_same _ _ _))
       injection c with c
       subst c;refine mW s (hK _ _ _ (More.refl _) H (Y.weaken fun _ h=> .inl h) ?_);exact aqb E U (heap_alloc_new w _) (fun hmm=>by have:=h.mlt hmm;omega) (C.norm.keep H (More.refl _)) (by have:n*1<=n*f.size:=Qcy n A;omega)
      ·cases c
     ·cases c
    ·cases c
theorem aof {c:Call}{x:Operand}(u:o.op= .call c)(C:c.callee= .builtin .len)(O:c.args.toList=[x])(H:∀t n,T t=some n->TyOk P t n)(h:Hp S w0 N blk g al w)
  (k:(aP slot x).Rel S (aS N blk g) w g (a.eval x)) (b:aFO S T blk c.argTypes (aP slot x)=some out) (D:Post S w0 N blk g al w fr out o.dst a K):o.wp P a w K Q:=by
 have j:c.args= #[x]:=by grind
 unfold aFO at b;split at b
 ·cases b
 ·rename_i t B;split at b
  ·cases b
  ·rename_i n I;obtain⟨y,r,i⟩:=mV (H _ _ I);split at b
   ·rename_i d p;rw[p]at k;split at b
    ·rename_i f;have f:n.kind=4/\0 < S.size d:=by simpa using f
     obtain⟨f,A⟩:=f;obtain⟨E,q,m,_⟩:=bW.slice k A;rw[f]at i;cases y<;>simp[kindOf]at i
     injection b with b
     subst b;refine aY (v:= .int .i64 (S.len d)) ?_ h D rfl rfl;simp[execOp,u,resolve,C,invoke,builtin,Builtin.len_,j,B,run_underlying r,m,goInt]
    ·cases b
   ·rename_i s p;rw[p]at k;simp only[Sl.Rel,Sv.Rel,Lf.Rel]at k;split at b
    ·rename_i f;have f:n.kind=3:=by simpa using f
     rw[f]at i;cases y<;>simp[kindOf]at i
     injection b with b
     subst b;refine aY (v:= .int .i64 s.length) ?_ h D rfl rfl;have L:(ByteArray.mk s.toArray).size=s.length:=by rfl
     simp[execOp,u,resolve,C,invoke,builtin,Builtin.len_,j,B,run_underlying r,k,goInt,L]
    ·cases b
   ·rename_i l p;rw[p]at k;simp only[Sl.Rel,Sv.Rel,Lf.Rel]at k;split at b
    ·rename_i e d G;split at b
     ·rename_i f;have f:n.kind=4:=by simpa using f
      rw[f]at i;cases y<;>simp[kindOf]at i
      injection b with b
      subst b;obtain⟨v,m,_,R,⟨_,M⟩,_⟩:=h.bY l _ G;rw[k]at m;injection m with m
      have J:∃E q,a.eval x= .slice E (S.len d) q:=by
       grind
      obtain⟨E,q,z⟩:=J;refine aY (v:= .int .i64 (S.len d)) ?_ h D rfl rfl;simp[execOp,u,resolve,C,invoke,builtin,Builtin.len_,j,B,run_underlying r,z,goInt]
     ·cases b
    ·rename_i d G;split at b
     ·rename_i f;have f:n.kind=4/\0 < S.size d:=by simpa using f
      obtain⟨f,A⟩:=f;rw[f]at i;cases y<;>simp[kindOf]at i
      injection b with b
      subst b;obtain⟨v,m,F⟩:=h.bY l _ G;rw[k]at m;injection m with m
      obtain⟨E,q,z,_⟩:=bW.slice (show bW S (aS N blk g) w d v from F) A;rw[z]at m;refine aY (v:= .int .i64 (S.len d)) ?_ h D rfl rfl;simp[execOp,u,resolve,C,invoke,builtin,Builtin.len_,j,B,run_underlying r,m,goInt]
     ·cases b
    ·cases b
   ·rename_i p;rw[p]at k;simp only[Sl.Rel,Sv.Rel,Lf.Rel]at k;split at b
    ·rename_i f;have f:n.kind=4:=by simpa using f
     rw[f]at i;cases y<;>simp[kindOf]at i
     injection b with b
     subst b;refine aY (v:= .int .i64 0) ?_ h D rfl rfl;simp[execOp,u,resolve,C,invoke,builtin,Builtin.len_,j,B,run_underlying r,k,goInt]
    ·cases b
   ·cases b
theorem aai {c:Call}{x y:Operand}{b:Builtin}(u:b= .min\/b= .max)(p:o.op= .call c)(q:c.callee= .builtin b)(t:c.args.toList=[x,y])(h:Hp S w0 N blk g al w)
  (f:(aP slot x).Rel S (aS N blk g) w g (a.eval x)) (i:(aP slot y).Rel S (aS N blk g) w g (a.eval y)) (d:aAy b (aP slot x) (aP slot y)=some out) (r:Post S w0 N blk g al w fr out o.dst a K):o.wp P a w K Q:=by
 have e:c.args= #[x,y]:=by grind
 unfold aAy at d;split at d
 ·rename_i k n s m j l;rw[j]at f;rw[l]at i;simp only[Sl.Rel,Sv.Rel,Lf.Rel]at f i;injection d with d
  subst d;refine aY (v:= .int k (min n m)) ?_ h r rfl rfl;have:(if m < n then m else n)=min n m:=by split<;>omega
  simp[execOp,p,resolve,q,invoke,builtin,Builtin.min_,Builtin.min2,e,f,i,this]
 ·rename_i k n s m j l;rw[j]at f;rw[l]at i;simp only[Sl.Rel,Sv.Rel,Lf.Rel]at f i;injection d with d
  subst d;refine aY (v:= .int k (max n m)) ?_ h r rfl rfl;have:(if n < m then m else n)=max n m:=by split<;>omega
  simp[execOp,p,resolve,q,invoke,builtin,Builtin.max_,Builtin.max2,e,f,i,this]
 ·cases d
end
end Go.Vc
namespace Go.Vc
open Go.RowKit
section
variable {D:Type}{P:Program}{S:Sh D}{T:TypeId->Option Ty}{M N:Nat->Prop}{w w':World}{w0:Bs}{g:Nat->Option Value}{blk:Nat->Option (Bk D)}{al:Nat->Prop}
 {a:Act} {o:Oper} {K:Act->World->Prop} {Q:Exit->Act->World->Prop} {slot:Nat->Sl D} {out:Out D} {fr:Nat}
theorem amY {p:Nat->Value->Prop}:∀(n:Nat),(∀k,k < n->∃u,p k u)->∃l:List Value,l.length=n/\∀k u,l[k]? =some u->p k u
 | 0,_=>⟨[],rfl,fun k u h=>by simp at h⟩
 | n+1,h=>by
  obtain⟨l,a,d⟩:=amY n fun k b=>h k aj
  obtain⟨u,c⟩:=h n aj;refine⟨l++[u],by simp[a],fun k x e=> ?_⟩
  grind
theorem afV {x:Lf D}{v:Value}(c:x.jr=true)(h:x.Rel S M w g v):v.oneCell'=true:=by
 cases x with
 | bool b=>simp only[Lf.Rel]at h;subst h;rfl
 | int k n=>simp only[Lf.Rel]at h;subst h;rfl
 | str s=>obtain⟨rfl,_⟩:=h;rfl
 | dat d=>rcases bW.form h with⟨a,e,rfl⟩ | ⟨r,rfl⟩<;>rfl
 | Xw x=>obtain⟨rfl,_⟩:=h;cases x<;>rfl
 | _=>simp[Lf.jr]at c
theorem wo (v:Value)(h:∃a n c,v= .slice a n c):v.ownBlock=dE v:=by
 obtain⟨a,n,c,rfl⟩:=h;cases a<;>rfl
theorem VQ (y:ShOk S){d:D}{v:Value}(h:bW S M w d v)(b:0 < S.size d):∃(o:Option Addr) (c:Nat) (a:List Value),v= .slice o (S.len d) c/\a.length=S.len d*S.size d/\
  (∀m,o=some m->∀j u,a[j]? =some u->w.cell? (m.add j)=some u)/\(o=none->S.len d=0)/\(∀u∈a,u.oneCell'=true)/\
  ∀i j,i < S.len d->j < S.size d->∃u,a[i*S.size d+j]? =some u/\(S.cell d i j).Rel S M w g u:=by
 obtain⟨o,c,rfl,A⟩:=h.slice b;rcases Nat.eq_zero_or_pos (S.len d)with t | t
 ·simp_all
 ·obtain⟨m,rfl⟩:=h.AZ t b;obtain⟨l,z,x⟩:=amY (p:=fun k u=>w.cell? (m.add k)=some u/\(S.cell d (k / S.size d) (k % S.size d)).Rel S M w g u/\k / S.size d < S.len d) (S.len d*S.size d) fun k s=>by
   have f:k / S.size d < S.len d:=by rw[Nat.div_lt_iff_lt_mul b];exact s
   obtain⟨u,n,r⟩:=h.cell (g:=g) f (Qc7 k b);have:k / S.size d*S.size d+k % S.size d=k:=by rw[Qby];exact Nat.div_add_mod k (S.size d)
   grind
  refine⟨some m,c,l,rfl,z,fun C e j u q=>by grind,(fun e=>by cases e),fun u n=> ?_,fun i j f q=> ?_⟩
  ·obtain⟨k,s⟩:=List.getElem?_of_mem n;obtain⟨_,r,f⟩:=x k u s;exact afV (y.data _ _ _ f (Qc7 k b)) r
  ·have B:=D5 f q;obtain⟨u,n⟩:∃u,l[i*S.size d+j]? =some u:=⟨_,Qas aj⟩;obtain⟨_,r,_⟩:=x _ u n;have E:(i*S.size d+j) / S.size d=i:=by rw[Qby,Nat.mul_add_div b,Nat.div_eq_of_lt q,XE]
   have F:(i*S.size d+j) % S.size d=j:=by rw[Qby,Nat.mul_add_mod,Qc4 q]
   grind
theorem art (J:ShOk S)(h:Hp S w0 N blk g al w){l:Nat}{e:TypeId}{d:D}{v:Value}(F:blk l=some (.row e d))(E:g l=some v):∃(p:Option Addr) (m:Nat) (a:List Value),v= .slice p (S.len d) m/\a.length=S.len d*S.size d/\
  (∀s,p=some s->∀j u,a[j]? =some u->w.cell? (s.add j)=some u)/\(p=none->S.len d=0)/\(∀u∈a,u.oneCell'=true)/\
  ∀i j,i < S.len d->j < S.size d->∃u,a[i*S.size d+j]? =some u/\(S.cell d i j).Rel S (aS N blk g) w g u:=by
 obtain⟨P,f,Q,r,c,n⟩:=h.bY l _ F;rw[E]at f;injection f with f
 subst f;have q:∀u∈r,u.oneCell'=true:=by
  intro u B;obtain⟨k,C⟩:=List.getElem?_of_mem B;have o:k < r.length:=(Qbc.1 C).1;rw[c.1]at o;have t:0 < S.size d:=by
   grind
  have y:k / S.size d < S.len d:=by rw[Nat.div_lt_iff_lt_mul t];exact o
  obtain⟨O,G,I,L⟩:=n _ _ y (Qc7 k t);have:k / S.size d*S.size d+k % S.size d=k:=by rw[Qby];exact Nat.div_add_mod k (S.size d)
  grind [afV]
 rcases c.2 with⟨K,M⟩ | ⟨b,m,H,x,A⟩
 ·simp_all
 ·refine⟨_,m,r,x,c.1,fun s e j u z=> ?_,(fun e=>by cases e),q,fun i j y z=> ?_⟩
  ·injection e with e
   subst e;subst x;exact c.cells (g:=b) rfl j u z
  grind
theorem H8 (k:ShOk S)(h:Hp S w0 N blk g al w){y:Sl D}{v:Value}{d:D}(f:y.Rel S (aS N blk g) w g v)(a:Y6 blk y=some d)(n:0 < S.size d):∃(l:Option Addr) (p:Nat) (b:List Value),v= .slice l (S.len d) p/\b.length=S.len d*S.size d/\
  (∀q,l=some q->∀j u,b[j]? =some u->w.cell? (q.add j)=some u)/\(l=none->S.len d=0)/\(∀u∈b,u.oneCell'=true)/\
  ∀i j,i < S.len d->j < S.size d->∃u,b[i*S.size d+j]? =some u/\(S.cell d i j).Rel S (aS N blk g) w g u:=by
 unfold Y6 at a;split at a
 ·injection a with a
  subst a;exact VQ k f n
 ·split at a
  ·rename_i e r m;injection a with a
   subst a;exact art k h m f
  ·rename_i r m;injection a with a
   subst a;obtain⟨s,c,o⟩:=h.bY _ _ m;have f:g _=some v:=f;rw[f]at c;injection c with c
   subst c;exact VQ k o n
  ·cases a
 ·cases a
theorem Vd (t D e:TypeId)(i:TypeInfo)(z:Value)(a bytes:Nat)(s:P.underlying t=some (.slice e))(x:P.info? e=some i)(H:i.zero=some z)
  (q:i.size=a) (E:i.bytes=bytes) (F:z.cells.size=a) (C:0 < a)
  (v:Value) (n:Nat) (y:List Value) (h:w.ownsRow 0 e a v n y)
  (o:Option Addr) (m c:Nat) (d:List Value) (B:d.length=m*a) (l:∀k,o=some k->∀j u,d[j]? =some u->w.cell? (k.add j)=some u) (r:o=none->m=0) (I:∀u∈d,u.oneCell'=true)
  (A:n+m<=maxLen) (f:(n+m)*bytes<=140737488355328):
  ∃g p,(Builtin.append_ #[t,t] D #[v, .slice o m c]).run P w= .ok g p/\p.ownsRow 0 e a g (n+m) (y++d)/\w.grownBy p v.ownBlock/\(g.ownBlock=v.ownBlock\/g.ownBlock=some w.heap.size):=by
 cases o with
 | some k=>
  obtain⟨g,p,N,O,M,_,L⟩:=run_append_own_at (P:=P) w 0 t D e i z a bytes s x H q E F C v n y h k m c d B (l k rfl) I A f (Gw _)
  grind
 | none=>
  obtain rfl:=r rfl;obtain rfl:d=[]:=Qan (by simpa using B);refine⟨v,w,?_,by grind,⟨rfl,rfl,rfl,pJ _,fun _ _ _=>rfl⟩, .inl rfl⟩;rcases h.2 with⟨rfl,rfl⟩ | ⟨b,K,J,rfl,_,Q,G,_⟩
  ·simp[Builtin.append_,run_underlying s,sizeOf,typeInfo,x,Builtin.lenOf,Builtin.firstCells]
  ·simp[Builtin.append_,run_underlying s,sizeOf,typeInfo,x,Builtin.lenOf,Builtin.firstCells,G,storeCells]
theorem Gj {t:TypeId}{a:Ty}(h:TyOk P t a):∃i z,P.info? t=some i/\i.zero=some z/\i.size=a.size/\i.bytes=a.bytes/\z.cells.toList=a.zero:=by
 grind [kY]
theorem XP {b:Nat->Prop}{a:Nat}:∀n,(b n\/n=a)->b n\/(a<=n/\n < a+64):=fun n c=>c.elim .inl fun e=> .inr ⟨Qdf e.symm,by omega⟩
theorem acL {c:Call}{x y:Operand}(H:ShOk S)(ho:o.op= .call c)(hc:c.callee= .builtin .append)(hx':c.args.toList=[x,y])(Z:∀t ty,T t=some ty->TyOk P t ty)(h:Hp S w0 N blk g al w)(hfr:∀n,fr<=n->n < fr+64->¬al n)
  (E:(aP slot x).Rel S (aS N blk g) w g (a.eval x)) (hy:(aP slot y).Rel S (aS N blk g) w g (a.eval y)) (f:aaC T S blk fr c.argTypes (aP slot x) (aP slot y)=some out) (Y:lG out.pre)
  (hK:Post S w0 N blk g al w fr out o.dst a K):o.wp P a w K Q:=by
 have X:c.args= #[x,y]:=by grind
 have ad:∀v',More g (upd g fr (some v')):=fun v' l v hl=>by
  rw[bM _ _ _ _ qa2];exact hl
 unfold aaC at f;split at f
 ·rename_i t t' htt;split at f
  ·rename_i Xu;have Xu:=Qa Xu;subst Xu;have hat:c.argTypes= #[t,t]:=by grind
   split at f
   ·cases f
   ·rename_i ty hty;split at f
    ·cases f
    ·rename_i e hel;split at f
     ·cases f
     ·rename_i A hte;split at f
      ·cases f
      ·rename_i d2 hd2;have hsl:=lZ (Z _ _ hty) hel;obtain⟨i,z,hi,hz,q1,q2,q3⟩:=Gj (Z _ _ hte);split at f
       ·rename_i L;simp only[iZ]at L;have e1:=Qa L.1.1;have e2:0 < A.size:=by simp_all
        have e3:=Qa L.2;have hzs:z.cells.size=A.size:=by grind
        obtain⟨av,cap,B,hv2,hl2,hc2,hn2,h12,D⟩:=H8 H h hy hd2 aj;have ac:∀(r:Value) (n:Nat) (C:List Value),a.eval x=r->w.ownsRow 0 e A.size r n C->bG (n+S.len d2) A.bytes->
          ∃v' w',(execOp a.eval o).run P w= .ok (.value v') w'/\w'.ownsRow 0 e A.size v' (n+S.len d2) (C++B)/\w.grownBy w' r.ownBlock/\(v'.ownBlock=r.ownBlock\/v'.ownBlock=some w.heap.size):=by
         intro r n C s q F;obtain⟨v',w',V,I,p,m⟩:=Vd (P:=P) (w:=w) t o.type e i z A.size A.bytes hsl hi hz q1 q2 hzs e2 r n C q av (S.len d2) cap B dm hc2 hn2 h12 (by have:=F.1;simp only[maxLen];omega) F.2;refine⟨v',w',?_,I,p,m⟩;simp only[execOp,ho,resolve,hc,invoke,builtin,X,hat,Sem.run_bind,Sem.run_pure,Result.andThen_ok,Qcb,Qp,Qcu,s,hv2,V]
        split at f
        ·rename_i U;injection f with f
         subst f;rw[U]at E;obtain⟨v',w',V,I,p,m⟩:=ac (.slice none 0 0) 0 [] E (World.ownsRow_nil w 0 e A.size) (by rw[Bc];exact Y);have hB:Below w.heap.size w w':=⟨p.os,p.tape,p.output,p.size,fun k M=>p.block k M (by simp[Value.ownBlock])⟩;have EL:∃a n c,v'= .slice a n c:=by rcases I.2 with⟨rfl,_⟩ | ⟨b,cp,ab,rfl,_⟩<;>exact⟨_,_,_,rfl⟩
         have W:∀b,dE v'=some b->w.heap.size<=b:=by
          intro b hb;rw[wo v' EL]at m;rcases m with m | m
          ·rw[hb]at m;simp[Value.ownBlock]at m
          grind
         obtain⟨g1,g2,g3⟩:=h.add (l:=fr) (bk:= .row e d2) (v:=v') hB (hfr fr (pJ _) aj) W (fun M' M _=>by
          refine⟨⟨fun b hb=> .inl (Du h.below.size (W b hb)),⟨by have:bG (S.len d2) A.bytes:=Y;have:=this.1;omega,H.aBl aj⟩⟩,B,?_,fun O j G hj=> ?_⟩
          ·have:=I;rw[Bc,Qd,e1]at this;exact this
          ·obtain⟨u,hu,hr⟩:=D O j G hj;exact⟨u,hu,H.data _ _ _ G hj,hr.keep M (ad _)⟩)
         exact mW V (hK _ _ _ g3 g2 (g1.weaken XP) (upd_same _ _ _))
        ·rename_i l U;rw[U]at E;have E:g l=some (a.eval x):=E;split at f
         ·rename_i e' d1 hb;split at f
          ·rename_i J;have J:=Qa J;subst J;split at f
           ·rename_i d agT;injection f with f
            subst f;obtain⟨c1,c2,c3,c4,c5⟩:=H.cat _ _ _ agT;obtain⟨r,s,hm,C,q,hcell⟩:=h.bY l _ hb;rw[E]at s;injection s with s
            have es:A.size=S.size d1:=by omega
            rw[<-es]at q;obtain⟨v',w',V,I,p,m⟩:=ac r (S.len d1) C s q Y;have R:∃a n c,r= .slice a n c:=by rcases q.2 with⟨rfl,_⟩ | ⟨b,cp,ab,rfl,_⟩<;>exact⟨_,_,_,rfl⟩
            have EL:∃a n c,v'= .slice a n c:=by rcases I.2 with⟨rfl,_⟩ | ⟨b,cp,ab,rfl,_⟩<;>exact⟨_,_,_,rfl⟩
            rw[wo v' EL,wo r R]at m;rw[wo r R]at p;obtain⟨g1,g2,g3⟩:=h.move (l:=l) (fr:=fr) (bk':= .row e d) (v:=r) (v':=v') qbo (s▸E) (hfr fr (pJ _) aj) p.os p.tape p.output p.size (fun n hn hne=>p.block n hn fun e=>hne e.symm)
             (fun b aa=>by
              grind)
             (fun M' M _=>by
              refine⟨⟨fun b aa=> ?_,⟨by have:bG (S.len d1+S.len d2) A.bytes:=Y;have:=this.1;omega,H.axp _ _ _ ‹_›⟩⟩,C++B,?_,fun O j G hj=> ?_⟩
              ·rcases m with m | m
               ·grind
               ·rw[aa]at m;injection m with m;exact .inl (m▸h.below.size)
              ·grind
              ·rw[c3]at G;have hxl:C.length=S.len d1*S.size d:=by rw[q.1];congr 1;omega
               by_cases hlt:O < S.len d1
               ·grind [Lf.Rel.keep,D5]
               ·obtain⟨k,rfl⟩:∃k,O=S.len d1+k:=⟨O - S.len d1,by omega⟩;obtain⟨u,hu,hr⟩:=D k j aj aj;rw[c5 k j aj];refine⟨u,?_,H.data _ _ _ aj aj,hr.keep M (ad _)⟩;rw[Qbo dm,<-hu,hxl,Nat.add_mul,c2]
                grind)
            exact mW V (hK _ _ _ g3 g2 (g1.weaken XP) (upd_same _ _ _))
           ·cases f
          ·cases f
         ·cases f
        ·cases f
       ·cases f
  ·cases f
 ·cases f
theorem ad_ {t:TypeId}{x f:Operand}(B:o.op= .index t x f)(p:∀t e,T t=some e->TyOk P t e)(h:Hp S w0 N blk g al w)(c:(aP slot x).Rel S (aS N blk g) w g (a.eval x))
  (j:(aP slot f).Rel S (aS N blk g) w g (a.eval f)) (b:aiU T t (aP slot x) (aP slot f)=some out) (C:lG out.pre) (E:Post S w0 N blk g al w fr out o.dst a K):o.wp P a w K Q:=by
 unfold aiU at b;split at b
 ·cases b
 ·rename_i e r;split at b
  ·rename_i s k n m z;rw[m]at c;rw[z]at j;simp only[Sl.Rel,Sv.Rel,Lf.Rel]at c j;obtain⟨c,F⟩:=c;split at b
   ·rename_i i;obtain⟨d,q,A⟩:=mV (p _ _ r);have i:e.kind=3:=by simpa using i
    rw[i]at A;have q:P.underlying t=some .string:=by cases d<;>simp_all [kindOf]
    injection b with b
    subst b;obtain⟨D,G⟩:=C;have y:n.toNat < s.length:=by omega
    refine aY (v:= .int .u8 ((s.getD n.toNat 0).toNat:Nat)) ?_ h E rfl rfl;have l:(ByteArray.mk s.toArray)[n.toNat]? =some (s.getD n.toNat 0):=by
     have u:n.toNat < (ByteArray.mk s.toArray).size:=by show n.toNat < s.toArray.size;simpa using y
     rw[getElem?_pos (ByteArray.mk s.toArray) n.toNat u];congr 1;show s.toArray[n.toNat]=_
     grind
    simp[execOp,B,Instr.index,j,asIntOf,run_underlying q,c,D,l]
   ·cases b
  ·cases b
theorem aoe {k a:IntKind}(h:aAl (rD k)=some a):k=a:=by cases k<;>simp[rD,aAl]at h<;>exact h
theorem ahQ {t c:TypeId}{x:Operand}(s:o.op= .convert t c x)(e:∀t i,T t=some i->TyOk P t i)(h:Hp S w0 N blk g al w)(j:(aP slot x).Rel S (aS N blk g) w g (a.eval x))
  (b:auE T t c (aP slot x)=some out) (A:lG out.pre) (u:Post S w0 N blk g al w fr out o.dst a K):o.wp P a w K Q:=by
 unfold auE at b;split at b
 ·rename_i tys i z n y q p;rw[p]at j;simp only[Sl.Rel,Sv.Rel,Lf.Rel]at j;split at b
  ·rename_i k l;injection b with b
   subst b;obtain⟨d,f,r⟩:=mV (e _ _ q);obtain⟨d0,m,_⟩:=mV (e _ _ y);have f:P.underlying c=some (.int k):=by
    rw[<-r]at l;cases d<;>simp[kindOf,aAl]at l
    rw[f,aoe l]
   refine aY (v:= .int k (aQ k n)) ?_ h u rfl rfl;simp[execOp,s,convert,run_underlying m,run_underlying f,j,Conv.intToInt,aQ]
  ·cases b
 ·cases b
theorem akE (e:∀t,(slot t).Rel S (aS N blk g) w g (a.tmps.getD t undef)):∀(d:List Operand) (c:List Nat),Uj slot d=some c->c.map g=(d.map a.eval).map some
 | [],c,h=>by simp[Uj]at h;subst h;rfl
 | x::r,c,h=>by
  unfold Uj at h;split at h
  ·rename_i l f k m;injection h with h
   subst h;have:=mD e x;rw[k]at this;obtain⟨b,i,j⟩:=this;simp only[Qp,akE e r f m,j,i]
  ·cases h
theorem ahO {t:TypeId}{x y:Operand}(B:ShOk S)(ho:o.op= .makeSlice t x y)(u:∀t E,T t=some E->TyOk P t E)(h:Hp S w0 N blk g al w)(W:∀n,fr<=n->n < fr+64->¬al n)(F:(aP slot x).Rel S (aS N blk g) w g (a.eval x))
  (C:(aP slot y).Rel S (aS N blk g) w g (a.eval y)) (c:avd T S fr t (aP slot x) (aP slot y)=some out) (hp:lG out.pre) (hK:Post S w0 N blk g al w fr out o.dst a K):o.wp P a w K Q:=by
 unfold avd at c;split at c
 ·cases c
 ·rename_i E O;split at c
  ·cases c
  ·rename_i e V;split at c
   ·cases c
   ·rename_i D X;have R:=lZ (u _ _ O) V;obtain⟨i,z,hi,hz,Z,q2,q3⟩:=Gj (u _ _ X);split at c
    ·rename_i k n k' m L Gy;rw[L]at F;rw[Gy]at C;simp only[Sl.Rel,Sv.Rel,Lf.Rel]at F C;split at c
     ·rename_i hc;simp only[iZ]at hc;have e2:0 < D.size:=by simp_all
      have e3:=Qa hc.2;have aa:z.cells.size=D.size:=by grind
      split at c
      ·rename_i d M;injection c with c
       subst c;obtain⟨rfl,p1,p2,p3⟩:=hp;obtain⟨s,z2,z3⟩:=B.zero _ _ _ _ M;have f:S.size d=D.size:=by grind
       have A:=run_make (P:=P) w t e i z R hi hz k k' n n p1 (N8 _) dm aj;have r:(execOp a.eval o).run P w= .ok (.value (.slice (some ⟨w.heap.size,0,none⟩) n.toNat n.toNat)) (w.alloc (.cells (madeCells z.cells (n.toNat*i.size)) e)):=by
        simp only[execOp,ho,F,C,Sem.run_bind,A,Result.andThen_ok,Sem.run_pure]
       have hB:Below w.heap.size w (w.alloc (.cells (madeCells z.cells (n.toNat*i.size)) e)):=(Below.refl w.heap.size w).alloc (pJ _) _;obtain⟨g1,g2,g3⟩:=h.add (l:=fr) (bk:= .row e d) (v:= .slice (some ⟨w.heap.size,0,none⟩) n.toNat n.toNat) hB (W fr (pJ _) aj) (fun b I=>by simp[dE]at I;omega)
        (fun M' hk _=>by
         refine⟨⟨fun b I=> .inl ?_,by rw[s];omega,B.axr _ _ _ _ M⟩,(madeCells z.cells (n.toNat*i.size)).toList,⟨?_, .inr ⟨w.heap.size,n.toNat,_,by rw[s],Gw _,heap_alloc_new w _,by omega,by simp only[maxLen];omega,?_,?_⟩⟩,fun J j p q=> ?_⟩
         ·simp only[dE,XM]at I;have:=h.below.size;omega
         ·rw[Qd4,size_madeCells,s,f,Z]
         ·rw[size_madeCells,f,Z]
         ·rw[Qb2]
          grind [size_madeCells]
         ·rw[s]at p;obtain⟨x0,hx0,Y⟩:=z3 J j p q;have hlt:=D5 p q;have U:j < z.cells.size:=by omega
          have G:(J*S.size d+j) % z.cells.size=j:=by rw[aa,<-f,Qby,Nat.mul_add_mod,Qc4 q]
          refine⟨z.cells[j],?_,B.data _ _ _ aj q,Y.rel ?_⟩
          ·have H:J*S.size d+j < n.toNat*i.size:=by grind
           simp[madeCells,H,G,U]
          grind [Lf.Rel.norm,Ec])
       exact mW r (hK _ _ _ g3 g2 (g1.weaken XP) (upd_same _ _ _))
      ·cases c
     ·cases c
    ·cases c
end
end Go.Vc
