/- Own engine: Vd4, Vd5, Vd6, Vd7, Vdf. -/
import Derived.Test.YtjojefbphdmnjaaGreatDoorEng1
import Derived.WalkSpells
import Derived.Maps.AppendAt
import Derived.Laws.MakeOwn
set_option linter.unusedVariables false
set_option linter.unusedSimpArgs false
namespace Go.Vc
open Go.RowKit
def iU {a:Type}:(Nat->a)->List (Nat×a)->(Nat->a)
 | f,[]=>f
 | f,(k,v)::r=>iU (upd f k v) r
def aC0 {D:Type}:Dl D->Option Pv
 | .bool b=>some (.bool b)
 | .int k n=>some (.int k n)
 | .str s=>some (.str s)
 | _=>none
def KH {D:Type}:List (Dl D)->Option (List Pv)
 | []=>some []
 | x::b=>(match aC0 x,KH b with
  | some p,some a=>some (p::a)
  | _,_=>none)
def Lf.Le {D:Type}(S:Sh D)(x y:Lf D):Prop:=x=y\/(x= .val (.slice none 0 0)/\∃d,y= .dat d/\S.len d=0/\S.mp d=none)\/(∃b,x= .val (.bool b)/\y= .bool b)\/(∃t e a c,x= .xt (.ifd t e a)/\y= .Uo (some ⟨t,e,c⟩)/\KH a=some c)\/∃d,x= .xt (.clip d)/\y= .dat d
structure ShOk {D:Type}(S:Sh D):Prop where
 make:∀e n cs d,S.make e n cs=some d->S.len d=n/\cs.length=n*S.size d/\
  ∀i j,i < n->j < S.size d->∃x,cs[i*S.size d+j]? =some x/\x.Le S (S.cell d i j)
 data:∀d i j,i < S.len d->j < S.size d->(S.cell d i j).iT=true
 zero:∀e n zs d,S.zero e n zs=some d->S.len d=n/\zs.length=S.size d/\∀i j,i < n->j < S.size d->∃x,zs[j]? =some x/\x.Le S (S.cell d i j)
 set:∀d i j xs d',S.set d i j xs=some d'->i < S.len d->S.size d'=S.size d/\S.len d'=S.len d/\
  ∀i' j',i' < S.len d->j' < S.size d->(i'=i/\j<=j'/\j' < j+xs.length->∃x,xs[j' - j]? =some x/\x.Le S (S.cell d' i' j'))/\(¬(i'=i/\j<=j'/\j' < j+xs.length)->S.cell d' i' j'=S.cell d i' j')
 cat:∀d1 d2 d,S.cat d1 d2=some d->S.size d1=S.size d/\S.size d2=S.size d/\S.len d=S.len d1+S.len d2/\
  (∀i j,i < S.len d1->S.cell d i j=S.cell d1 i j)/\∀i j,i < S.len d2->S.cell d (S.len d1+i) j=S.cell d2 i j
 sub:∀d i j d',S.sub d i j=some d'->i<=j->j<=S.len d->S.size d'=S.size d/\S.len d'=j - i/\∀k c,k < j - i->S.cell d' k c=S.cell d (i+k) c
 text:∀e s d,S.text e s=some d->S.size d=1/\S.len d=s.length/\∀i,i < s.length->S.cell d i 0= .int .u8 (s.getD i 0).toNat
 aap:∀e n cs d,S.make e n cs=some d->S.mp d=none
 aaq:∀e n zs d,S.zero e n zs=some d->S.mp d=none
 aIK:∀d i j xs d',S.set d i j xs=some d'->S.mp d=none->S.mp d'=none
 akv:∀d1 d2 d,S.cat d1 d2=some d->S.mp d=none
 D7:∀d i j d',S.sub d i j=some d'->S.mp d=none/\S.mp d'=none
 aJC:∀e s d,S.text e s=some d->S.mp d=none
 xK:∀d m,S.mp d=some m->S.len d=0/\S.size d=0/\azl S m
 aA_:∀t d,S.avd t=some d->∃m,S.mp d=some m/\m.kvs=[]
 aJB:∀i d,S.MW i=some d->S.mp d=none
theorem ShOk.ann {D:Type}{S:Sh D}(h:ShOk S){d:D}(b:0 < S.size d):S.mp d=none:=by
 cases a:S.mp d with
 | none=>rfl
 | some m=>have:=(h.xK d m a).2.1;omega
def d_ {D:Type}(S:Sh D)(M:Nat->Prop)(w:World)(g:Nat->Option Value):List (Sl D)->List Value->Prop
 | [],[]=>True
 | x::a,v::b=>x.Rel S M w g v/\d_ S M w g a b
 | _,_=>False
def noG:Nat->Option Value:=fun _=>none
def jC {D:Type}(a:List (Bk D)):Nat->Option (Bk D):=fun i=>a[i]?
structure CtOk {D:Type}(P:Program)(S:Sh D)(f:FuncId)(ct:Ct D):Prop where
 enters:∀(args:Array Value) (w:World),(callFunc f args).run P w= .ok (.enter f args) w
 calls:∀(X N:Nat->Prop) (g:Nat->Option Value) (w:World) (args:List Value) (nC:List (Sl D)) (bY:List (Bk D)) (p:Option DP) (r:Sl D) (post:List (Nat×Bk D)) (keep:List Nat),
  Hp S ⟨w,X⟩ N (jC bY) g (· < bY.length) w->d_ S (aJ N (jC bY) g) w g nC args->ct nC bY=some (p,r,post,keep)->kF p->
  Calls P f args.toArray w fun e w'=>∃v g',e= .returned v/\More g g'/\Hp S ⟨w,X⟩ N (yC post keep bY) g' (fun _=>True) w'/\r.Rel S (aJ N (yC post keep bY) g') w' g' v
section
variable {D:Type}{P:Program}{S:Sh D}{T:TypeId->Option Ty}{M N:Nat->Prop}{w w':World}{w0:Bs}{g:Nat->Option Value}{blk:Nat->Option (Bk D)}{al:Nat->Prop}
 {a:Act} {o:Oper} {K:Act->World->Prop} {Q:Exit->Act->World->Prop} {slot:Nat->Sl D} {out:Out D} {fr:Nat}
def Post (S:Sh D)(f:Bs)(N:Nat->Prop)(c:Nat->Option (Bk D))(g:Nat->Option Value)(h:Nat->Prop)(w:World)(e:Nat)(b:Out D)(d:Option Tmp)(a:Act)(K:Act->World->Prop):Prop:=
 ∀v w' g',More g g'->Keeps (aJ N c g) w (aJ N (iU c b.blks) g') w'->Hp S f N (iU c b.blks) g' (fun n=>h n\/(e<=n/\n < e+64)) w'->
  b.val.Rel S (aJ N (iU c b.blks) g') w' g' v->K (a.put d v) w'
theorem Hp.weaken {a:Nat->Prop}(h:Hp S w0 N blk g al w)(c:∀n,al n->a n):Hp S w0 N blk g a w:=⟨h.below,h.hN,h.bY,h.sep,fun l v b=>c l (h.al l v b),h.refs,h.gl⟩
theorem jA {v:Value}(b:(execOp a.eval o).run P w= .ok (.value v) w')(c:K (a.put o.dst v) w'):o.wp P a w K Q:=by
 simp only[Oper.wp,b,Oper.upon_value];exact c
theorem Ic (b:(execOp a.eval o).run P w= .ok .skip w')(c:K (a.put o.dst undef) w'):o.wp P a w K Q:=by
 simp only[Oper.wp,b,Oper.upon_skip];exact c
theorem aly {v:Value}(h:Hp S w0 N blk g al w)(b:Post S w0 N blk g al w fr out o.dst a K)(c:out.blks=[])(d:out.val.Rel S (aJ N blk g) w g v):K (a.put o.dst v) w:=by
 refine b v w g (More.refl _) ?_ ?_ ?_<;>rw[c]
 ·exact Keeps.refl _ _
 ·exact h.weaken fun _ h=> .inl h
 ·exact d
theorem aP {v:Value}(d:(execOp a.eval o).run P w= .ok (.value v) w)(h:Hp S w0 N blk g al w)(b:Post S w0 N blk g al w fr out o.dst a K)(c:out.blks=[])
  (e:out.val.Rel S (aJ N blk g) w g v):o.wp P a w K Q:=jA d (aly h b c e)
theorem xZ (v:Value):(vk v:Lf D).Rel S M w g v:=by
 cases v with
 | string s=>
  show(if s.data.size.ble 9223372036854775807=true then Lf.str s.data.toList else Lf.val (Value.string s):Lf D).Rel S M w g _
  split
  ·rename_i h;cases s;exact⟨by simp,by simp_all⟩
  ·rfl
 | nilIface=>exact⟨rfl,trivial⟩
 | _=>rfl
theorem Dj {x:Sl D}{v:Value}{b:Bool}(h:bOf x=some b)(a:x.Rel S M w g v):v= .bool b:=by
 unfold bOf at h;split at h
 ·injection h with h;subst h;exact a
 ·injection h with h;subst h;exact a
 ·cases h
theorem Lf.Rel.norm {x:Lf D}{v:Value}(h:x.Rel S M w g v):x.norm.Rel S M w g v:=by
 unfold Lf.norm;split
 ·exact h
 ·exact h
theorem aN.norm:∀{b:List (Lf D)} {a:List Value},aN S M w g b a->aN S M w g (b.map Lf.norm) a
 | [],[],_=>trivial
 | _::_,_::_,h=>⟨h.1.norm,aN.norm h.2⟩
theorem Sv.Rel.norm {x:Sv D}{v:Value}(h:x.Rel S M w g v):x.norm.Rel S M w g v:=by
 cases x with
 | lf x=>exact Lf.Rel.norm h
 | agg d=>obtain⟨c,b,a⟩:=h;exact⟨c,b,a.norm⟩
theorem fQ.norm:∀{b:List (Sv D)} {a:List Value},fQ S M w g b a->fQ S M w g (b.map Sv.norm) a
 | [],[],_=>trivial
 | _::_,_::_,h=>⟨h.1.norm,fQ.norm h.2⟩
theorem Sl.Rel.norm {x:Sl D}{v:Value}(h:x.Rel S M w g v):x.norm.Rel S M w g v:=by
 cases x with
 | one x=>exact Sv.Rel.norm h
 | tup d=>obtain⟨c,b,a⟩:=h;exact⟨c,b,a.norm⟩
theorem d_.norm:∀{b:List (Sl D)} {a:List Value},d_ S M w g b a->d_ S M w g (b.map Sl.norm) a
 | [],[],_=>trivial
 | _::_,_::_,h=>⟨h.1.norm,d_.norm h.2⟩
theorem pR:∀(a:List Value),aN S M w g (a.map (vk:Value->Lf D)) a
 | []=>trivial
 | v::a=>⟨xZ v,pR a⟩
theorem akE (v:Value):(aAD v:Sl D).Rel S M w g v:=by
 cases v with
 | agg cs=>exact⟨cs.toList,by simp,pR _⟩
 | string s=>exact xZ (.string s)
 | nilIface=>exact⟨rfl,trivial⟩
 | _=>rfl
theorem mM (b:∀t,(slot t).Rel S M w g (a.tmps.getD t undef))(x:Operand):(aI slot x).Rel S M w g (a.eval x):=by
 cases x with
 | tmp t=>exact b t
 | const v=>exact akE v
 | global n=>trivial
 | func f=>exact⟨[],rfl,rfl⟩
theorem Jq (c:∀t,(slot t).Rel S M w g (a.tmps.getD t undef)):∀(b:List Operand),d_ S M w g (b.map (aI slot)) (b.map a.eval)
 | []=>trivial
 | x::b=>⟨mM c x,Jq c b⟩
theorem kW {t:TypeId}{a:Ty}(h:TyOk P t a):∃i d z b,P.info? t=some i/\P.underlying t=some d/\i.zero=some z/\
  a=⟨kindOf d,EN P t,i.size,i.bytes,z.cells.toList,I4 P d,agk d,abS P t d,b,arz d,xw z,ahN d⟩:=by
 unfold TyOk aG8 at h;split at h
 ·rename_i i d e c;split at h
  ·rename_i z f;injection h with h
   refine⟨i,d,z,a.lit,e,c,f,?_⟩;simp_all
  ·cases h
 ·cases h
theorem uK {t:TypeId}{b:Ty}(h:TyOk P t b)(w:World):(isAgg t).run P w= .ok b.agg w:=by
 obtain⟨i,d,z,c,e,a,f,rfl⟩:=kW h;simp only[isAgg,Sem.run_bind,run_underlying a,Result.andThen_ok,EN,a];cases d<;>rfl
theorem jG {t:TypeId}{a:Ty}(h:TyOk P t a)(w:World):(sizeOf t).run P w= .ok a.size w:=by
 obtain⟨i,d,z,c,b,e,f,rfl⟩:=kW h;simp[sizeOf,typeInfo,b]
theorem zi {t:TypeId}{a:Ty}(h:TyOk P t a)(w:World):∃z,(zeroValue t).run P w= .ok z w/\z.cells.toList=a.zero:=by
 obtain⟨i,d,z,e,b,f,c,rfl⟩:=kW h;exact⟨z,by simp[zeroValue,typeInfo,b,c],rfl⟩
theorem jr {t e:TypeId}{a:Ty}(h:TyOk P t a)(b:a.elem=some e):P.underlying t=some (.slice e):=by
 obtain⟨i,d,z,c,g,f,j,rfl⟩:=kW h;cases d<;>simp[agk]at b
 grind
theorem aC_ {t e:TypeId}{n:Nat}{a:Ty}(h:TyOk P t a)(b:a.arr=some (e,n)):P.underlying t=some (.array n e):=by
 obtain⟨i,d,z,c,g,f,j,rfl⟩:=kW h;cases d<;>simp[arz]at b
 grind
theorem aeF {t:TypeId}{a:Ty}(h:TyOk P t a)(w:World):∃z,(zeroValue t).run P w= .ok z w/\z.cells.toList=a.zero/\xw z=a.zag:=by
 obtain⟨i,d,z,e,b,f,c,rfl⟩:=kW h;exact⟨z,by simp[zeroValue,typeInfo,b,c],rfl,rfl⟩
theorem lK {t:TypeId}{a:Ty}(h:TyOk P t a):∃d,P.underlying t=some d/\kindOf d=a.kind:=by
 grind [kW]
theorem Gv {t:TypeId}{e:Ty}{f b k:Nat}{g:Bool}(h:TyOk P t e)(j:e.ano[f]? =some (b,k,g)):
  ∃c a,P.underlying t=some (.struct c)/\c[f]? =some a/\a.offset=b/\cellsIn P a.type=k/\EN P a.type=g:=by
 obtain⟨i,d,z,l,n,m,o,rfl⟩:=kW h;cases d with
 | struct c=>
  simp only[I4,Qb5,Qbw,Qbd]at j
  grind
 | _=>simp[I4]at j
theorem oL {t:TypeId}{n:Nat}(h:cellsIn P t=n)(b:n≠0)(w:World):(sizeOf t).run P w= .ok n w:=by
 unfold cellsIn at h;split at h
 ·unfold Program.cellsOf at h;cases a:P.info? t with
  | none=>grind
  | some i=>rw[a]at h;simp at h;simp[sizeOf,typeInfo,a,h]
 omega
theorem asW {t:TypeId}{n:Nat}(h:cellsIn P t=n)(c:n≠0)(w:World):(isAgg t).run P w= .ok (EN P t) w:=by
 unfold cellsIn at h;split at h
 ·rename_i b;obtain⟨d,a⟩:=Qbi.1 b;simp only[isAgg,Sem.run_bind,run_underlying a,Result.andThen_ok,EN,a];cases d<;>rfl
 omega
theorem run_loadCells (c:Addr):∀(b:List Value) (i:Nat) (a:Array Value),(∀k u,b[k]? =some u->w.cell? (c.add (i+k))=some u)->
  (loadCellsFrom c i b.length a).run P w= .ok (a++b.toArray) w
 | [],i,a,_=>by rfl
 | v::b,i,a,h=>by
  have d:=h 0 v rfl;simp only[Qba]at d;have f:=run_loadCells c b (i+1) (a.push v) fun k u e=>by
   have:=h (k+1) u (by simpa using e)
   grind
  simp only[uU,loadCellsFrom,Sem.run_bind,load];simp only[Sem.run,d,Result.andThen_ok];simp_all
theorem jY (b o n:Nat):(⟨b,o,none⟩:Addr).add n=⟨b,o+n,none⟩:=by
 unfold Addr.add
 grind
theorem add_add' (a:Addr)(i j:Nat):(a.add i).add j=a.add (i+j):=by
 unfold Addr.add
 grind
theorem cell_of {b:Nat}{a:List Value}{t:TypeId}(h:w.heap[b]? =some (.cells a.toArray t (0,0)))(i:Nat):w.cell? ⟨b,i,none⟩=a[i]? :=by
 simp[World.cell?,h]
def one':Value->Bool
 | .agg _ | .tuple _=>false
 | _=>true
theorem jZ (b t:Nat):∀(c:List Value) (w:World) (a:List Value) (o i:Nat),w.heap[b]? =some (.cells a.toArray t (0,0))->o+i+c.length<=a.length->c.all one'=true->
  ∃d,(storeCells ⟨b,o,none⟩ c i).run P w= .ok () d/\d.heap[b]? =some (.cells (a.take (o+i)++(c++a.drop (o+i+c.length))).toArray t (0,0))/\
   (∀n,n≠b->d.heap[n]? =w.heap[n]?)/\d.heap.size=w.heap.size/\d.os=w.os/\d.tape=w.tape/\d.output=w.output
 | [],w,a,o,i,h,_,_=>⟨w,by rfl,by simpa using h,fun _ _=>rfl,rfl,rfl,rfl,rfl⟩
 | u::c,w,a,o,i,h,l,f=>by
  simp only[Qdh,iW]at f;simp only[uU]at l;have g:o+i < a.length:=by omega
  have q:w.cell? ⟨b,o+i,none⟩=some a[o+i]:=by rw[cell_of h];simp[g]
  have s:w.frozen? ⟨b,o+i,none⟩=false:=by simp[World.frozen?,h]
  have e:(w.setCell ⟨b,o+i,none⟩ u).heap[b]? =some (.cells (a.set (o+i) u).toArray t (0,0)):=by
   simp[World.setCell,Qdb,h]
  obtain⟨d,A,p,y,r,v,x,m⟩:=jZ b t c (w.setCell ⟨b,o+i,none⟩ u) (a.set (o+i) u) o (i+1) e qb8 f.2;refine⟨d,?_,?_,fun n j=>(y n j).trans ?_,r.trans (by simp_all),v,x,m⟩
  ·simp only[storeCells,Sem.run_bind,store,jY];have k:(Sem.store Mode.plain ⟨b,o+i,none⟩ u (Sem.pure ())).run P w= .ok () (w.setCell ⟨b,o+i,none⟩ u):=by
    cases u<;>first | (simp[one']at f;done) | simp[Sem.run,q,s]
   simp_all
  ·rw[p];congr 2;have z:(a.set (o+i) u).take (o+(i+1))=a.take (o+i)++[u]:=by
    rw[show o+(i+1)=(o+i)+1 by omega,Qbk (by simpa using g),Qdt,List.set_eq_of_length_le qb8];simp
   have B:(a.set (o+i) u).drop (o+(i+1)+c.length)=a.drop (o+i+(u::c).length):=by
    rw[Qcx ah];congr 1;simp;omega
   grind
  ·simp only[World.setCell,Qdb]
   grind
end
end Go.Vc
namespace Go.Vc
open Go.RowKit
section
variable {D:Type}{P:Program}{S:Sh D}{T:TypeId->Option Ty}{M N:Nat->Prop}{w w':World}{w0:Bs}{g:Nat->Option Value}{blk:Nat->Option (Bk D)}{al:Nat->Prop}
 {a:Act} {o:Oper} {K:Act->World->Prop} {Q:Exit->Act->World->Prop} {slot:Nat->Sl D} {out:Out D} {fr:Nat}
theorem Il {x:Lf D}{v:Value}(m:∀l u,g l=some u->isRef u=true)(q:x.storable=true)(h:x.Rel S M w g v):one' v=true:=by
 cases x with
 | any=>simp[Lf.storable]at q
 | val u=>simp only[Lf.Rel]at h;subst h;cases v<;>first | rfl | simp[Lf.storable]at q
 | bool b=>simp only[Lf.Rel]at h;subst h;rfl
 | int k n=>simp only[Lf.Rel]at h;subst h;rfl
 | str s=>obtain⟨rfl,_⟩:=h;rfl
 | ptr l o=>obtain⟨b,_,rfl⟩:=h;rfl
 | dat d=>rcases bQ.form h with⟨a,c,rfl⟩ | ⟨r,rfl⟩<;>rfl
 | elt d i j=>obtain⟨a,n,c,_,_,rfl⟩:=h;rfl
 | fn f y=>obtain⟨z,rfl,_⟩:=h;rfl
 | own l=>have:=m l v h;cases v<;>first | rfl | simp[isRef]at this
 | opt l i j t=>obtain⟨b,n,c,_,rfl⟩:=h;rfl
 | unk p=>obtain⟨b,rfl,_⟩:=h;rfl
 | part l i j t f=>obtain⟨a,n,c,_,rfl,_⟩:=h;rfl
 | glb i=>simp only[Lf.Rel]at h;subst h;rfl
 | Uo x=>obtain⟨rfl,_⟩:=h;cases x<;>rfl
 | xt e=>cases e<;>(obtain⟨u,rfl,_⟩:=h;rfl)
theorem pG {u:Sv D}{v:Value}(a:∀l u,g l=some u->isRef u=true)(b:u.whole=true)(h:u.Rel S M w g v):aN S M w g u.cells v.cells.toList:=by
 cases u with
 | lf x=>
  have c:=Il a b h;have:v.cells= #[v]:=by cases v<;>first | rfl | simp[one']at c
  rw[this];exact⟨h,trivial⟩
 | agg e=>obtain⟨f,rfl,d⟩:=h;simpa[Sv.cells,Value.cells]using d
theorem jq (a:∀l u,g l=some u->isRef u=true):∀{b:List (Lf D)} {d:List Value},b.all Lf.storable=true->aN S M w g b d->d.all one'=true
 | [],[],_,_=>rfl
 | x::b,v::d,c,h=>by
  simp only[Qdh,iW]at c⊢;exact⟨Il a c.1 h.1,jq a c.2 h.2⟩
theorem yV {u:Sv D}(h:u.cells.all Lf.storable=true):u.whole=true:=by
 cases u with
 | lf x=>simpa[Sv.cells,Sv.whole]using h
 | agg a=>rfl
theorem aN.append:∀{a c:List (Lf D)} {b d:List Value},aN S M w g a b->aN S M w g c d->aN S M w g (a++c) (b++d)
 | [],_,[],_,_,h=>h
 | _::_,_,_::_,_,h,e=>⟨h.1,aN.append h.2 e⟩
theorem aN.take:∀(n:Nat) {b:List (Lf D)} {a:List Value},aN S M w g b a->aN S M w g (b.take n) (a.take n)
 | 0,_,_,_=>by simp[aN]
 | _+1,[],[],_=>by simp[aN]
 | n+1,_::_,_::_,h=>⟨h.1,aN.take n h.2⟩
theorem aN.drop:∀(n:Nat) {b:List (Lf D)} {a:List Value},aN S M w g b a->aN S M w g (b.drop n) (a.drop n)
 | 0,_,_,h=>by simpa using h
 | _+1,[],[],_=>by simp[aN]
 | n+1,_::_,_::_,h=>by simpa using aN.drop n h.2
theorem aN.putAt {c d:List (Lf D)}{a b:List Value}(h:aN S M w g c a)(e:aN S M w g d b)(o:Nat):aN S M w g (putAt c o d) (a.take o++(b++a.drop (o+b.length))):=by
 unfold Vc.putAt
 grind [append,drop,length,take]
theorem JP (h:Hp S w0 N blk g al w){l:Nat}{cs:List (Lf D)}(c:blk l=some (.cells cs)){b:Nat}(f:g l=some (.pointer (some ⟨b,0,none⟩))):
  ∃a t,w.heap[b]? =some (.cells (List.toArray a) t (0,0))/\aN S (aJ N blk g) w g cs a:=by
 obtain⟨v,j,d,a,t,rfl,_,e,i⟩:=h.bY l _ c
 grind
theorem Wx {e:TypeId}{cs:List (Lf D)}{vs:Array Value}(h:Hp S w0 N blk g al w)(hfr:∀n,fr<=n->n < fr+64->¬al n)(q:(execOp a.eval o).run P w= .ok (.value (.pointer (some ⟨w.heap.size,0,none⟩))) (w.alloc (.cells vs e)))
  (i:aN S (aJ N blk g) w g cs vs.toList) (c:Post S w0 N blk g al w fr ⟨none, .one (.lf (.ptr fr 0)),[(fr,some (.cells cs))]⟩ o.dst a K):o.wp P a w K Q:=by
 obtain⟨k,d,j⟩:=h.add (l:=fr) (bk:= .cells cs) (v:= .pointer (some ⟨w.heap.size,0,none⟩)) ((Below.refl w.heap.size w).alloc (lH _) (.cells vs e)) (hfr fr (lH _) ah) (fun b f=>by simp[dB]at f;omega)
  (fun M' p _=>⟨w.heap.size,vs.toList,e,rfl, .inl h.below.size,heap_alloc_new w _,i.keep p (fun l v hl=>by rw[bI _ _ _ _ qbk];exact hl)⟩)
 exact jA q (c _ _ _ j d (k.weaken fun n m=>m.elim .inl fun e=> .inr ⟨Qcu e.symm,by omega⟩) ⟨w.heap.size,upd_same _ _ _,rfl⟩)
theorem abm {t:TypeId}{b:Ty}(k:o.op= .alloc t)(f:TyOk P t b)(h:Hp S w0 N blk g al w)(c:∀n,fr<=n->n < fr+64->¬al n)
  (i:Post S w0 N blk g al w fr ⟨none, .one (.lf (.ptr fr 0)),[(fr,some (.cells (b.zero.map vk)))]⟩ o.dst a K):o.wp P a w K Q:=by
 obtain⟨z,j,d⟩:=zi f w;refine Wx (vs:=z.cells) (e:=t) h c ?_ (by rw[d];exact pR _) i;simp[execOp,k,Instr.alloc,j,newVar,newRow,newObj,Sem.run]
theorem akY {t:TypeId}{x:Operand}{u:Sv D}(i:o.op= .box t x)(h:Hp S w0 N blk g al w)(b:∀n,fr<=n->n < fr+64->¬al n)(f:u.Rel S (aJ N blk g) w g (a.eval x))(d:u.whole=true)
  (c:Post S w0 N blk g al w fr ⟨none, .one (.lf (.ptr fr 0)),[(fr,some (.cells u.cells))]⟩ o.dst a K):o.wp P a w K Q:=by
 refine Wx (vs:=(a.eval x).cells) (e:=t) h b ?_ (pG h.refs d f) c;simp[execOp,i,Instr.box,newVar,newRow,newObj,Sem.run]
theorem vT {d:D}{c:Addr}{n l i:Nat}(h:bQ S M w d (.slice (some c) n l))(e:i < S.len d):∀(m j:Nat),j+m<=S.size d->
  ∃a:List Value,a.length=m/\aN S M w g (yT S d i j m) a/\∀k u,a[k]? =some u->w.cell? (c.add (i*S.size d+(j+k)))=some u
 | 0,j,_=>⟨[],rfl,trivial,fun k u f=>by simp at f⟩
 | m+1,j,r=>by
  obtain⟨u,s,p⟩:=h.cell (g:=g) e (show j < S.size d by omega);obtain⟨a,o,b,q⟩:=vT h e m (j+1) ah;refine⟨u::a,by simp[o],⟨p,b⟩,fun k x f=> ?_⟩
  grind
theorem qf {i j n m:Nat}(a:i < n)(b:j < m):i*m+j < n*m:=by
 have:(i+1)*m<=n*m:=Qbb m a
 grind
theorem RD (h:Hp S w0 N blk g al w){l i j b n o:Nat}{e:TypeId}{d:D}(q:blk l=some (.row e d))(B:g l=some (.slice (some ⟨b,0,none⟩) n o))(r:i < S.len d)(y:j < S.size d):
  ∃u,w.cell? ⟨b,i*S.size d+j,none⟩=some u/\(S.cell d i j).Rel S (aJ N blk g) w g u:=by
 obtain⟨v,c,_,G,⟨C,f⟩,t⟩:=h.bY l _ q;rw[B]at c;injection c with c
 subst c;obtain⟨u,E,_,z⟩:=t i j r y;refine⟨u,?_,z⟩;rcases f with⟨A,_⟩ | ⟨F,x,m,k,_,s,_,_,_,p⟩
 ·cases A
 ·injection k with a H I
  injection a with a
  injection a with a
  subst a;have:w.cell? ⟨b,i*S.size d+j,none⟩=m[i*S.size d+j]? :=by simp[World.cell?,s]
  grind
theorem ut (h:Hp S w0 N blk g al w){l i b n r:Nat}{e:TypeId}{d:D}(c:blk l=some (.row e d))(s:g l=some (.slice (some ⟨b,0,none⟩) n r))(f:i < S.len d):∀(m j:Nat),j+m<=S.size d->
  ∃a:List Value,a.length=m/\aN S (aJ N blk g) w g (yT S d i j m) a/\∀k u,a[k]? =some u->w.cell? ⟨b,i*S.size d+(j+k),none⟩=some u
 | 0,j,_=>⟨[],rfl,trivial,fun k u q=>by simp at q⟩
 | m+1,j,z=>by
  obtain⟨u,v,t⟩:=RD h c s f (show j < S.size d by omega);obtain⟨a,p,o,y⟩:=ut h c s f m (j+1) ah;refine⟨u::a,by simp[p],⟨t,o⟩,fun k x q=> ?_⟩
  grind
theorem ad4 {t:TypeId}{x:Operand}{A:Ty}(F:o.op= .load t x)(U:TyOk P t A)(X:T t=some A)(h:Hp S w0 N blk g al w)(G:(aI slot x).Rel S (aJ N blk g) w g (a.eval x))
  (c:LH T S blk t (aI slot x)=some out) (Z:kF out.pre) (E:Post S w0 N blk g al w fr out o.dst a K):o.wp P a w K Q:=by
 have p:=uK U w;have I:=jG U w;simp only[LH,X]at c;split at c
 ·
  rename_i l r H;rw[H]at G;obtain⟨b,L,B⟩:=G;split at c
  ·rename_i cs J;obtain⟨s,t',hh,q⟩:=JP h J L;split at c
   ·rename_i m;split at c
    ·rename_i z;injection c with c
     subst c;have hle':r+A.size<=s.length:=by rw[<-q.length];simp_all
     have f:=run_loadCells (P:=P) (w:=w) ⟨b,r,none⟩ ((s.drop r).take A.size) 0 #[] (fun k u hk=>by
      grind [jY,cell_of])
     rw[show((s.drop r).take A.size).length=A.size by simp;omega]at f;refine aP (v:= .agg ((s.drop r).take A.size).toArray) ?_ h E rfl ⟨_,rfl,(q.drop r).take _⟩;simp[execOp,F,Instr.loadAt,Instr.sureAddr,B,loadVar,p,m,I,loadCells,f]
    ·cases c
   ·rename_i m;split at c
    ·rename_i y hy;injection c with c
     subst c;obtain⟨v,aa,R⟩:=q.get r hy;refine aP (v:=v) ?_ h E rfl R;simp[execOp,F,Instr.loadAt,Instr.sureAddr,B,loadVar,p,m,load,Sem.run,cell_of hh,aa]
    ·cases c
  ·cases c
 ·
  rename_i d i j H;rw[H]at G;obtain⟨ad,n,cap,V,W,B⟩:=G;split at c
  ·rename_i m;split at c
   ·rename_i z;injection c with c
    subst c;obtain⟨s,M,q,hc⟩:=vT (g:=g) V W A.size j (Qa0 z);have f:=run_loadCells (P:=P) (w:=w) (ad.add (i*S.size d+j)) s 0 #[] (fun k u hk=>by
     grind [add_add'])
    rw[M]at f;refine aP (v:= .agg s.toArray) ?_ h E rfl ⟨_,rfl,q⟩;simp[execOp,F,Instr.loadAt,Instr.sureAddr,B,loadVar,p,m,I,loadCells,f]
   ·cases c
  ·rename_i m;split at c
   ·rename_i C;injection c with c
    subst c;obtain⟨u,O,q⟩:=V.cell (g:=g) W (by simpa[Qce]using C);refine aP (v:=u) ?_ h E rfl q;simp[execOp,F,Instr.loadAt,Instr.sureAddr,B,loadVar,p,m,load,Sem.run,O]
   ·cases c
 ·
  rename_i l i j Y H;rw[H]at G;obtain⟨b,n,cap,L,B⟩:=G;split at c
  ·rename_i e d J;split at c
   ·rename_i m;split at c
    ·rename_i z;injection c with c
     subst c;simp only[iW]at z;have D:Y=S.size d:=Qa z.2;subst D;obtain⟨s,M,q,hc⟩:=ut h J L Z A.size j (Qa0 z.1);have f:=run_loadCells (P:=P) (w:=w) ⟨b,i*S.size d+j,none⟩ s 0 #[] (fun k u hk=>by
      grind [jY])
     rw[M]at f;refine aP (v:= .agg s.toArray) ?_ h E rfl ⟨_,rfl,q⟩;simp[execOp,F,Instr.loadAt,Instr.sureAddr,B,loadVar,p,m,I,loadCells,f]
    ·cases c
   ·rename_i m;split at c
    ·rename_i C;injection c with c
     subst c;simp only[iW]at C;have D:Y=S.size d:=Qa C.2;subst D;obtain⟨u,O,q⟩:=RD h J L Z (by simpa[Qce]using C.1);refine aP (v:=u) ?_ h E rfl q;simp[execOp,F,Instr.loadAt,Instr.sureAddr,B,loadVar,p,m,load,Sem.run,O]
    ·cases c
  ·cases c
 ·cases c
theorem amU {t:TypeId}{x:Sl D}{v:Value}{s:Ty}(L:TyOk P t s)(Q:T t=some s)(h:Hp S w0 N blk g al w)(K:x.Rel S (aJ N blk g) w g v)
  (a:LH T S blk t x=some out) (U:kF out.pre):∃F u,v= .pointer (some F)/\(loadVar t F).run P w= .ok u w/\out.val.Rel S (aJ N blk g) w g u:=by
 have m:=uK L w;have C:=jG L w;simp only[LH,Q]at a;split at a
 ·
  rename_i l p;obtain⟨b,G,z⟩:=K;split at a
  ·rename_i cs E;obtain⟨q,t',Y,o⟩:=JP h E G;split at a
   ·rename_i f;split at a
    ·rename_i r;injection a with a
     subst a;have hle':p+s.size<=q.length:=by rw[<-o.length];simp_all
     have c:=run_loadCells (P:=P) (w:=w) ⟨b,p,none⟩ ((q.drop p).take s.size) 0 #[] (fun k u W=>by
      grind [jY,cell_of])
     rw[show((q.drop p).take s.size).length=s.size by simp;omega]at c;exact⟨_, .agg ((q.drop p).take s.size).toArray,z,by simp[loadVar,m,f,C,loadCells,c],⟨_,rfl,(o.drop p).take _⟩⟩
    ·cases a
   ·rename_i f;split at a
    ·rename_i y hy;injection a with a
     subst a;obtain⟨v,V,J⟩:=o.get p hy;exact⟨_,v,z,by simp[loadVar,m,f,load,Sem.run,cell_of Y,V],J⟩
    ·cases a
  ·cases a
 ·
  rename_i d i j;obtain⟨F,n,X,M,O,z⟩:=K;split at a
  ·rename_i f;split at a
   ·rename_i r;injection a with a
    subst a;obtain⟨q,H,o,Z⟩:=vT (g:=g) M O s.size j (Qa0 r);have c:=run_loadCells (P:=P) (w:=w) (F.add (i*S.size d+j)) q 0 #[] (fun k u W=>by
     grind [add_add'])
    rw[H]at c;exact⟨_, .agg q.toArray,z,by simp[loadVar,m,f,C,loadCells,c],⟨_,rfl,o⟩⟩
   ·cases a
  ·rename_i f;split at a
   ·rename_i A;injection a with a
    subst a;obtain⟨u,I,o⟩:=M.cell (g:=g) O (by simpa[Qce]using A);exact⟨_,u,z,by simp[loadVar,m,f,load,Sem.run,I],o⟩
   ·cases a
 ·
  rename_i l i j R;obtain⟨b,n,X,G,z⟩:=K;split at a
  ·rename_i e d E;split at a
   ·rename_i f;split at a
    ·rename_i r;injection a with a
     subst a;simp only[iW]at r;have B:R=S.size d:=Qa r.2;subst B;obtain⟨q,H,o,Z⟩:=ut h E G U s.size j (Qa0 r.1);have c:=run_loadCells (P:=P) (w:=w) ⟨b,i*S.size d+j,none⟩ q 0 #[] (fun k u W=>by
      grind [jY])
     rw[H]at c;exact⟨_, .agg q.toArray,z,by simp[loadVar,m,f,C,loadCells,c],⟨_,rfl,o⟩⟩
    ·cases a
   ·rename_i f;split at a
    ·rename_i A;injection a with a
     subst a;simp only[iW]at A;have B:R=S.size d:=Qa A.2;subst B;obtain⟨u,I,o⟩:=RD h E G U (by simpa[Qce]using A.1);exact⟨_,u,z,by simp[loadVar,m,f,load,Sem.run,I],o⟩
    ·cases a
  ·cases a
 ·cases a
end
end Go.Vc
namespace Go.Vc
open Go.RowKit
section
variable {D:Type}{P:Program}{S:Sh D}{T:TypeId->Option Ty}{M N:Nat->Prop}{w w':World}{w0:Bs}{g:Nat->Option Value}{blk:Nat->Option (Bk D)}{al:Nat->Prop}
 {a:Act} {o:Oper} {K:Act->World->Prop} {Q:Exit->Act->World->Prop} {slot:Nat->Sl D} {out:Out D} {fr:Nat}
theorem aaS {x:Dl D}{p:Pv}{v:Value}(h:aC0 x=some p)(a:x.Rel S M w v):v=p.val/\p.fits:=by
 unfold aC0 at h;split at h<;>first | (injection h with h;subst h;exact⟨a,trivial⟩) | (injection h with h;subst h;exact a) | (cases h;done)
theorem Wl:∀{b:List (Dl D)} {a:List Pv} {c:List Value},KH b=some a->rF S M w b c->c=a.map Pv.val/\∀p∈a,p.fits
 | [],a,[],h,_=>by simp[KH]at h;grind
 | x::b,a,v::c,h,d=>by
  unfold KH at h;split at h
  ·rename_i p g f e;injection h with h
   subst h;obtain⟨k,j⟩:=aaS f d.1;obtain⟨i,l⟩:=Wl e d.2
   grind
  ·cases h
theorem as7 {f:Bool}{c:List (Dl D)}{d:List Pv}{t:TypeId}{u:Value}(h:KH c=some d)(a:J8 S M w f c u):Value.iface t u=zF (some ⟨t,f,d⟩)/\∀p∈d,p.fits:=by
 cases f with
 | true=>
  obtain⟨k,rfl,a⟩:=a;obtain⟨e,b⟩:=Wl h a;exact⟨by rw[e];rfl,b⟩
 | false=>
  match c,a with
  | [x],a=>
   have a:x.Rel S M w u:=a;unfold KH at h;split at h
   ·rename_i p i e b;injection h with h
    subst h;injection b with b
    subst b;obtain⟨g,j⟩:=aaS e a;refine⟨by rw[g];rfl,fun p l=> ?_⟩
    grind
   ·cases h
theorem Lf.Le.rel {x y:Lf D}{v:Value}(h:x.Le S y)(a:x.Rel S M w g v):y.Rel S M w g v:=by
 rcases h with rfl | ⟨rfl,d,rfl,c,f⟩ | ⟨b,rfl,rfl⟩ | ⟨t,o,m,n,rfl,rfl,l⟩ | ⟨d,rfl,rfl⟩
 ·exact a
 ·simp only[Lf.Rel]at a;subst a;intro w' _;have:=zL.mk (S:=S) (w:=w') d f none 0 (fun _ _=> .bool false) ah ah (fun i j e _=>by omega) (fun i j e _=>by omega) (fun i j _ e _=>by omega)
  grind
 ·exact a
 ·obtain⟨u,rfl,k⟩:=a;exact as7 l k
 ·obtain⟨_,_,c⟩:=a;exact c
theorem acu {t:TypeId}{x y:Operand}{ty:Ty}(ho:o.op= .store t x y)(hT:TyOk P t ty)(hTT:T t=some ty)(h:Hp S w0 N blk g al w)(hx:(aI slot x).Rel S (aJ N blk g) w g (a.eval x))
  (hy:(aI slot y).Rel S (aJ N blk g) w g (a.eval y)) (c:Ym T S blk t (aI slot x) (aI slot y)=some out) (hS:ShOk S) (hp:kF out.pre) (hK:Post S w0 N blk g al w fr out o.dst a K):o.wp P a w K Q:=by
 have hsz:=jG hT w;unfold Ym at c;split at c
 ·rename_i ty' l L u f R Ag;rw[hTT]at f;injection f with f
  subst f;rw[R]at hx;rw[Ag]at hy;obtain⟨b,G,hv⟩:=hx;split at c
  ·rename_i cs D;split at c
   ·rename_i J;injection c with c
    subst c;simp only[iW]at J;obtain⟨⟨Y,V⟩,W⟩:=J;have Y:=Qa Y;have V:=Qa0 V;obtain⟨vs,t',hh,hr⟩:=JP h D G;have B:=pG h.refs (yV W) hy;have hlen:=B.length;obtain⟨w',A,M,hn,hs,q,X,H⟩:=jZ (P:=P) b t' (a.eval y).cells.toList w vs L 0 hh (by rw[<-hr.length];omega) (jq h.refs W B);have p:(execOp a.eval o).run P w= .ok .skip w':=by
     have E:(a.eval y).cells.size=ty.size:=by grind
     simp[execOp,ho,Instr.storeAt,Instr.sureAddr,hv,storeVar,hsz,E,A]
    obtain⟨O,Z⟩:=h.write (bk':= .cells (putAt cs L u.cells)) D rfl rfl G rfl q X H hs hn (fun hk=>by
     refine⟨b,_,t',rfl,(qN.lt (h.bY l _ D).choose_spec.2 rfl (by rw[Qc6 ((h.bY l _ D).choose_spec.1.symm.trans G)];rfl)).2,M,?_⟩;simpa using(hr.putAt B (L+0)).keep hk (More.refl _))
    exact Ic p (hK _ _ _ (More.refl _) Z (O.weaken fun _ h=> .inl h) trivial)
   ·cases c
  ·cases c
 ·rename_i ty' l i j sz u f R Ag;rw[hTT]at f;injection f with f
  subst f;rw[R]at hx;rw[Ag]at hy;obtain⟨b,n,cap,G,hv⟩:=hx;split at c
  ·rename_i e d D;split at c
   ·rename_i J;split at c
    ·rename_i d' I;injection c with c
     subst c;simp only[iW]at J;obtain⟨⟨⟨Y,V⟩,h4⟩,W⟩:=J;have Y:=Qa Y;have V:=Qa0 V;have h4:=Qa h4;subst h4;have hp:i < S.len d:=hp;obtain⟨es,el,ec⟩:=hS.set _ _ _ _ _ I hp;obtain⟨v,F,hm,xs,⟨hxl,hown⟩,hcell⟩:=h.bY l _ D;rw[G]at F;injection F with F
     subst F;have B:=pG h.refs (yV W) hy;have hlen:=B.length;rcases hown with⟨h0,_⟩ | ⟨b',cap',k,hvv,_,hh,hnc,hcm,hcs,htake⟩
     ·cases h0
     ·injection hvv with q X H
      injection q with q
      injection q with q
      subst q X H;have hh':w.heap[b]? =some (.cells (k.toList).toArray e (0,0)):=by simpa using hh
      have hrow:i*S.size d+S.size d<=S.len d*S.size d:=by rw[<-Nat.succ_mul];exact Qbb _ hp
      have hcap:S.len d*S.size d<=k.toList.length:=by grind
      obtain⟨w',A,M,hn,hs,q,X,H⟩:=jZ (P:=P) b e (a.eval y).cells.toList w k.toList (i*S.size d+j) 0 hh' ah (jq h.refs W B);have p:(execOp a.eval o).run P w= .ok .skip w':=by
       have E:(a.eval y).cells.size=ty.size:=by grind
       simp[execOp,ho,Instr.storeAt,Instr.sureAddr,hv,storeVar,hsz,E,A]
      generalize hus:(a.eval y).cells.toList=U at*;obtain⟨O,Z⟩:=h.write (bk':= .row e d') D rfl rfl G rfl q X H hs hn (fun hk=>by
       refine⟨⟨hm.1,by omega,hS.aIK _ _ _ _ _ I hm.2.2⟩,(k.toList.take (i*S.size d+j+0)++(U++k.toList.drop (i*S.size d+j+0+U.length))).take (S.len d*S.size d),⟨?_, .inr ⟨b,cap,(k.toList.take (i*S.size d+j+0)++(U++k.toList.drop (i*S.size d+j+0+U.length))).toArray,by rw[el],qR _,M,by omega,hcm,?_,by rw[el,es]⟩⟩,fun m r s z=> ?_⟩
       ·grind
       ·grind
       ·rw[el]at s;rw[es]at z;rw[es];have hlt:=qf s z;obtain⟨uo,hxo,hdo,hro⟩:=hcell m r s z;have hold:k.toList[m*S.size d+r]? =some uo:=by grind
        rw[Qc8,Ai hlt];by_cases hin:m=i/\j<=r/\r < j+u.cells.length
        ·obtain⟨rfl,hj1,hj2⟩:=hin;obtain⟨x,hx1,hx2⟩:=(ec m r s z).1 ⟨rfl,hj1,by simpa using hj2⟩;obtain⟨uv,huv,hrv⟩:=B.norm.get (r - j) hx1;refine⟨uv,?_,hS.data _ _ _ ah ah,?_⟩
         ·rw[Qa6 qb8,Qca qP,<-huv];congr 1;simp only[zU];omega
         ·exact(hx2.rel hrv).keep hk (More.refl _)
        ·rw[(ec m r s z).2 (by simpa using hin)];refine⟨uo,?_,hdo,hro.keep hk (More.refl _)⟩;rw[<-hold];have C:m*S.size d+r < i*S.size d+j\/i*S.size d+j+U.length<=m*S.size d+r:=by
          rcases Nat.lt_trichotomy m i with hlt' | rfl | hgt
          ·left
           have:(m+1)*S.size d<=i*S.size d:=Qbb _ hlt'
           grind
          ·omega
          ·right
           have:(i+1)*S.size d<=m*S.size d:=Qbb _ hgt
           grind
         rcases C with C | C
         ·rw[Qca qca,Qc8,Ai ah]
         ·rw[Qa6 qca,Qa6 qca,Qdn];congr 1;simp only[zU];omega)
      exact Ic p (hK _ _ _ (More.refl _) Z (O.weaken fun _ h=> .inl h) trivial)
    ·cases c
   ·cases c
  ·cases c
 ·cases c
theorem acL {t:TypeId}{x:Operand}{f:Nat}{I:Ty}(G:o.op= .fieldAddr t x f)(E:TyOk P t I)(J:T t=some I)(h:Hp S w0 N blk g al w)(s:(aI slot x).Rel S (aJ N blk g) w g (a.eval x))
  (c:BD T t (aI slot x) f=some out) (F:Post S w0 N blk g al w fr out o.dst a K):o.wp P a w K Q:=by
 simp only[BD,J]at c;split at c
 ·rename_i r u _ l O q A;rw[A]at s;obtain⟨b,H,B⟩:=s;obtain⟨R,M,y,C,p,m,_⟩:=Gv E q;split at c
  ·cases c
  ·rename_i k;have k:u≠0:=fun e=>k (by simp[e])
   injection c with c
   subst c;refine aP (v:= .pointer (some ⟨b,O+r,none⟩)) ?_ h F rfl ⟨b,H,rfl⟩;simp[execOp,G,Instr.fieldAt,run_underlying y,C,B,Instr.sureAddr,fieldPlace,oL m k,k,p,jY]
 ·rename_i r u _ d i j q A;rw[A]at s;obtain⟨L,n,D,U,V,B⟩:=s;obtain⟨R,M,y,C,p,m,_⟩:=Gv E q;split at c
  ·cases c
  ·rename_i k;have k:u≠0:=fun e=>k (by simp[e])
   injection c with c
   subst c;refine aP (v:= .pointer (some (L.add (i*S.size d+(j+r))))) ?_ h F rfl ⟨L,n,D,U,V,rfl⟩;simp[execOp,G,Instr.fieldAt,run_underlying y,C,B,Instr.sureAddr,fieldPlace,oL m k,k,p,add_add',Nat.add_assoc]
 ·rename_i r u _ l i j z q A;rw[A]at s;obtain⟨b,n,D,H,B⟩:=s;obtain⟨R,M,y,C,p,m,_⟩:=Gv E q;split at c
  ·cases c
  ·rename_i k;have k:u≠0:=fun e=>k (by simp[e])
   injection c with c
   subst c;refine aP (v:= .pointer (some ⟨b,i*z+(j+r),none⟩)) ?_ h F rfl ⟨b,n,D,H,rfl⟩;simp[execOp,G,Instr.fieldAt,run_underlying y,C,B,Instr.sureAddr,fieldPlace,oL m k,k,p,jY,Nat.add_assoc]
 ·cases c
theorem aeh {t:TypeId}{x:Operand}{f:Nat}{p:Ty}(D:o.op= .field t x f)(G:TyOk P t p)(q:T t=some p)(h:Hp S w0 N blk g al w)(F:(aI slot x).Rel S (aJ N blk g) w g (a.eval x))
  (b:ajx T t (aI slot x) f=some out) (B:Post S w0 N blk g al w fr out o.dst a K):o.wp P a w K Q:=by
 simp only[ajx,q]at b;split at b
 ·rename_i j r O cs u I;rw[I]at F;obtain⟨J,z,E⟩:=F;obtain⟨R,M,s,A,l,k,n⟩:=Gv G u;split at b
  ·cases b
  ·rename_i c;have c:r≠0:=fun e=>c (by simp[e])
   have d:=fun w=>asW k c w
   rw[n]at d;split at b
   ·rename_i i;split at b
    ·rename_i L;injection b with b
     subst b;refine aP (v:= .agg ((J.drop j).take r).toArray) ?_ h B rfl ⟨_,rfl,(E.drop j).take _⟩;simp[execOp,D,Instr.field,run_underlying s,A,z,asAgg,part,d,i,oL k c,l]
    ·cases b
   ·rename_i i;split at b
    ·rename_i y H;injection b with b
     subst b;obtain⟨v,C,m⟩:=E.get j H;refine aP (v:=v) ?_ h B rfl m;simp[execOp,D,Instr.field,run_underlying s,A,z,asAgg,part,d,i,l,C]
    ·cases b
 ·cases b
theorem Uy {x:Operand}{i:Nat}(l:o.op= .extract x i)(h:Hp S w0 N blk g al w)(e:(aI slot x).Rel S (aJ N blk g) w g (a.eval x))
  (b:S_ (aI slot x) i=some out) (f:Post S w0 N blk g al w fr out o.dst a K):o.wp P a w K Q:=by
 unfold S_ at b;split at b
 ·rename_i p k;rw[k]at e;obtain⟨q,n,m⟩:=e;split at b
  ·rename_i y j;injection b with b
   subst b;obtain⟨v,d,c⟩:=m.get i j;refine aP (v:=v) ?_ h f rfl c;simp[execOp,l,Instr.extract,n,d]
  ·cases b
 ·cases b
theorem aau {t:TypeId}{x D:Operand}(R:o.op= .indexAddr t x D)(G:∀t I,T t=some I->TyOk P t I)(h:Hp S w0 N blk g al w)(j:(aI slot x).Rel S (aJ N blk g) w g (a.eval x))
  (m:(aI slot D).Rel S (aJ N blk g) w g (a.eval D)) (c:agx T S blk t (aI slot x) (aI slot D)=some out) (M:kF out.pre) (O:Post S w0 N blk g al w fr out o.dst a K):o.wp P a w K Q:=by
 unfold agx at c;split at c
 ·cases c
 ·rename_i I Z;split at c
  ·cases c
  ·rename_i e W;split at c
   ·cases c
   ·rename_i E U;have y:=jr (G _ _ Z) W;have B:=jG (G _ _ U) w;split at c
    ·rename_i d k n C A;rw[C]at j;rw[A]at m;split at c
     ·rename_i q;simp only[iW]at q;have F:=Qa q.1;have X:0 < E.size:=by simp_all
      injection c with c
      subst c;obtain⟨p,r⟩:=M;simp only[Sl.Rel,Sv.Rel,Lf.Rel]at m;obtain⟨av,s,f,J⟩:=bQ.slice j ah;have u:n.toNat < S.len d:=by omega
      rw[f]at j;obtain⟨z,rfl⟩:=bQ.yG j u ah;refine aP (v:= .pointer (some (z.add (n.toNat*S.size d+0)))) ?_ h O rfl ⟨z,_,s,j,u,rfl⟩;simp[execOp,R,Instr.indexAt,m,asIntOf,run_underlying y,f,p,r,B,F]
     ·cases c
    ·rename_i l k n C A;rw[C]at j;rw[A]at m;split at c
     ·rename_i e' d L;split at c
      ·rename_i q;simp only[iW]at q;have F:=Qa q.1;have X:0 < E.size:=by simp_all
       injection c with c
       subst c;obtain⟨p,r⟩:=M;simp only[Sl.Rel,Sv.Rel,Lf.Rel]at m j;obtain⟨v,f,_,xs,⟨hxl,H⟩,_⟩:=h.bY l _ L;rw[j]at f;injection f with f
       rcases H with⟨h0,hz⟩ | ⟨b,s,cur,Y,_⟩
       ·omega
       ·rw[Y]at f;refine aP (v:= .pointer (some ⟨b,n.toNat*E.size+0,none⟩)) ?_ h O rfl ⟨b,_,s,j.trans (by rw[f]),rfl⟩;simp[execOp,R,Instr.indexAt,m,asIntOf,run_underlying y,f,p,r,B,jY]
      ·cases c
     ·rename_i d L;split at c
      ·rename_i q;simp only[iW]at q;have F:=Qa q.1;have X:0 < E.size:=by simp_all
       injection c with c
       subst c;obtain⟨p,r⟩:=M;simp only[Sl.Rel,Sv.Rel,Lf.Rel]at m j;obtain⟨v,f,i⟩:=h.bY l _ L;rw[j]at f;injection f with f
       have i:bQ S (aJ N blk g) w d v:=i;obtain⟨av,s,V,J⟩:=bQ.slice i ah;have u:n.toNat < S.len d:=by omega
       rw[V]at i f;obtain⟨z,rfl⟩:=bQ.yG i u ah;refine aP (v:= .pointer (some (z.add (n.toNat*S.size d+0)))) ?_ h O rfl ⟨z,_,s,i,u,rfl⟩;simp[execOp,R,Instr.indexAt,m,asIntOf,run_underlying y,f,p,r,B,F]
      ·cases c
     ·cases c
    ·cases c
theorem jR {op:BinOp}{t:TypeId}{x y:Operand}{u v:Value}(a:one' u=true)(b:u≠ .nilIface):(eqGuard op t x y u v).run P w= .ok () w:=by
 cases u<;>first | (simp[one']at a;done) | (simp at b;done) | (cases op<;>rfl)
theorem zx {a:List Value}{i:Nat}{u:Value}{r:List Value}(h:a.drop i=u::r):a[i]? =some u/\a.drop (i+1)=r:=by
 constructor
 ·have:=Qb3 (·[0]?) h
  grind
 ·have:=Qb3 (·.drop 1) h;simpa[Nat.add_comm]using this
theorem aiO {d:Nat}{t:TypeId}{k:Nat}{x y:Lf D}{u v:Value}{e:Bool}(b:Qx P t=some k)(l:x.Rel S M w g u)(j:y.Rel S M w g v)(a:eq1 k x y=some e):
  (Op.equalIn (d+1) t u v).run P w= .ok e w/\(isAgg t).run P w= .ok false w:=by
 unfold Qx at b;split at b
 ·rename_i c;injection b with b
  subst b;simp only[eq1]at a;split at a
  ·injection a with a
   subst a;cases l;cases j;exact⟨by simp[Op.equalIn,run_underlying c],by simp[isAgg,run_underlying c]⟩
  ·cases a
 ·rename_i c;injection b with b
  subst b;simp only[eq1]at a;split at a
  ·split at a
   ·rename_i f;injection a with a
    subst a;cases l;cases j;simp only[Yl,Qb6]at f;subst f;exact⟨by simp[Op.equalIn,run_underlying c],by simp[isAgg,run_underlying c]⟩
   ·cases a
  ·cases a
 ·rename_i c;injection b with b
  subst b;simp only[eq1]at a;split at a
  ·rename_i h i;injection a with a
   subst a;obtain⟨rfl,_⟩:=l;obtain⟨rfl,_⟩:=j;refine⟨?_,by simp[isAgg,run_underlying c]⟩;have:((⟨h.toArray⟩:ByteArray)==⟨i.toArray⟩)=(h==i):=by
    show(h.toArray==i.toArray)=_
    simp
   simp[Op.equalIn,run_underlying c,this]
  ·cases a
 ·cases b
theorem aif {d:Nat}{us vs:Array Value}:∀(s:List Field) (i:Nat) (q:List Nat) (j l:List (Lf D)) (r:Bool),eqFields P i s=some q->rV q j l=some r->
  aN S M w g j (us.toList.drop i)->aN S M w g l (vs.toList.drop i)->
  (forIn (m:=Sem) s ((none:Option Bool),()) fun f _=>if f.name≠ "_" then do
    let a<-part f.type us f.offset
    let b<-part f.type vs f.offset
    let e<-Op.equalIn (d+1) f.type a b
    if (!e)=true then pure (ForInStep.done (some false,()))else pure (ForInStep.yield (none,()))
   else pure (ForInStep.yield (none,()))).run P w= .ok (if r then none else some false,()) w
 | [],i,q,j,l,r,h,c,o,n=>by
  simp only[eqFields,Og]at h;subst h;cases j with
  | cons x j=>simp[rV]at c
  | nil=>
   cases l with
   | cons y l=>simp[rV]at c
   | nil=>
    simp only[rV,Og]at c;simp_all
 | f::s,i,q,j,l,r,h,c,o,n=>by
  unfold eqFields at h;split at h
  ·rename_i k z O A;split at h
   ·rename_i B;simp only[iW,Qa5]at B;obtain⟨⟨p,t⟩,T⟩:=B;have p:=Qa p;have t:f.name≠ "_" :=by simpa using t
    injection h with h
    subst h;cases j with
    | nil=>simp[rV]at c
    | cons x j=>
     cases l with
     | nil=>simp[rV]at c
     | cons y l=>
      unfold rV at c;split at c
      ·rename_i e I F G;injection c with c
       subst c;generalize H:us.toList.drop i=U at o;generalize E:vs.toList.drop i=V at n;cases U with
       | nil=>exact o.elim
       | cons u U=>
        cases V with
        | nil=>exact n.elim
        | cons v V=>
         obtain⟨Q,u2⟩:=zx H;obtain⟨N,R⟩:=zx E;obtain⟨J,C⟩:=aiO (d:=d) O o.1 n.1 F;have W:=aif (d:=d) (us:=us) (vs:=vs) s (i+1) z j l I A G (by rw[u2];exact o.2) (by rw[R];exact n.2);have L:(part f.type us f.offset).run P w= .ok u w:=by
          have:us[i]? =some u:=by simpa using Q
          simp[part,C,p,this]
         have K:(part f.type vs f.offset).run P w= .ok v w:=by
          have:vs[i]? =some v:=by simpa using N
          simp[part,C,p,this]
         rw[List.forIn_cons];simp only[t,ne_eq,not_false_eq_true,if_true,Sem.run_bind,L,K,J,Result.andThen_ok];cases e with
         | false=>simp
         | true=>
          simp_all
      ·cases c
   ·cases h
  ·cases h
theorem asw {d n0:Nat}{e:TypeId}{k:Nat}{us vs:Array Value}(z:Qx P e=some k):∀(n i:Nat) (h j:List (Lf D)) (r:Bool),rV (List.replicate n k) h j=some r->
  aN S M w g h (us.toList.drop i)->aN S M w g j (vs.toList.drop i)->
  (forIn (m:=Sem) (List.range' i n) ((none:Option Bool),()) fun i _=>do
    let a<-part e us (i*1)
    let b<-part e vs (i*1)
    let c<-Op.equalIn (d+1) e a b
    if (!c)=true then pure (ForInStep.done (some false,()))else pure (ForInStep.yield (none,()))).run P w= .ok (if r then none else some false,()) w
 | 0,i,h,j,r,f,o,l=>by
  cases h with
  | cons x h=>simp[rV]at f
  | nil=>
   cases j with
   | cons y j=>simp[rV]at f
   | nil=>
    simp only[List.replicate,rV,Og]at f;simp_all
 | n+1,i,h,j,r,f,o,l=>by
  rw[List.replicate_succ]at f;cases h with
  | nil=>simp[rV]at f
  | cons x h=>
   cases j with
   | nil=>simp[rV]at f
   | cons y j=>
    unfold rV at f;split at f
    ·rename_i c B s t;injection f with f
     subst f;generalize A:us.toList.drop i=U at o;generalize q:vs.toList.drop i=V at l;cases U with
     | nil=>exact o.elim
     | cons u U=>
      cases V with
      | nil=>exact l.elim
      | cons v V=>
       obtain⟨H,u2⟩:=zx A;obtain⟨G,I⟩:=zx q;obtain⟨C,p⟩:=aiO (d:=d) z o.1 l.1 s;have J:=asw (d:=d) (n0:=n0) (us:=us) (vs:=vs) z n (i+1) h j B t (by rw[u2];exact o.2) (by rw[I];exact l.2);have F:(part e us (i*1)).run P w= .ok u w:=by
        have:us[i]? =some u:=by simpa using H
        simp[part,p,this]
       have E:(part e vs (i*1)).run P w= .ok v w:=by
        have:vs[i]? =some v:=by simpa using G
        simp[part,p,this]
       rw[List.range'_succ,List.forIn_cons];simp only[Sem.run_bind,F,E,C,Result.andThen_ok];cases c with
       | false=>simp
       | true=>
        simp_all
    ·cases f
theorem VL {t:TypeId}{p:Ty}{us vs:List Value}{h j:List (Lf D)}{k:Nat}{y:List Nat}{r:Bool}(B:TyOk P t p)(a:p.eqs=k::y)(E:rV (k::y) h j=some r)(hx:aN S M w g h us)(v:aN S M w g j vs):
  (Op.equal t (.agg us.toArray) (.agg vs.toArray)).run P w= .ok r w/\P.eqGuardType P.depth t=false:=by
 obtain⟨i,d,z,K,I,m,L,rfl⟩:=kW B;cases d with
 | struct G=>
  simp only[abS]at a;split at a
  ·cases a
  ·rename_i f;simp only[Qbg,not_or,Qdc]at f;obtain⟨C,F⟩:=f;refine⟨?_,F⟩;split at a
   ·rename_i H s;subst a
    suffices b:∀d,(Op.equalIn (d+1+1) t (.agg us.toArray) (.agg vs.toArray)).run P w= .ok r w from b 9998
    intro d;have:=aif (P:=P) (w:=w) (d:=d) (us:=us.toArray) (vs:=vs.toArray) G.toList 0 _ h j r s E qco (by simpa using v);rw[Array.forIn_toList]at this;simp only[Op.equalIn,Sem.run_bind,run_underlying m,Result.andThen_ok,program];simp only[Sem.run,Result.andThen_ok,C,Qbl,if_false];rw[Sem.run_bind];refine(Qb3 (fun x=>Result.andThen x _) this).trans ?_;rw[Result.andThen_ok];cases r<;>rfl
   ·cases a
 | array n e=>
  simp only[abS]at a;split at a
  ·cases a
  ·rename_i f;simp only[Qdc]at f;refine⟨?_,f⟩;split at a
   ·rename_i N J A l;split at a
    ·rename_i c;have c:=Qa c
     suffices b:∀d,(Op.equalIn (d+1+1) t (.agg us.toArray) (.agg vs.toArray)).run P w= .ok r w from b 9998
     intro d;have:=asw (P:=P) (w:=w) (d:=d) (n0:=0) (us:=us.toArray) (vs:=vs.toArray) A n 0 h j r qP qco (by simpa using v);have u:(sizeOf e).run P w= .ok 1 w:=by simp[sizeOf,typeInfo,l,c]
     obtain⟨o,q⟩:∃o,o=d+1:=⟨_,rfl⟩;rw[<-q]at this⊢;simp only[Op.equalIn,Sem.run_bind,run_underlying m,Result.andThen_ok,u,Std.Legacy.Range.forIn_eq_forIn_range',Std.Legacy.Range.size];rw[show(n - 0+1 - 1) / 1=n by simp];refine(Qb3 (fun x=>Result.andThen x _) this).trans ?_;rw[Result.andThen_ok];cases r<;>rfl
    ·cases a
   ·cases a
 | _=>simp[abS]at a
theorem afE {op:BinOp}{t H:TypeId}{x y:Operand}(q:o.op= .binOp op t x y H)(s:∀t z,T t=some z->TyOk P t z)(h:Hp S w0 N blk g al w)(c:(aI slot x).Rel S (aJ N blk g) w g (a.eval x))
  (f:(aI slot y).Rel S (aJ N blk g) w g (a.eval y)) (b:aiA T S op t (aI slot x) (aI slot y)=some out) (p:Post S w0 N blk g al w fr out o.dst a K):o.wp P a w K Q:=by
 unfold aiA at b;split at b
 ·cases b
 ·rename_i z r;split at b
  ·rename_i e d A n D;split at b
   rotate_left
   ·cases b
   rename_i C;have C:0 < S.size d:=by simp_all
   have i:=jr (s _ _ r) A;rw[n]at c;rw[D]at f;have c:bQ S (aJ N blk g) w d (a.eval x):=c;have f:a.eval y= .slice none 0 0:=f;obtain⟨k,m,B,F⟩:=bQ.slice c C;have l:k.isNone=true->S.len d=0:=fun I=>by
    rw[B]at c;rcases Qdo (S.len d)with E | E
    ·exact E
    ·obtain⟨J,rfl⟩:=bQ.yG c E C;cases I
   have j:=fun w=>jR (P:=P) (w:=w) (op:=op) (t:=t) (x:=x) (y:=y) (u:= .slice k (S.len d) m) (v:= .slice none 0 0) rfl oG
   split at b
   ·injection b with b;subst b
    refine aP (v:= .bool k.isNone) ?_ h p rfl ⟨_,rfl,l⟩;simp[execOp,q,B,f,j,Lib.run_eql_slice_nil w t e k (S.len d) m 0 0 i]
   ·injection b with b;subst b
    refine aP (v:= .bool (!k.isNone)) ?_ h p rfl ⟨_,rfl,fun G=>l (by simpa using G)⟩;simp[execOp,q,B,f,j,run_neq_slice_nil_any w t e k (S.len d) m 0 0 i]
   ·cases b
  ·rename_i e A n D;have i:=jr (s _ _ r) A;rw[n]at c;rw[D]at f;have c:a.eval x= .slice none 0 0:=c;have f:a.eval y= .slice none 0 0:=f;have j:=fun w=>jR (P:=P) (w:=w) (op:=op) (t:=t) (x:=x) (y:=y) (u:= .slice none 0 0) (v:= .slice none 0 0) rfl oG
   split at b
   ·injection b with b;subst b
    refine aP (v:= .bool true) ?_ h p rfl rfl;simp[execOp,q,c,f,j,Lib.run_eql_slice_nil w t e none 0 0 0 0 i]
   ·injection b with b;subst b
    refine aP (v:= .bool false) ?_ h p rfl rfl;simp[execOp,q,c,f,j,run_neq_slice_nil_any w t e none 0 0 0 0 i]
   ·cases b
  ·cases b
theorem amD {op:BinOp}{t yt:TypeId}{x y:Operand}(i:o.op= .binOp op t x y yt)(E:∀t A,T t=some A->TyOk P t A)(h:Hp S w0 N blk g al w)(f:(aI slot x).Rel S (aJ N blk g) w g (a.eval x))
  (e:(aI slot y).Rel S (aJ N blk g) w g (a.eval y)) (b:aDm T op t (aI slot x) (aI slot y)=some out) (j:kF out.pre) (l:Post S w0 N blk g al w fr out o.dst a K):o.wp P a w K Q:=by
 unfold aDm at b;split at b
 ·rename_i k n O m p C;rw[p]at f;rw[C]at e;simp only[Sl.Rel,Sv.Rel,Lf.Rel]at f e;split at b
  ·
   have c:=fun w=>jR (P:=P) (w:=w) (op:= .shl) (t:=t) (x:=x) (y:=y) (u:= .int k n) (v:= .int O m) rfl oG
   injection b with b
   subst b;have j:0<=m:=j;refine aP (v:=_) ?_ h l rfl rfl;simp[execOp,i,f,e,c,binOp,Op.shift,show ¬m < 0 by omega,UN]
  ·have c:=fun w=>jR (P:=P) (w:=w) (op:= .shr) (t:=t) (x:=x) (y:=y) (u:= .int k n) (v:= .int O m) rfl oG
   injection b with b
   subst b;have j:0<=m:=j;refine aP (v:=_) ?_ h l rfl rfl;simp[execOp,i,f,e,c,binOp,Op.shift,show ¬m < 0 by omega,qM]
  ·split at b
   rotate_left
   ·cases b
   rename_i hns aJ1 q;have q:k=O:=by simpa[Yl]using q
   subst q;have c:=fun w=>jR (P:=P) (w:=w) (op:=op) (t:=t) (x:=x) (y:=y) (u:= .int k n) (v:= .int k m) rfl oG
   unfold aH7 at b;split at b<;>first
    | (
      injection b with b;subst b
      refine aP (v:=_) ?_ h l rfl rfl;first
       | (simp[execOp,i,f,e,c,binOp,Op.intArith,wrp];done)
       | (simp[execOp,i,f,e,c,binOp,Op.intBits,qE,orI,I7,aGP];done)
       | (simp[execOp,i,f,e,c,binOp,Op.intCmp];done)
       | (simp[execOp,i,f,e,c,binOp,Op.intDiv,show m≠0 from j];done)
       | (simp[execOp,i,f,e,c,binOp,Op.intDiv,show m≠0 from j,wrp];done))
    | cases b
 ·rename_i s u p C;rw[p]at f;rw[C]at e;simp only[Sl.Rel,Sv.Rel,Lf.Rel]at f e;obtain⟨f,hxl⟩:=f;obtain⟨e,hyl⟩:=e;have c:=fun w=>jR (P:=P) (w:=w) (op:=op) (t:=t) (x:=x) (y:=y) (u:= .string ⟨s.toArray⟩) (v:= .string ⟨u.toArray⟩) rfl oG
  unfold aG9 at b;split at b<;>first
   | (
     injection b with b;subst b
     refine aP (v:=_) ?_ h l rfl rfl;simp[execOp,i,f,e,c,binOp,Op.stringOp,bne];done)
   | (cases b;done)
   | skip
  injection b with b
  subst b;have D:=run_string_add_sum (P:=P) w ⟨s.toArray⟩ ⟨u.toArray⟩ (by simpa[ByteArray.size,kF]using j);rw[ByteArray.mk_append_mk]at D;refine aP (v:= .string ⟨(s++u).toArray⟩) ?_ h l rfl ⟨rfl,by simpa[kF]using j⟩;simp[execOp,i,f,e,c,binOp,D]
 ·rename_i xs ys p C;rw[p]at f;rw[C]at e;obtain⟨us,I,F⟩:=f;obtain⟨Z,G,H⟩:=e;split at b
  ·rename_i A z;split at b
   ·cases b
   ·rename_i ks hne;cases B:A.eqs with
    | nil=>grind
    | cons k ks'=>
     rw[B]at b;split at b
     ·rename_i r L;injection b with b;subst b
      obtain⟨R,M⟩:=VL (E _ _ z) B L F.norm H.norm;refine aP (v:= .bool r) ?_ h l rfl rfl;have c:(eqGuard .eql t x y (.agg us.toArray) (.agg Z.toArray)).run P w= .ok () w:=by
       simp only[eqGuard,program];simp[Sem.run,M]
      simp[execOp,i,I,G,c,binOp,R]
     ·rename_i r L;injection b with b;subst b
      obtain⟨R,M⟩:=VL (E _ _ z) B L F.norm H.norm;refine aP (v:= .bool (!r)) ?_ h l rfl rfl;have c:(eqGuard .neq t x y (.agg us.toArray) (.agg Z.toArray)).run P w= .ok () w:=by
       simp only[eqGuard,program];simp[Sem.run,M]
      simp[execOp,i,I,G,c,binOp,R]
     ·cases b
  ·cases b
 ·split at b
  ·rename_i s u V W
   have f:=Dj V f;have e:=Dj W e;have c:=fun w=>jR (P:=P) (w:=w) (op:=op) (t:=t) (x:=x) (y:=y) (u:= .bool s) (v:= .bool u) rfl oG
   split at b
   ·rename_i A z;split at b
    ·rename_i q;obtain⟨d,U,Y⟩:=lK (E _ _ z);have q:A.kind=1:=by simpa using q
     rw[q]at Y;have U:P.underlying t=some .bool:=by cases d<;>simp_all [kindOf]
     have X:∀n,(Op.equalIn (n+1) t (.bool s) (.bool u)).run P w= .ok (s==u) w:=fun n=>by simp[Op.equalIn,run_underlying U]
     have J:(Op.equal t (.bool s) (.bool u)).run P w= .ok (s==u) w:=X 9999;split at b<;>first
      | (
        injection b with b;subst b
        refine aP (v:=_) ?_ h l rfl rfl;simp[execOp,i,f,e,c,binOp,J,bne];done)
      | cases b
    ·cases b
   ·cases b
  ·cases b
theorem aqQ {j:UnOp}{t:TypeId}{x:Operand}(i:o.op= .unOp j t x)(h:Hp S w0 N blk g al w)(d:(aI slot x).Rel S (aJ N blk g) w g (a.eval x))
  (c:xUn j (aI slot x)=some out) (q:kF out.pre) (f:Post S w0 N blk g al w fr out o.dst a K):o.wp P a w K Q:=by
 unfold xUn at c;split at c
 ·rename_i b e;rw[e]at d;simp only[Sl.Rel,Sv.Rel,Lf.Rel]at d;injection c with c;subst c
  refine aP (v:=_) ?_ h f rfl rfl;simp[execOp,i,d,Op.unary]
 ·rename_i b e;rw[e]at d;simp only[Sl.Rel,Sv.Rel,Lf.Rel]at d;injection c with c;subst c
  refine aP (v:=_) ?_ h f rfl rfl;simp[execOp,i,d,Op.unary]
 ·rename_i p e;rw[e]at d;obtain⟨b,m,l⟩:=d;injection c with c;subst c
  refine aP (v:= .bool (!b)) ?_ h f rfl ⟨!b,rfl,by simpa using l⟩;simp[execOp,i,m,Op.unary]
 ·rename_i k n e;rw[e]at d;simp only[Sl.Rel,Sv.Rel,Lf.Rel]at d;injection c with c;subst c
  refine aP (v:=_) ?_ h f rfl rfl;simp[execOp,i,d,Op.unary,Op.intArith,wrp]
 ·rename_i k n e;rw[e]at d;simp only[Sl.Rel,Sv.Rel,Lf.Rel]at d;injection c with c;subst c
  refine aP (v:=_) ?_ h f rfl rfl;simp[execOp,i,d,Op.unary,Op.intBits,I7]
 ·cases c
theorem aeZ {c x y:Operand}(ho:o.op= .pick c x y)(h:Hp S w0 N blk g al w)(hc:(aI slot c).Rel S (aJ N blk g) w g (a.eval c))(i:(aI slot x).Rel S (aJ N blk g) w g (a.eval x))
  (f:(aI slot y).Rel S (aJ N blk g) w g (a.eval y)) (b:asE slot c x y=some out) (e:Post S w0 N blk g al w fr out o.dst a K):o.wp P a w K Q:=by
 unfold asE at b;split at b
 ·rename_i d;rw[d]at hc;simp only[Sl.Rel,Sv.Rel,Lf.Rel]at hc;injection b with b;subst b
  exact aP (v:=a.eval x) qcg h e rfl i
 ·rename_i d;rw[d]at hc;simp only[Sl.Rel,Sv.Rel,Lf.Rel]at hc;injection b with b;subst b
  exact aP (v:=a.eval y) qcg h e rfl f
 ·rename_i t d;rw[d]at hc;simp only[Sl.Rel,Sv.Rel,Lf.Rel]at hc;split at b
  ·rename_i p q j k;have i:=Dj j i;have f:=Dj k f;injection b with b;subst b
   cases t
   ·exact aP (v:=a.eval y) qcg h e rfl f
   ·exact aP (v:=a.eval x) qcg h e rfl i
  ·cases b
 ·cases b
end
end Go.Vc
namespace Go.Vc
open Go.RowKit
section
variable {D:Type}{P:Program}{S:Sh D}{T:TypeId->Option Ty}{Γ:FuncId->Option (Ct D)}{M N:Nat->Prop}{w w':World}{w0:Bs}{g:Nat->Option Value}{blk:Nat->Option (Bk D)}{al:Nat->Prop}
 {a:Act} {o:Oper} {K:Act->World->Prop} {Q:Exit->Act->World->Prop} {slot:Nat->Sl D} {out:Out D} {fr:Nat}
theorem Wn:∀(b:List Value) (a k:Nat) (cs:Array Value),a+k+b.length<=cs.size->
  ((b.zipIdx k).foldl (fun(cs:Array Value) (p:Value×Nat)=>cs.setIfInBounds (a+p.2) p.1) cs).toList=cs.toList.take (a+k)++(b++cs.toList.drop (a+k+b.length))
 | [],a,k,cs,_=>by simp
 | u::b,a,k,cs,h=>by
  simp only[uU]at h;have c:a+k < cs.toList.length:=by simp;omega
  rw[List.zipIdx_cons,List.foldl_cons,Wn b a (k+1) _ qb8];simp only[Array.toList_setIfInBounds];have d:(cs.toList.set (a+k) u).take (a+(k+1))=cs.toList.take (a+k)++[u]:=by
   rw[show a+(k+1)=(a+k)+1 by omega,Qbk (by simpa using c),Qdt,List.set_eq_of_length_le qb8];simp
  have e:(cs.toList.set (a+k) u).drop (a+(k+1)+b.length)=cs.toList.drop (a+k+(u::b).length):=by
   rw[Qcx ah]
   grind
  grind
theorem abR {v:Value}{a:Nat}{cs:Array Value}(h:a+v.cells.size<=cs.size):
  (v.cells.zipIdx.foldl (fun(cs:Array Value) (p:Value×Nat)=>cs.setIfInBounds (a+p.2) p.1) cs).toList=cs.toList.take a++(v.cells.toList++cs.toList.drop (a+v.cells.toList.length)):=by
 rw[<-Array.foldl_toList,Array.toList_zipIdx];simpa using Wn v.cells.toList a 0 cs qbs
theorem ajf {o:Ty}{place:Nat->Option (Nat×Nat)}(i:∀l u,g l=some u->isRef u=true)(q:∀t,(slot t).Rel S M w g (a.tmps.getD t undef))
  (s:∀f d m z,o.ano[f]? =some (d,m,z)->place f=some (d,m)):
  ∀(parts:List (Nat×Operand)) (cs c:List (Lf D)) (e:Array Value),aN S M w g cs e.toList->Z_ o slot parts cs=some c->
   ∃k,Instr.fill place e (parts.map fun p=>(p.1,a.eval p.2))=some k/\aN S M w g c k.toList
 | [],cs,c,e,h,b=>⟨e,rfl,by injection b with b;grind⟩
 | (f,x)::r,cs,c,e,h,b=>by
  unfold Z_ at b;split at b
  ·rename_i d m z u J B;split at b
   ·rename_i j;simp only[iW]at j;obtain⟨⟨C,v⟩,y⟩:=j;have v:=Qa v;have y:=Qa0 y;have A:=mM q x;rw[B]at A;have j:=pG i C A;have I:=j.length;have E:=h.length;have G:(a.eval x).cells.size=m:=by grind
    have n:d+(a.eval x).cells.size<=e.size:=by
     grind
    obtain⟨k,F,H⟩:=ajf i q s r _ c _ (by rw[abR n];exact h.putAt j d) b
    grind [Instr.fill]
   ·cases b
  ·cases b
theorem zV:∀(a:List Field),(∀f∈a,cellsIn P f.type≠0)->
  (a.mapM fun f=>(do pure (f.offset,<-sizeOf f.type):Sem (Nat×Nat))).run P w= .ok (a.map fun f=>(f.offset,cellsIn P f.type)) w
 | [],_=>rfl
 | f::a,h=>by
  have c:=oL (P:=P) rfl (h f oG) w;have d:=zV a fun x b=>h x (by simp[b])
  simp_all
theorem acK {t:TypeId}{parts:Array (Nat×Operand)}(q:o.op= .build t parts)(C:∀t k,T t=some k->TyOk P t k)(h:Hp S w0 N blk g al w)
  (E:∀t,(slot t).Rel S (aJ N blk g) w g (a.tmps.getD t undef)) (b:aeO T slot t parts=some out) (G:Post S w0 N blk g al w fr out o.dst a K):o.wp P a w K Q:=by
 unfold aeO at b;split at b
 ·rename_i k A;have u:=C _ _ A;split at b
  ·rename_i m;simp only[iW]at m;split at b
   ·rename_i cs F;injection b with b
    subst b;obtain⟨z,H,y⟩:=zi u w;obtain⟨i,d,O,R,L,D,I,rfl⟩:=kW u;cases d with
    | struct r=>
     have n:∀f∈r.toList,cellsIn P f.type≠0:=by
      intro f l;have:=m.2;simp only[I4,List.all_map,Qa3,Function.comp,Qa5]at this;intro e;have:=this f l;simp_all
     obtain⟨j,c,B⟩:=ajf (a:=a) (place:=fun f=>((r.toList.map fun f=>(f.offset,cellsIn P f.type)).toArray)[f]?) h.refs E (fun f J M U q=>by
      simp only[I4,Qb5,Qbw,Qbd]at q
      grind) parts.toList _ cs z.cells (by rw[y];exact pR _) F
     refine aP (v:= .agg j) ?_ h G rfl ⟨j.toList,by simp,B⟩;have l:=zV (P:=P) (w:=w) r.toList n;have s:parts.toList.map (fun p=>(p.1,a.eval p.2))=(parts.map fun(i,x)=>(i,a.eval x)).toList:=by simp
     rw[s]at c;simp only[execOp,q,Instr.build,Sem.run_bind,H,Result.andThen_ok,run_underlying D];rw[Qcw];simp only[Sem.run_map,l,Result.andThen_ok,Sem.run_pure];simp at c;simp[c]
    | _=>simp[kindOf]at m
   ·cases b
  ·cases b
 ·cases b
theorem Qi {sz:Nat}(e:∀l u,g l=some u->isRef u=true)(n:∀t,(slot t).Rel S M w g (a.tmps.getD t undef)):
  ∀(parts:List (Nat×Operand)) (cs c:List (Lf D)) (d:Array Value),aN S M w g cs d.toList->Hy sz slot parts cs=some c->
   ∃k,Instr.fill (fun i=>some (i*sz,sz)) d (parts.map fun p=>(p.1,a.eval p.2))=some k/\aN S M w g c k.toList
 | [],cs,c,d,h,b=>⟨d,rfl,by injection b with b;grind⟩
 | (f,x)::r,cs,c,d,h,b=>by
  unfold Hy at b;split at b
  ·rename_i u v;split at b
   ·rename_i j;simp only[iW]at j;obtain⟨⟨y,o⟩,q⟩:=j;have o:=Qa o;have q:=Qa0 q;have s:=mM n x;rw[v]at s;have j:=pG e y s;have E:=j.length;have z:=h.length;have B:(a.eval x).cells.size=sz:=by grind
    have m:f*sz+(a.eval x).cells.size<=d.size:=by
     grind
    obtain⟨k,A,C⟩:=Qi e n r _ c _ (by rw[abR m];exact h.putAt j (f*sz)) b
    grind [Instr.fill]
   ·cases b
  ·cases b
theorem EW {x:Lf D}{u:Value}(c:x.iT=true)(h:x.Rel S M w g u)(d:∀b,b < w.heap.size->¬M b->w'.heap[b]? =w.heap[b]?):Lf.plain x u/\∀a,x= .dat a->zL S w' a u:=by
 cases x<;>first | (simp[Lf.iT]at c;done) | exact⟨h,fun a e=>by cases e⟩ | exact⟨trivial,fun a e=>by cases e;exact h w' d⟩
theorem ak6 {d:D}{b n:Nat}{e:TypeId}{h:Array Value}{cs:List (Lf D)}(l:ShOk S)(p:S.make e n cs=some d)(r:w.heap[b]? =some (.cells h e (0,0)))(o:¬M b)(A:aN S M w g cs h.toList)(E:n<=9223372036854775807):
  bQ S M w d (.slice (some ⟨b,0,none⟩) n n):=by
 intro w' s;obtain⟨F,C,z⟩:=l.make e n cs d p;have q:=(s b (Nl r) o).trans r;have m:∀i j,i < n->j < S.size d->∃u,h.toList[i*S.size d+j]? =some u/\Lf.plain (S.cell d i j) u/\∀k,S.cell d i j= .dat k->zL S w' k u:=by
  intro i j c a;obtain⟨x,y,v⟩:=z i j c a;obtain⟨u,f,t⟩:=A.get _ y;exact⟨u,f,EW (l.data d i j ah a) (v.rel t) s⟩
 have:=zL.mk (S:=S) (w:=w') d (l.aap _ _ _ _ p) (some ⟨b,0,none⟩) n (fun i j=>(h.toList[i*S.size d+j]?).getD undef) ah ah
  (fun i j c a=>by
   obtain⟨u,f,_⟩:=m i j ah a;refine⟨_,rfl,?_⟩;simp only[f,Qde];rw[jY,JH];simp[World.cell?,q,<-f])
  (fun i j c a=>by
   grind)
  (fun i j k c a B=>by
   grind)
 grind
theorem sound_row {t:TypeId}{n:Nat}{parts:Array (Nat×Operand)}(F:ShOk S)(ho:o.op= .buildSlice t n parts)(C:∀t J,T t=some J->TyOk P t J)(h:Hp S w0 N blk g al w)
  (hs:∀t,(slot t).Rel S (aJ N blk g) w g (a.tmps.getD t undef)) (hfr:∀n,fr<=n->n < fr+64->¬al n) (c:aCo T S slot fr t n parts=some out) (hK:Post S w0 N blk g al w fr out o.dst a K):o.wp P a w K Q:=by
 unfold aCo at c;split at c
 ·cases c
 ·rename_i J hty;split at c
  ·cases c
  ·rename_i e Z;split at c
   ·cases c
   ·rename_i f H;have Y:=jr (C _ _ hty) Z;have hsz:=jG (C _ _ H) w;obtain⟨z,G,hzc⟩:=zi (C _ _ H) w;split at c
    ·rename_i E;simp only[iW]at E;obtain⟨⟨h1,y⟩,h3⟩:=E;have h1:=Qa0 h1;have y:0 < f.size:=by simp_all
     have h3:=Qa h3;have V:z.cells.size=f.size:=by grind
     split at c
     ·rename_i cs hf;split at c
      ·rename_i d L;let r:Array Value:=(Array.range (n*f.size)).map fun k=>z.cells[k % z.cells.size]!
       have hzr:aN S (aJ N blk g) w g ((List.range (n*f.size)).map fun k=>(vk ((f.zero[k % f.size]?).getD (.bool false)):Lf D)) r.toList:=by
        have:r.toList=(List.range (n*f.size)).map fun k=>(f.zero[k % f.size]?).getD (.bool false):=by
         simp only[r,Array.toList_map,Array.toList_range];apply Qbq;intro k _;have hk:k % f.size < z.cells.size:=by rw[V];exact Qck _ y
         grind
        rw[this];have G:=pR (S:=S) (M:=aJ N blk g) (w:=w) (g:=g) (D:=D) ((List.range (n*f.size)).map fun k=>(f.zero[k % f.size]?).getD (.bool false));rw[Qcb]at G;exact G
       obtain⟨q,m,B⟩:=Qi (a:=a) h.refs hs parts.toList _ cs r hzr hf;have hB:Below w.heap.size w (w.alloc (.cells q e)):=(Below.refl w.heap.size w).alloc (lH _) _;obtain⟨hp',I⟩:=h.grow hB;have s:(execOp a.eval o).run P w= .ok (.value (.slice (some ⟨w.heap.size,0,none⟩) n n)) (w.alloc (.cells q e)):=by
        have U:parts.toList.map (fun p=>(p.1,a.eval p.2))=(parts.map fun(i,x)=>(i,a.eval x)).toList:=by simp
        rw[U]at m;simp only[execOp,ho,Instr.buildSlice,Sem.run_bind,run_underlying Y,Result.andThen_ok,hsz];rw[vF ah];by_cases A:n*f.size=0
        ·simp only[A,if_true,Sem.run_bind,Sem.run_pure,Result.andThen_ok];have e0:r= #[]:=by simp[r,A]
         rw[e0]at m;simp at m;simp[m,newRow,newObj,Sem.run,show Array.range 0= #[]from rfl]
        ·simp only[A,if_false,Sem.run_bind,Sem.run_pure,Result.andThen_ok,G];simp only[r]at m;simp at m;simp[m,newRow,newObj,Sem.run]
       split at c
       ·injection c with c
        subst c;obtain⟨O,q2,q3⟩:=F.make _ _ _ _ L;have X:q.toList.length=n*S.size d:=by rw[<-q2,Na];exact B.length.symm
        obtain⟨g1,g2,g3⟩:=h.add (l:=fr) (bk:= .row e d) (v:= .slice (some ⟨w.heap.size,0,none⟩) n n) hB (hfr fr (lH _) ah) (fun b R=>by simp[dB]at R;omega)
         (fun M' hk _=>by
          refine⟨⟨fun b R=> .inl ?_,⟨by rw[O];have:n*1<=n*f.size:=Qc2 n y;omega,F.aap _ _ _ _ L⟩⟩,q.toList,⟨by grind, .inr ⟨w.heap.size,n,q,by rw[O],qR _,heap_alloc_new w _,by omega,?_,by simpa using X,?_⟩⟩,fun i j W hj=> ?_⟩
          ·simp only[dB,Og]at R;have:=h.below.size;omega
          ·have:n*1<=n*f.size:=Qc2 n y;simp only[maxLen];omega
          ·grind
          ·rw[O]at W;obtain⟨x,E,hle⟩:=q3 i j W hj;obtain⟨u,hu,hru⟩:=B.norm.get _ E;refine⟨u,hu,F.data d i j ah hj,(hle.rel hru).keep hk (fun l v hl=> ?_)⟩;rw[bI _ _ _ _ qbk];exact hl)
        exact jA s (hK _ _ _ g3 g2 (g1.weaken fun n A=>A.elim .inl fun e=> .inr ⟨Qcu e.symm,by omega⟩) (upd_same _ _ _))
       injection c with c
       subst c;refine jA s (hK _ _ _ (More.refl _) I (hp'.weaken fun _ h=> .inl h) ?_);exact ak6 F L (heap_alloc_new w _) (fun hmm=>by have:=h.mlt hmm;omega) (B.norm.keep I (More.refl _)) (by have:n*1<=n*f.size:=Qc2 n y;omega)
      ·cases c
     ·cases c
    ·cases c
theorem alx {c:Call}{x:Operand}(D:o.op= .call c)(z:c.callee= .builtin .len)(O:c.args.toList=[x])(L:∀t n,T t=some n->TyOk P t n)(h:Hp S w0 N blk g al w)
  (k:(aI slot x).Rel S (aJ N blk g) w g (a.eval x)) (b:aDK S T blk c.argTypes (aI slot x)=some out) (B:Post S w0 N blk g al w fr out o.dst a K):o.wp P a w K Q:=by
 have j:c.args= #[x]:=by grind
 unfold aDK at b;split at b
 ·cases b
 ·rename_i t y;split at b
  ·cases b
  ·rename_i n J;obtain⟨u,r,i⟩:=lK (L _ _ J);split at b
   ·rename_i d p;rw[p]at k;split at b
    ·rename_i f;have f:n.kind=4/\0 < S.size d:=by simpa using f
     obtain⟨f,A⟩:=f;obtain⟨E,q,m,_⟩:=bQ.slice k A;rw[f]at i;cases u<;>simp[kindOf]at i
     injection b with b
     subst b;refine aP (v:= .int .i64 (S.len d)) ?_ h B rfl rfl;simp[execOp,D,resolve,z,invoke,builtin,Builtin.len_,j,y,run_underlying r,m,goInt]
    ·cases b
   ·rename_i s p;rw[p]at k;simp only[Sl.Rel,Sv.Rel,Lf.Rel]at k;split at b
    ·rename_i f;have f:n.kind=3:=by simpa using f
     rw[f]at i;cases u<;>simp[kindOf]at i
     injection b with b
     subst b;refine aP (v:= .int .i64 s.length) ?_ h B rfl rfl;have I:(ByteArray.mk s.toArray).size=s.length:=by rfl
     simp[execOp,D,resolve,z,invoke,builtin,Builtin.len_,j,y,run_underlying r,k,goInt,I]
    ·cases b
   ·rename_i l p;rw[p]at k;simp only[Sl.Rel,Sv.Rel,Lf.Rel]at k;split at b
    ·rename_i e d G;split at b
     ·rename_i f;have f:n.kind=4:=by simpa using f
      rw[f]at i;cases u<;>simp[kindOf]at i
      injection b with b
      subst b;obtain⟨v,m,_,R,⟨_,M⟩,_⟩:=h.bY l _ G;rw[k]at m;injection m with m
      have H:∃E q,a.eval x= .slice E (S.len d) q:=by
       grind
      obtain⟨E,q,C⟩:=H;refine aP (v:= .int .i64 (S.len d)) ?_ h B rfl rfl;simp[execOp,D,resolve,z,invoke,builtin,Builtin.len_,j,y,run_underlying r,C,goInt]
     ·cases b
    ·rename_i d G;split at b
     ·rename_i f;have f:n.kind=4/\0 < S.size d:=by simpa using f
      obtain⟨f,A⟩:=f;rw[f]at i;cases u<;>simp[kindOf]at i
      injection b with b
      subst b;obtain⟨v,m,F⟩:=h.bY l _ G;rw[k]at m;injection m with m
      obtain⟨E,q,C,_⟩:=bQ.slice (show bQ S (aJ N blk g) w d v from F) A;rw[C]at m;refine aP (v:= .int .i64 (S.len d)) ?_ h B rfl rfl;simp[execOp,D,resolve,z,invoke,builtin,Builtin.len_,j,y,run_underlying r,m,goInt]
     ·cases b
    ·cases b
   ·rename_i p;rw[p]at k;simp only[Sl.Rel,Sv.Rel,Lf.Rel]at k;split at b
    ·rename_i f;have f:n.kind=4:=by simpa using f
     rw[f]at i;cases u<;>simp[kindOf]at i
     injection b with b
     subst b;refine aP (v:= .int .i64 0) ?_ h B rfl rfl;simp[execOp,D,resolve,z,invoke,builtin,Builtin.len_,j,y,run_underlying r,k,goInt]
    ·cases b
   ·cases b
theorem U6 {c:Call}{x y:Operand}{b:Builtin}(u:b= .min\/b= .max)(r:o.op= .call c)(q:c.callee= .builtin b)(t:c.args.toList=[x,y])(h:Hp S w0 N blk g al w)
  (i:(aI slot x).Rel S (aJ N blk g) w g (a.eval x)) (f:(aI slot y).Rel S (aJ N blk g) w g (a.eval y)) (d:avZ b (aI slot x) (aI slot y)=some out) (p:Post S w0 N blk g al w fr out o.dst a K):o.wp P a w K Q:=by
 have e:c.args= #[x,y]:=by grind
 unfold avZ at d;split at d
 ·rename_i k n s m j l;rw[j]at i;rw[l]at f;simp only[Sl.Rel,Sv.Rel,Lf.Rel]at i f;injection d with d
  subst d;refine aP (v:= .int k (min n m)) ?_ h p rfl rfl;have:(if m < n then m else n)=min n m:=by split<;>omega
  simp[execOp,r,resolve,q,invoke,builtin,Builtin.min_,Builtin.min2,e,i,f,this]
 ·rename_i k n s m j l;rw[j]at i;rw[l]at f;simp only[Sl.Rel,Sv.Rel,Lf.Rel]at i f;injection d with d
  subst d;refine aP (v:= .int k (max n m)) ?_ h p rfl rfl;have:(if n < m then m else n)=max n m:=by split<;>omega
  simp[execOp,r,resolve,q,invoke,builtin,Builtin.max_,Builtin.max2,e,i,f,this]
 ·cases d
end
end Go.Vc
namespace Go.Vc
open Go.RowKit
section
variable {D:Type}{P:Program}{S:Sh D}{T:TypeId->Option Ty}{M N:Nat->Prop}{w w':World}{w0:Bs}{g:Nat->Option Value}{blk:Nat->Option (Bk D)}{al:Nat->Prop}
 {a:Act} {o:Oper} {K:Act->World->Prop} {Q:Exit->Act->World->Prop} {slot:Nat->Sl D} {out:Out D} {fr:Nat}
theorem ai8 {p:Nat->Value->Prop}:∀(n:Nat),(∀k,k < n->∃u,p k u)->∃l:List Value,l.length=n/\∀k u,l[k]? =some u->p k u
 | 0,_=>⟨[],rfl,fun k u h=>by simp at h⟩
 | n+1,h=>by
  obtain⟨l,a,d⟩:=ai8 n fun k b=>h k ah
  obtain⟨u,e⟩:=h n ah;refine⟨l++[u],by simp[a],fun k x c=> ?_⟩
  grind
theorem PP {x:Lf D}{v:Value}(c:x.iT=true)(h:x.Rel S M w g v):v.oneCell'=true:=by
 cases x with
 | bool b=>simp only[Lf.Rel]at h;subst h;rfl
 | int k n=>simp only[Lf.Rel]at h;subst h;rfl
 | str s=>obtain⟨rfl,_⟩:=h;rfl
 | dat d=>rcases bQ.form h with⟨a,e,rfl⟩ | ⟨r,rfl⟩<;>rfl
 | Uo x=>obtain⟨rfl,_⟩:=h;cases x<;>rfl
 | _=>simp[Lf.iT]at c
theorem tX (v:Value)(h:∃a n c,v= .slice a n c):v.ownBlock=dB v:=by
 obtain⟨a,n,c,rfl⟩:=h;cases a<;>rfl
theorem G9 (A:ShOk S){d:D}{v:Value}(h:bQ S M w d v)(b:0 < S.size d):∃(q:Option Addr) (m:Nat) (a:List Value),v= .slice q (S.len d) m/\a.length=S.len d*S.size d/\
  (∀f,q=some f->∀j u,a[j]? =some u->w.cell? (f.add j)=some u)/\(q=none->S.len d=0)/\(∀u∈a,u.oneCell'=true)/\
  ∀i j,i < S.len d->j < S.size d->∃u,a[i*S.size d+j]? =some u/\(S.cell d i j).Rel S M w g u:=by
 obtain⟨q,m,rfl,z⟩:=h.slice b;rcases Qdo (S.len d)with x | x
 ·simp_all
 ·obtain⟨f,rfl⟩:=h.yG x b;obtain⟨l,y,t⟩:=ai8 (p:=fun k u=>w.cell? (f.add k)=some u/\(S.cell d (k / S.size d) (k % S.size d)).Rel S M w g u/\k / S.size d < S.len d) (S.len d*S.size d) fun k s=>by
   have c:k / S.size d < S.len d:=by rw[Nat.div_lt_iff_lt_mul b];exact s
   obtain⟨u,n,r⟩:=h.cell (g:=g) c (Qck k b);have:k / S.size d*S.size d+k % S.size d=k:=by rw[Qcd];exact Nat.div_add_mod k (S.size d)
   grind
  refine⟨some f,m,l,rfl,y,fun B e j u o=>by grind,(fun e=>by cases e),fun u n=> ?_,fun i j c o=> ?_⟩
  ·obtain⟨k,s⟩:=List.getElem?_of_mem n;obtain⟨_,r,c⟩:=t k u s;exact PP (A.data _ _ _ c (Qck k b)) r
  ·have C:=qf c o;obtain⟨u,n⟩:∃u,l[i*S.size d+j]? =some u:=⟨_,Qa4 ah⟩;obtain⟨_,r,_⟩:=t _ u n;have F:(i*S.size d+j) / S.size d=i:=by rw[Qcd,Nat.mul_add_div b,Nat.div_eq_of_lt o,Qba]
   have E:(i*S.size d+j) % S.size d=j:=by rw[Qcd,Qdm,Qbv o]
   grind
theorem ar8 (L:ShOk S)(h:Hp S w0 N blk g al w){l:Nat}{e:TypeId}{d:D}{v:Value}(C:blk l=some (.row e d))(F:g l=some v):∃(s:Option Addr) (m:Nat) (c:List Value),v= .slice s (S.len d) m/\c.length=S.len d*S.size d/\
  (∀q,s=some q->∀j u,c[j]? =some u->w.cell? (q.add j)=some u)/\(s=none->S.len d=0)/\(∀u∈c,u.oneCell'=true)/\
  ∀i j,i < S.len d->j < S.size d->∃u,c[i*S.size d+j]? =some u/\(S.cell d i j).Rel S (aJ N blk g) w g u:=by
 obtain⟨J,f,K,r,a,n⟩:=h.bY l _ C;rw[F]at f;injection f with f
 subst f;have p:∀u∈r,u.oneCell'=true:=by
  intro u B;obtain⟨k,E⟩:=List.getElem?_of_mem B;have o:k < r.length:=(Qa8.1 E).1;rw[a.1]at o;have z:0 < S.size d:=by
   grind
  have t:k / S.size d < S.len d:=by rw[Nat.div_lt_iff_lt_mul z];exact o
  obtain⟨O,H,G,P⟩:=n _ _ t (Qck k z);have:k / S.size d*S.size d+k % S.size d=k:=by rw[Qcd];exact Nat.div_add_mod k (S.size d)
  grind [PP]
 rcases a.2 with⟨Q,M⟩ | ⟨b,m,I,x,A⟩
 ·simp_all
 ·refine⟨_,m,r,x,a.1,fun q e j u y=> ?_,(fun e=>by cases e),p,fun i j t y=> ?_⟩
  ·injection e with e
   subst e;subst x;exact a.cells (g:=b) rfl j u y
  grind
theorem Ew (l:ShOk S)(h:Hp S w0 N blk g al w){y:Sl D}{v:Value}{d:D}(f:y.Rel S (aJ N blk g) w g v)(a:WJ blk y=some d)(o:0 < S.size d):∃(m:Option Addr) (q:Nat) (b:List Value),v= .slice m (S.len d) q/\b.length=S.len d*S.size d/\
  (∀n,m=some n->∀j u,b[j]? =some u->w.cell? (n.add j)=some u)/\(m=none->S.len d=0)/\(∀u∈b,u.oneCell'=true)/\
  ∀i j,i < S.len d->j < S.size d->∃u,b[i*S.size d+j]? =some u/\(S.cell d i j).Rel S (aJ N blk g) w g u:=by
 unfold WJ at a;split at a
 ·injection a with a
  subst a;exact G9 l f o
 ·split at a
  ·rename_i e r k;injection a with a
   subst a;exact ar8 l h k f
  ·rename_i r k;injection a with a
   subst a;obtain⟨s,c,p⟩:=h.bY _ _ k;have f:g _=some v:=f;rw[f]at c;injection c with c
   subst c;exact G9 l p o
  ·cases a
 ·cases a
theorem OQ (t C e:TypeId)(i:TypeInfo)(z:Value)(a bytes:Nat)(x:P.underlying t=some (.slice e))(s:P.info? e=some i)(H:i.zero=some z)
  (l:i.size=a) (E:i.bytes=bytes) (B:z.cells.size=a) (G:0 < a)
  (v:Value) (n:Nat) (y:List Value) (f:w.ownsRow 0 e a v n y)
  (r:Option Addr) (m c:Nat) (d:List Value) (D:d.length=m*a) (o:∀h,r=some h->∀j u,d[j]? =some u->w.cell? (h.add j)=some u) (p:r=none->m=0) (I:∀u∈d,u.oneCell'=true)
  (F:n+m<=maxLen) (k:(n+m)*bytes<=140737488355328):
  ∃g q,(Builtin.append_ #[t,t] C #[v, .slice r m c]).run P w= .ok g q/\q.ownsRow 0 e a g (n+m) (y++d)/\w.grownBy q v.ownBlock/\(g.ownBlock=v.ownBlock\/g.ownBlock=some w.heap.size):=by
 cases r with
 | some h=>
  obtain⟨g,q,N,O,M,_,Q⟩:=run_append_own_at (P:=P) w 0 t C e i z a bytes x s H l E B G v n y f h m c d D (o h rfl) I F k (qR _)
  grind
 | none=>
  obtain rfl:=p rfl;obtain rfl:d=[]:=Qci (by simpa using D);refine⟨v,w,?_,by grind,⟨rfl,rfl,rfl,lH _,fun _ _ _=>rfl⟩, .inl rfl⟩;rcases f.2 with⟨rfl,rfl⟩ | ⟨b,K,J,rfl,_,L,A,_⟩
  ·simp[Builtin.append_,run_underlying x,sizeOf,typeInfo,s,Builtin.lenOf,Builtin.firstCells]
  ·simp[Builtin.append_,run_underlying x,sizeOf,typeInfo,s,Builtin.lenOf,Builtin.firstCells,A,storeCells]
theorem rM {t:TypeId}{a:Ty}(h:TyOk P t a):∃i z,P.info? t=some i/\i.zero=some z/\i.size=a.size/\i.bytes=a.bytes/\z.cells.toList=a.zero:=by
 grind [kW]
theorem Po {b:Nat->Prop}{a:Nat}:∀n,(b n\/n=a)->b n\/(a<=n/\n < a+64):=fun n c=>c.elim .inl fun e=> .inr ⟨Qcu e.symm,by omega⟩
theorem Yd {c:Call}{x y:Operand}(H:ShOk S)(ho:o.op= .call c)(hc:c.callee= .builtin .append)(hx':c.args.toList=[x,y])(aa:∀t ty,T t=some ty->TyOk P t ty)(h:Hp S w0 N blk g al w)(hfr:∀n,fr<=n->n < fr+64->¬al n)
  (E:(aI slot x).Rel S (aJ N blk g) w g (a.eval x)) (hy:(aI slot y).Rel S (aJ N blk g) w g (a.eval y)) (f:XJ T S blk fr c.argTypes (aI slot x) (aI slot y)=some out) (X:kF out.pre)
  (hK:Post S w0 N blk g al w fr out o.dst a K):o.wp P a w K Q:=by
 have Y:c.args= #[x,y]:=by grind
 have ad:∀v',More g (upd g fr (some v')):=fun v' l v hl=>by
  rw[bI _ _ _ _ qbk];exact hl
 unfold XJ at f;split at f
 ·rename_i t t' htt;split at f
  ·rename_i Uh;have Uh:=Qa Uh;subst Uh;have hat:c.argTypes= #[t,t]:=by grind
   split at f
   ·cases f
   ·rename_i ty hty;split at f
    ·cases f
    ·rename_i e hel;split at f
     ·cases f
     ·rename_i s hte;split at f
      ·cases f
      ·rename_i d2 hd2;have hsl:=jr (aa _ _ hty) hel;obtain⟨i,z,hi,hz,q1,q2,q3⟩:=rM (aa _ _ hte);split at f
       ·rename_i J;simp only[iW]at J;have e1:=Qa J.1.1;have e2:0 < s.size:=by simp_all
        have e3:=Qa J.2;have hzs:z.cells.size=s.size:=by grind
        obtain⟨av,cap,B,hv2,hl2,hc2,hn2,h12,C⟩:=Ew H h hy hd2 ah;have ac:∀(r:Value) (n:Nat) (D:List Value),a.eval x=r->w.ownsRow 0 e s.size r n D->bM (n+S.len d2) s.bytes->
          ∃v' w',(execOp a.eval o).run P w= .ok (.value v') w'/\w'.ownsRow 0 e s.size v' (n+S.len d2) (D++B)/\w.grownBy w' r.ownBlock/\(v'.ownBlock=r.ownBlock\/v'.ownBlock=some w.heap.size):=by
         intro r n D A q F;obtain⟨v',w',U,I,p,m⟩:=OQ (P:=P) (w:=w) t o.type e i z s.size s.bytes hsl hi hz q1 q2 hzs e2 r n D q av (S.len d2) cap B qP hc2 hn2 h12 (by have:=F.1;simp only[maxLen];omega) F.2;refine⟨v',w',?_,I,p,m⟩;simp only[execOp,ho,resolve,hc,invoke,builtin,Y,hat,Sem.run_bind,Sem.run_pure,Result.andThen_ok,Qbt,MQ,Qb7,A,hv2,U]
        split at f
        ·rename_i R;injection f with f
         subst f;rw[R]at E;obtain⟨v',w',U,I,p,m⟩:=ac (.slice none 0 0) 0 [] E (World.ownsRow_nil w 0 e s.size) (by rw[JH];exact X);have hB:Below w.heap.size w w':=⟨p.os,p.tape,p.output,p.size,fun k O=>p.block k O (by simp[Value.ownBlock])⟩;have BJ:∃a n c,v'= .slice a n c:=by rcases I.2 with⟨rfl,_⟩ | ⟨b,cp,Z,rfl,_⟩<;>exact⟨_,_,_,rfl⟩
         have M:∀b,dB v'=some b->w.heap.size<=b:=by
          intro b hb;rw[tX v' BJ]at m;rcases m with m | m
          ·rw[hb]at m;simp[Value.ownBlock]at m
          grind
         obtain⟨g1,g2,g3⟩:=h.add (l:=fr) (bk:= .row e d2) (v:=v') hB (hfr fr (lH _) ah) M (fun M' O _=>by
          refine⟨⟨fun b hb=> .inl (zW h.below.size (M b hb)),⟨by have:bM (S.len d2) s.bytes:=X;have:=this.1;omega,H.ann ah⟩⟩,B,?_,fun V j G hj=> ?_⟩
          ·have:=I;rw[JH,Qcl,e1]at this;exact this
          ·obtain⟨u,hu,hr⟩:=C V j G hj;exact⟨u,hu,H.data _ _ _ G hj,hr.keep O (ad _)⟩)
         exact jA U (hK _ _ _ g3 g2 (g1.weaken Po) (upd_same _ _ _))
        ·rename_i l R;rw[R]at E;have E:g l=some (a.eval x):=E;split at f
         ·rename_i e' d1 hb;split at f
          ·rename_i L;have L:=Qa L;subst L;split at f
           ·rename_i d Dy;injection f with f
            subst f;obtain⟨c1,c2,c3,c4,c5⟩:=H.cat _ _ _ Dy;obtain⟨r,A,hm,D,q,hcell⟩:=h.bY l _ hb;rw[E]at A;injection A with A
            have es:s.size=S.size d1:=by omega
            rw[<-es]at q;obtain⟨v',w',U,I,p,m⟩:=ac r (S.len d1) D A q X;have W:∃a n c,r= .slice a n c:=by rcases q.2 with⟨rfl,_⟩ | ⟨b,cp,Z,rfl,_⟩<;>exact⟨_,_,_,rfl⟩
            have BJ:∃a n c,v'= .slice a n c:=by rcases I.2 with⟨rfl,_⟩ | ⟨b,cp,Z,rfl,_⟩<;>exact⟨_,_,_,rfl⟩
            rw[tX v' BJ,tX r W]at m;rw[tX r W]at p;obtain⟨g1,g2,g3⟩:=h.move (l:=l) (fr:=fr) (bk':= .row e d) (v:=r) (v':=v') qce (A▸E) (hfr fr (lH _) ah) p.os p.tape p.output p.size (fun n hn hne=>p.block n hn fun e=>hne e.symm)
             (fun b ab=>by
              grind)
             (fun M' O _=>by
              refine⟨⟨fun b ab=> ?_,⟨by have:bM (S.len d1+S.len d2) s.bytes:=X;have:=this.1;omega,H.akv _ _ _ ‹_›⟩⟩,D++B,?_,fun V j G hj=> ?_⟩
              ·rcases m with m | m
               ·grind
               ·rw[ab]at m;injection m with m;exact .inl (m▸h.below.size)
              ·grind
              ·rw[c3]at G;have hxl:D.length=S.len d1*S.size d:=by rw[q.1];congr 1;omega
               by_cases hlt:V < S.len d1
               ·grind [Lf.Rel.keep,qf]
               ·obtain⟨k,rfl⟩:∃k,V=S.len d1+k:=⟨V - S.len d1,by omega⟩;obtain⟨u,hu,hr⟩:=C k j ah ah;rw[c5 k j ah];refine⟨u,?_,H.data _ _ _ ah ah,hr.keep O (ad _)⟩;rw[Qa6 qP,<-hu,hxl,Qdj,c2]
                grind)
            exact jA U (hK _ _ _ g3 g2 (g1.weaken Po) (upd_same _ _ _))
           ·cases f
          ·cases f
         ·cases f
        ·cases f
       ·cases f
  ·cases f
 ·cases f
theorem aa0 {t:TypeId}{x e:Operand}(E:o.op= .index t x e)(z:∀t f,T t=some f->TyOk P t f)(h:Hp S w0 N blk g al w)(c:(aI slot x).Rel S (aJ N blk g) w g (a.eval x))
  (i:(aI slot e).Rel S (aJ N blk g) w g (a.eval e)) (b:age T t (aI slot x) (aI slot e)=some out) (B:kF out.pre) (D:Post S w0 N blk g al w fr out o.dst a K):o.wp P a w K Q:=by
 unfold age at b;split at b
 ·cases b
 ·rename_i f u;split at b
  ·rename_i s k n y q;rw[y]at c;rw[q]at i;simp only[Sl.Rel,Sv.Rel,Lf.Rel]at c i;obtain⟨c,F⟩:=c;split at b
   ·rename_i l;obtain⟨d,m,p⟩:=lK (z _ _ u);have l:f.kind=3:=by simpa using l
    rw[l]at p;have m:P.underlying t=some .string:=by cases d<;>simp_all [kindOf]
    injection b with b
    subst b;obtain⟨C,G⟩:=B;have A:n.toNat < s.length:=by omega
    refine aP (v:= .int .u8 ((s.getD n.toNat 0).toNat:Nat)) ?_ h D rfl rfl;have j:(ByteArray.mk s.toArray)[n.toNat]? =some (s.getD n.toNat 0):=by
     have r:n.toNat < (ByteArray.mk s.toArray).size:=by show n.toNat < s.toArray.size;simpa using A
     rw[getElem?_pos (ByteArray.mk s.toArray) n.toNat r];congr 1;show s.toArray[n.toNat]=_
     grind
    simp[execOp,E,Instr.index,i,asIntOf,run_underlying m,c,C,j]
   ·cases b
  ·cases b
theorem WF {k a:IntKind}(h:am_ (qm k)=some a):k=a:=by cases k<;>simp[qm,am_]at h<;>exact h
theorem afO {t c:TypeId}{x:Operand}(u:o.op= .convert t c x)(e:∀t i,T t=some i->TyOk P t i)(h:Hp S w0 N blk g al w)(l:(aI slot x).Rel S (aJ N blk g) w g (a.eval x))
  (b:ap9 T t c (aI slot x)=some out) (A:kF out.pre) (s:Post S w0 N blk g al w fr out o.dst a K):o.wp P a w K Q:=by
 unfold ap9 at b;split at b
 ·rename_i tys i z n y q r;rw[r]at l;simp only[Sl.Rel,Sv.Rel,Lf.Rel]at l;split at b
  ·rename_i k j;injection b with b
   subst b;obtain⟨d,f,p⟩:=lK (e _ _ q);obtain⟨d0,m,_⟩:=lK (e _ _ y);have f:P.underlying c=some (.int k):=by
    rw[<-p]at j;cases d<;>simp[kindOf,am_]at j
    rw[f,WF j]
   refine aP (v:= .int k (wrp k n)) ?_ h s rfl rfl;simp[execOp,u,convert,run_underlying m,run_underlying f,l,Conv.intToInt,wrp]
  ·cases b
 ·cases b
theorem ahL (f:∀t,(slot t).Rel S (aJ N blk g) w g (a.tmps.getD t undef)):∀(e:List Operand) (c:List Nat),SV slot e=some c->c.map g=(e.map a.eval).map some
 | [],c,h=>by simp[SV]at h;subst h;rfl
 | x::r,c,h=>by
  unfold SV at h;split at h
  ·rename_i l d i k;injection h with h
   subst h;have:=mM f x;rw[i]at this;obtain⟨b,j,m⟩:=this;simp only[MQ,ahL f r d k,m,j]
  ·cases h
theorem aet {t:TypeId}{x y:Operand}(H:ShOk S)(ho:o.op= .makeSlice t x y)(u:∀t B,T t=some B->TyOk P t B)(h:Hp S w0 N blk g al w)(Y:∀n,fr<=n->n < fr+64->¬al n)(J:(aI slot x).Rel S (aJ N blk g) w g (a.eval x))
  (G:(aI slot y).Rel S (aJ N blk g) w g (a.eval y)) (c:asI T S fr t (aI slot x) (aI slot y)=some out) (hp:kF out.pre) (hK:Post S w0 N blk g al w fr out o.dst a K):o.wp P a w K Q:=by
 unfold asI at c;split at c
 ·cases c
 ·rename_i B Z;split at c
  ·cases c
  ·rename_i e W;split at c
   ·cases c
   ·rename_i I O;have U:=jr (u _ _ Z) W;obtain⟨i,z,hi,hz,R,q2,q3⟩:=rM (u _ _ O);split at c
    ·rename_i k n k' m aa Ag;rw[aa]at J;rw[Ag]at G;simp only[Sl.Rel,Sv.Rel,Lf.Rel]at J G;split at c
     ·rename_i V;simp only[iW]at V;have e2:0 < I.size:=by simp_all
      have e3:=Qa V.2;have M:z.cells.size=I.size:=by grind
      split at c
      ·rename_i d L;injection c with c
       subst c;obtain⟨rfl,p1,p2,p3⟩:=hp;obtain⟨r,z2,z3⟩:=H.zero _ _ _ _ L;have p:S.size d=I.size:=by grind
       have A:=run_make (P:=P) w t e i z U hi hz k k' n n p1 (AA _) qP ah;have q:(execOp a.eval o).run P w= .ok (.value (.slice (some ⟨w.heap.size,0,none⟩) n.toNat n.toNat)) (w.alloc (.cells (madeCells z.cells (n.toNat*i.size)) e)):=by
        simp only[execOp,ho,J,G,Sem.run_bind,A,Result.andThen_ok,Sem.run_pure]
       have hB:Below w.heap.size w (w.alloc (.cells (madeCells z.cells (n.toNat*i.size)) e)):=(Below.refl w.heap.size w).alloc (lH _) _;obtain⟨g1,g2,g3⟩:=h.add (l:=fr) (bk:= .row e d) (v:= .slice (some ⟨w.heap.size,0,none⟩) n.toNat n.toNat) hB (Y fr (lH _) ah) (fun b C=>by simp[dB]at C;omega)
        (fun M' hk _=>by
         refine⟨⟨fun b C=> .inl ?_,by rw[r];omega,H.aaq _ _ _ _ L⟩,(madeCells z.cells (n.toNat*i.size)).toList,⟨?_, .inr ⟨w.heap.size,n.toNat,_,by rw[r],qR _,heap_alloc_new w _,by omega,by simp only[maxLen];omega,?_,?_⟩⟩,fun D j f s=> ?_⟩
         ·simp only[dB,Og]at C;have:=h.below.size;omega
         ·rw[Qbp,size_madeCells,r,p,R]
         ·rw[size_madeCells,p,R]
         ·rw[Qda]
          grind [size_madeCells]
         ·rw[r]at f;obtain⟨x0,hx0,ab⟩:=z3 D j f s;have hlt:=qf f s;have X:j < z.cells.size:=by omega
          have E:(D*S.size d+j) % z.cells.size=j:=by rw[M,<-p,Qcd,Qdm,Qbv s]
          refine⟨z.cells[j],?_,H.data _ _ _ ah s,ab.rel ?_⟩
          ·have F:D*S.size d+j < n.toNat*i.size:=by grind
           simp[madeCells,F,E,X]
          grind [Lf.Rel.norm,xZ])
       exact jA q (hK _ _ _ g3 g2 (g1.weaken Po) (upd_same _ _ _))
      ·cases c
     ·cases c
    ·cases c
end
end Go.Vc
