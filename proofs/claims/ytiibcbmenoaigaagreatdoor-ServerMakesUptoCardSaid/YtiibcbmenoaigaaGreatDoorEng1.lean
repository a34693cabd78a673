/- Own engine: Vd1, Vd2, Vd3. -/
import Derived.WalkKit
import Derived.Deep.LoopGhost
import Derived.Orders
import Derived.IntWalk
import Derived.KernelRfl
namespace Go.Vc
open Go.RowKit
set_option linter.unusedVariables false
inductive Pv where
 | bool (b:Bool)
 | int (k:IntKind) (n:Int)
 | str (s:List UInt8)
structure Ifc where
 t:TypeId
 agg:Bool
 xs:List Pv
def Pv.val:Pv->Value
 | .bool b=> .bool b
 | .int k n=> .int k n
 | .str s=> .string ⟨s.toArray⟩
def Ifc.inner (i:Ifc):Value:=
 match i.agg,i.xs with
 | false,[x]=>x.val
 | _,xs=> .agg (xs.map Pv.val).toArray
def ifcVal:Option Ifc->Value
 | none=> .nilIface
 | some i=> .iface i.t i.inner
def Pv.fits:Pv->Prop
 | .str s=>s.length<=9223372036854775807
 | _=>True
def ifcOk:Option Ifc->Prop
 | none=>True
 | some i=>∀p∈i.xs,p.fits
inductive Dl (D:Type):Type where
 | bool (b:Bool)
 | int (k:IntKind) (n:Int)
 | str (s:List UInt8)
 | dat (d:D)
 | nils
inductive Xt (D:Type):Type where
 | ifd (t:TypeId) (agg:Bool) (xs:List (Dl D))
 | clo (f:FuncId) (agg:Bool) (xs:List (Dl D))
inductive Lf (D:Type):Type where
 | any
 | val (v:Value)
 | bool (b:Bool)
 | int (k:IntKind) (n:Int)
 | str (s:List UInt8)
 | ptr (l off:Nat)
 | dat (d:D)
 | elt (d:D) (i j:Nat)
 | fn (f:FuncId) (caps:List Nat)
 | own (l:Nat)
 | opt (l i j sz:Nat)
 | unk (p:Bool->Prop)
 | part (l i j sz:Nat) (f:D->Option D)
 | glb (i:Nat)
 | ifc (v:Option Ifc)
 | xt (e:Xt D)
inductive Bk (D:Type):Type where
 | cells (cs:List (Lf D))
 | row (e:TypeId) (d:D)
 | ice (d:D)
 | iter (s:List UInt8) (pos:Nat)
 | map (d:D)
 | tc (t:TypeId) (cs:List (Lf D))
inductive Sv (D:Type):Type where
 | lf (x:Lf D)
 | agg (xs:List (Lf D))
inductive Sl (D:Type):Type where
 | one (x:Sv D)
 | tup (xs:List (Sv D))
structure Mp (D:Type) where
 kind:Nat
 agg:Bool
 zero:List Pv
 kvs:List (Pv×List Pv)
 has:Pv->Bool
 get:Pv->List (Lf D)
 put:Pv->List Pv->D
 len:Nat
structure Sh (D:Type) where
 size:D->Nat
 len:D->Nat
 cell:D->Nat->Nat->Lf D
 make:TypeId->Nat->List (Lf D)->Option D
 zero:TypeId->Nat->List (Lf D)->Option D
 set:D->Nat->Nat->List (Lf D)->Option D
 cat:D->D->Option D
 sub:D->Nat->Nat->Option D
 glob:Nat->Option D
 text:TypeId->List UInt8->Option D
 mp:D->Option (Mp D):=fun _=>none
 mnew:TypeId->Option D:=fun _=>none
def pvsIn (agg:Bool)(xs:List Pv):Value:=
 match agg,xs with
 | false,[x]=>x.val
 | _,xs=> .agg (xs.map Pv.val).toArray
def MapIs (w:World)(agg:Bool)(kvs:List (Pv×List Pv))(v:Value):Prop:=
 (∀p∈kvs,p.1.fits/\∀x∈p.2,x.fits)/\((v= .map none/\kvs=[])\/
  ∃b es n,v= .map (some b)/\w.heap[b]? =some (.map es n)/\es.toList.map (fun e=>(e.key,e.val))=kvs.map fun p=>(p.1.val,pvsIn agg p.2))
def subIf {D:Type}(S:Sh D)(sz i j:Nat)(d:D):Option D:=if Nat.beq sz (S.size d)then S.sub d i j else none
def Lf.plain {D:Type}:Lf D->Value->Prop
 | .val x,u=>u=x
 | .bool b,u=>u= .bool b
 | .int k n,u=>u= .int k n
 | .str s,u=>u= .string ⟨s.toArray⟩/\s.length<=9223372036854775807
 | .dat _,_=>True
 | .ifc v,u=>u=ifcVal v/\ifcOk v
 | _,_=>False
inductive DRel {D:Type} (S:Sh D) (w:World):D->Value->Prop where
 | mp (d:D) (m:Mp D) (v:Value) (hm:S.mp d=some m) (hl:S.len d=0) (hz:S.size d=0) (h:MapIs w m.agg m.kvs v):DRel S w d v
 | mk (d:D) (hno:S.mp d=none) (a:Option Addr) (cap:Nat) (U:Nat->Nat->Value) (hcap:S.len d<=cap) (hlen:S.len d<=9223372036854775807)
   (hcell:∀i j,i < S.len d->j < S.size d->∃ad,a=some ad/\w.cell? (ad.add (i*S.size d+j))=some (U i j))
   (hpl:∀i j,i < S.len d->j < S.size d->Lf.plain (S.cell d i j) (U i j))
   (hdat:∀i j d',i < S.len d->j < S.size d->S.cell d i j= .dat d'->DRel S w d' (U i j)):DRel S w d (.slice a (S.len d) cap)
def DatOk {D:Type}(S:Sh D)(M:Nat->Prop)(w:World)(d:D)(v:Value):Prop:=
 ∀w':World,(∀b,b < w.heap.size->¬M b->w'.heap[b]? =w.heap[b]?)->DRel S w' d v
def Lf.isData {D:Type}:Lf D->Bool
 | .bool _ | .int _ _ | .str _ | .dat _ | .ifc _=>true
 | _=>false
def Dl.Rel {D:Type}(S:Sh D)(M:Nat->Prop)(w:World):Dl D->Value->Prop
 | .bool b,v=>v= .bool b
 | .int k n,v=>v= .int k n
 | .str s,v=>v= .string ⟨s.toArray⟩/\s.length<=9223372036854775807
 | .dat d,v=>DatOk S M w d v
 | .nils,v=>v= .slice none 0 0
def DlsRel {D:Type}(S:Sh D)(M:Nat->Prop)(w:World):List (Dl D)->List Value->Prop
 | [],[]=>True
 | x::xs,v::vs=>x.Rel S M w v/\DlsRel S M w xs vs
 | _,_=>False
def DlIn {D:Type}(S:Sh D)(M:Nat->Prop)(w:World):Bool->List (Dl D)->Value->Prop
 | false,[x],u=>x.Rel S M w u
 | true,xs,u=>∃vs:List Value,u= .agg vs.toArray/\DlsRel S M w xs vs
 | _,_,_=>False
def Xt.Rel {D:Type}(S:Sh D)(M:Nat->Prop)(w:World):Xt D->Value->Prop
 | .ifd t ag xs,v=>∃u,v= .iface t u/\DlIn S M w ag xs u
 | .clo f ag xs,v=>∃u,v= .func (.func f) #[u] #[]/\DlIn S M w ag xs u
def Lf.Rel {D:Type}(S:Sh D)(M:Nat->Prop)(w:World)(g:Nat->Option Value):Lf D->Value->Prop
 | .any,_=>True
 | .val x,v=>v=x
 | .bool b,v=>v= .bool b
 | .int k n,v=>v= .int k n
 | .str s,v=>v= .string ⟨s.toArray⟩/\s.length<=9223372036854775807
 | .ptr l o,v=>∃b,g l=some (.pointer (some ⟨b,0,none⟩))/\v= .pointer (some ⟨b,o,none⟩)
 | .dat d,v=>DatOk S M w d v
 | .elt d i j,v=>∃a n cap,DatOk S M w d (.slice (some a) n cap)/\i < S.len d/\v= .pointer (some (a.add (i*S.size d+j)))
 | .fn f caps,v=>∃vs:List Value,v= .func (.func f) #[] vs.toArray/\caps.map g=vs.map some
 | .own l,v=>g l=some v
 | .opt l i j sz,v=>∃b n cap,g l=some (.slice (some ⟨b,0,none⟩) n cap)/\v= .pointer (some ⟨b,i*sz+j,none⟩)
 | .unk p,v=>∃b,v= .bool b/\p b
 | .part l i j sz f,v=>∃a n cap,g l=some (.slice a n cap)/\v=sliced a i j cap sz/\i<=j/\j<=n/\f=subIf S sz i j
 | .glb i,v=>v= .pointer (some ⟨i,0,none⟩)
 | .ifc x,v=>v=ifcVal x/\ifcOk x
 | .xt e,v=>e.Rel S M w v
def LfsRel {D:Type}(S:Sh D)(M:Nat->Prop)(w:World)(g:Nat->Option Value):List (Lf D)->List Value->Prop
 | [],[]=>True
 | x::xs,v::vs=>x.Rel S M w g v/\LfsRel S M w g xs vs
 | _,_=>False
def Sv.Rel {D:Type}(S:Sh D)(M:Nat->Prop)(w:World)(g:Nat->Option Value):Sv D->Value->Prop
 | .lf x,v=>x.Rel S M w g v
 | .agg xs,v=>∃vs:List Value,v= .agg vs.toArray/\LfsRel S M w g xs vs
def SvsRel {D:Type}(S:Sh D)(M:Nat->Prop)(w:World)(g:Nat->Option Value):List (Sv D)->List Value->Prop
 | [],[]=>True
 | x::xs,v::vs=>x.Rel S M w g v/\SvsRel S M w g xs vs
 | _,_=>False
def Sl.Rel {D:Type}(S:Sh D)(M:Nat->Prop)(w:World)(g:Nat->Option Value):Sl D->Value->Prop
 | .one x,v=>x.Rel S M w g v
 | .tup xs,v=>∃vs:List Value,v= .tuple vs.toArray/\SvsRel S M w g xs vs
structure Keeps (M:Nat->Prop)(w:World)(M':Nat->Prop)(w':World):Prop where
 size:w.heap.size<=w'.heap.size
 same:∀b,b < w.heap.size->¬M b->¬M' b/\w'.heap[b]? =w.heap[b]?
section
variable {D:Type}{S:Sh D}{M M':Nat->Prop}{w w':World}{g g':Nat->Option Value}
theorem DatOk.keep {d:D}{v:Value}(h:DatOk S M w d v)(k:Keeps M w M' w'):DatOk S M' w' d v:=fun w'' hs=>
 h w'' fun b hb hm=>(hs b (Nat.lt_of_lt_of_le hb k.size) (k.same b hb hm).1).trans (k.same b hb hm).2
theorem Dl.Rel.keep {x:Dl D}{v:Value}(h:x.Rel S M w v)(k:Keeps M w M' w'):x.Rel S M' w' v:=by
 cases x with
 | dat d=>exact DatOk.keep h k
 | _=>exact h
theorem DlsRel.keep:∀{xs:List (Dl D)} {vs:List Value},DlsRel S M w xs vs->Keeps M w M' w'->DlsRel S M' w' xs vs
 | [],[],_,_=>trivial
 | x::xs,v::vs,h,k=>⟨h.1.keep k,DlsRel.keep h.2 k⟩
theorem DlIn.keep:∀{ag:Bool} {xs:List (Dl D)} {u:Value},DlIn S M w ag xs u->Keeps M w M' w'->DlIn S M' w' ag xs u
 | false,[x],u,h,k=>Dl.Rel.keep h k
 | true,xs,u,h,k=>by obtain⟨vs,h1,h2⟩:=h;exact⟨vs,h1,h2.keep k⟩
theorem Xt.Rel.keep {e:Xt D}{v:Value}(h:e.Rel S M w v)(k:Keeps M w M' w'):e.Rel S M' w' v:=by
 cases e with
 | ifd t ag xs=>obtain⟨u,h1,h2⟩:=h;exact⟨u,h1,h2.keep k⟩
 | clo f ag xs=>obtain⟨u,h1,h2⟩:=h;exact⟨u,h1,h2.keep k⟩
theorem DatOk.mono {d:D}{v:Value}{M₁:Nat->Prop}(h:DatOk S M w d v)(hm:∀b,M₁ b->M b):DatOk S M₁ w d v:=fun w'' hs=>h w'' fun b hb hn=>hs b hb fun h1=>hn (hm b h1)
theorem Dl.Rel.mono {M₁:Nat->Prop}{x:Dl D}{v:Value}(h:x.Rel S M w v)(hm:∀b,M₁ b->M b):x.Rel S M₁ w v:=by
 cases x with
 | dat d=>exact DatOk.mono h hm
 | _=>exact h
theorem DlsRel.mono {M₁:Nat->Prop}(hm:∀b,M₁ b->M b):∀{xs:List (Dl D)} {vs:List Value},DlsRel S M w xs vs->DlsRel S M₁ w xs vs
 | [],[],_=>trivial
 | x::xs,v::vs,h=>⟨h.1.mono hm,DlsRel.mono hm h.2⟩
theorem DlIn.mono {M₁:Nat->Prop}(hm:∀b,M₁ b->M b):∀{ag:Bool} {xs:List (Dl D)} {u:Value},DlIn S M w ag xs u->DlIn S M₁ w ag xs u
 | false,[x],u,h=>Dl.Rel.mono h hm
 | true,xs,u,h=>by obtain⟨vs,h1,h2⟩:=h;exact⟨vs,h1,h2.mono hm⟩
theorem Xt.Rel.mono {M₁:Nat->Prop}{e:Xt D}{v:Value}(h:e.Rel S M w v)(hm:∀b,M₁ b->M b):e.Rel S M₁ w v:=by
 cases e with
 | ifd t ag xs=>obtain⟨u,h1,h2⟩:=h;exact⟨u,h1,h2.mono hm⟩
 | clo f ag xs=>obtain⟨u,h1,h2⟩:=h;exact⟨u,h1,h2.mono hm⟩
def GlOk (S:Sh D)(M:Nat->Prop)(w:World):Prop:=∀i d,S.glob i=some d->DatOk S M w d (.slice (some ⟨i,0,none⟩) (S.len d) (S.len d))
theorem GlOk.keep (h:GlOk S M w)(k:Keeps M w M' w'):GlOk S M' w':=fun i d hd=>(h i d hd).keep k
theorem GlOk.mono {M₁:Nat->Prop}(h:GlOk S M w)(hm:∀b,M₁ b->M b):GlOk S M₁ w:=fun i d hd=>(h i d hd).mono hm
def More (g g':Nat->Option Value):Prop:=∀l v,g l=some v->g' l=some v
theorem More.refl (g:Nat->Option Value):More g g:=fun _ _ h=>h
theorem More.map:∀{caps:List Nat} {vs:List Value},More g g'->caps.map g=vs.map some->caps.map g'=vs.map some
 | [],[],_,_=>rfl
 | c::caps,v::vs,m,h=>by
  simp only[List.map_cons,List.cons.injEq]at h⊢
  exact⟨m _ _ h.1,More.map m h.2⟩
 | [],_::_,_,h=>by simp at h
 | _::_,[],_,h=>by simp at h
theorem Lf.Rel.keep {x:Lf D}{v:Value}(h:x.Rel S M w g v)(k:Keeps M w M' w')(m:More g g'):x.Rel S M' w' g' v:=by
 cases x with
 | any=>trivial
 | val x=>exact h
 | bool b=>exact h
 | int k n=>exact h
 | str s=>exact h
 | ptr l o=>obtain⟨b,h1,h2⟩:=h;exact⟨b,m _ _ h1,h2⟩
 | dat d=>exact DatOk.keep h k
 | elt d i j=>obtain⟨a,n,cap,h1,h2⟩:=h;exact⟨a,n,cap,h1.keep k,h2⟩
 | fn f caps=>obtain⟨vs,h1,h2⟩:=h;exact⟨vs,h1,More.map m h2⟩
 | own l=>exact m _ _ h
 | opt l i j sz=>obtain⟨b,n,cap,h1,h2⟩:=h;exact⟨b,n,cap,m _ _ h1,h2⟩
 | unk p=>exact h
 | part l i j sz f=>obtain⟨a,n,cap,h1,h2⟩:=h;exact⟨a,n,cap,m _ _ h1,h2⟩
 | glb i=>exact h
 | ifc x=>exact h
 | xt e=>exact Xt.Rel.keep h k
theorem LfsRel.keep:∀{xs:List (Lf D)} {vs:List Value},LfsRel S M w g xs vs->Keeps M w M' w'->More g g'->LfsRel S M' w' g' xs vs
 | [],[],_,_,_=>trivial
 | x::xs,v::vs,h,k,m=>⟨h.1.keep k m,LfsRel.keep h.2 k m⟩
theorem LfsRel.length:∀{xs:List (Lf D)} {vs:List Value},LfsRel S M w g xs vs->xs.length=vs.length
 | [],[],_=>rfl
 | _::_,_::_,h=>by simp[LfsRel.length h.2]
theorem LfsRel.get:∀{xs:List (Lf D)} {vs:List Value} (i:Nat) {x:Lf D},LfsRel S M w g xs vs->xs[i]? =some x->∃v,vs[i]? =some v/\x.Rel S M w g v
 | [],[],i,x,_,h=>by simp at h
 | y::xs,v::vs,0,x,h,e=>⟨v,rfl,by simp at e;exact e▸h.1⟩
 | y::xs,v::vs,i+1,x,h,e=>by simpa using LfsRel.get i h.2 (by simpa using e)
theorem Sv.Rel.keep {x:Sv D}{v:Value}(h:x.Rel S M w g v)(k:Keeps M w M' w')(m:More g g'):x.Rel S M' w' g' v:=by
 cases x with
 | lf x=>exact Lf.Rel.keep h k m
 | agg xs=>obtain⟨vs,rfl,hr⟩:=h;exact⟨vs,rfl,hr.keep k m⟩
theorem SvsRel.keep:∀{xs:List (Sv D)} {vs:List Value},SvsRel S M w g xs vs->Keeps M w M' w'->More g g'->SvsRel S M' w' g' xs vs
 | [],[],_,_,_=>trivial
 | x::xs,v::vs,h,k,m=>⟨h.1.keep k m,SvsRel.keep h.2 k m⟩
theorem SvsRel.get:∀{xs:List (Sv D)} {vs:List Value} (i:Nat) {x:Sv D},SvsRel S M w g xs vs->xs[i]? =some x->∃v,vs[i]? =some v/\x.Rel S M w g v
 | [],[],i,x,_,h=>by simp at h
 | y::xs,v::vs,0,x,h,e=>⟨v,rfl,by simp at e;exact e▸h.1⟩
 | y::xs,v::vs,i+1,x,h,e=>by simpa using SvsRel.get i h.2 (by simpa using e)
theorem SvsRel.length:∀{xs:List (Sv D)} {vs:List Value},SvsRel S M w g xs vs->xs.length=vs.length
 | [],[],_=>rfl
 | _::_,_::_,h=>by simp[SvsRel.length h.2]
theorem Sl.Rel.keep {x:Sl D}{v:Value}(h:x.Rel S M w g v)(k:Keeps M w M' w')(m:More g g'):x.Rel S M' w' g' v:=by
 cases x with
 | one x=>exact Sv.Rel.keep h k m
 | tup xs=>obtain⟨vs,rfl,hr⟩:=h;exact⟨vs,rfl,hr.keep k m⟩
theorem DatOk.cell {d:D}{a:Addr}{n cap i j:Nat}(h:DatOk S M w d (.slice (some a) n cap))(hi:i < S.len d)(hj:j < S.size d):
  ∃u,w.cell? (a.add (i*S.size d+j))=some u/\(S.cell d i j).Rel S M w g u:=by
 classical
 let wx:World:={w with heap:=(Array.range w.heap.size).map fun b=>if M b then Obj.map #[] 0 else(w.heap[b]?).getD (Obj.map #[] 0)}
 have hwx:∀b,b < w.heap.size->¬M b->wx.heap[b]? =w.heap[b]? :=by
  intro b hb hm
  simp[wx,hb,hm]
 have hout:∀p:Addr,(wx.cell? p).isSome=true->p.block < w.heap.size/\¬M p.block:=by
  intro p hp
  simp only[World.cell?,wx]at hp
  by_cases hb:p.block < w.heap.size
  ·refine⟨hb,fun hm=> ?_⟩
   simp[hb,hm]at hp
  ·simp[hb]at hp
 have key:∀w':World,(∀b,b < w.heap.size->¬M b->w'.heap[b]? =w.heap[b]?)->∃u,w'.cell? (a.add (i*S.size d+j))=some u/\Lf.plain (S.cell d i j) u/\∀d',S.cell d i j= .dat d'->DRel S w' d' u:=by
  intro w' hs
  generalize hv:Value.slice (some a) n cap=v at h
  have hd:=h w' hs
  cases hd with
  | mp d m v hm hl hz h=>omega
  | mk d hno a' cap' U hcap hlen hcell hpl hdat=>
   injection hv with h1 h2 h3
   obtain⟨ad,had,hc⟩:=hcell i j hi hj
   rw[<-h1]at had
   injection had with had
   subst had
   exact⟨U i j,hc,hpl i j hi hj,fun d' hd'=>hdat i j d' hi hj hd'⟩
 obtain⟨ux,hux,_⟩:=key wx hwx
 obtain⟨hb,hm⟩:=hout _ (by rw[hux];rfl)
 obtain⟨u,hu,hpl,hdt⟩:=key w (fun _ _ _=>rfl)
 refine⟨u,hu,?_⟩
 generalize hx:S.cell d i j=x at*
 cases x with
 | val x=>exact hpl
 | bool b=>exact hpl
 | int k n=>exact hpl
 | str s=>exact hpl
 | dat d'=>
  intro w' hs
  obtain⟨u',hu',_,hdt'⟩:=key w' hs
  have:u'=u:=by
   have e:w'.cell? (a.add (i*S.size d+j))=w.cell? (a.add (i*S.size d+j)):=by
    simp only[World.cell?,hs _ hb hm]
   rw[e,hu]at hu'
   injection hu' with hu'
   exact hu'.symm
  rw[<-this]
  exact hdt' d' rfl
 | any=>exact hpl.elim
 | ptr l o=>exact hpl.elim
 | elt d' i' j'=>exact hpl.elim
 | fn f caps=>exact hpl.elim
 | own l=>exact hpl.elim
 | opt l i j sz=>exact hpl.elim
 | unk p=>exact hpl.elim
 | part l i j sz f=>exact hpl.elim
 | glb i=>exact hpl.elim
 | ifc x=>exact hpl
 | xt e=>exact hpl.elim
theorem DatOk.slice {d:D}{v:Value}(h:DatOk S M w d v)(hz:0 < S.size d):∃a cap,v= .slice a (S.len d) cap/\S.len d<=cap:=by
 have hd:=h w (fun _ _ _=>rfl)
 cases hd with
 | mp d m v hm hl hz' h=>omega
 | mk d hno a cap U hcap hlen hcell hpl hdat=>exact⟨a,cap,rfl,hcap⟩
theorem DatOk.slice' {d:D}{v:Value}(h:DatOk S M w d v)(hz:S.mp d=none):∃a cap,v= .slice a (S.len d) cap/\S.len d<=cap:=by
 have hd:=h w (fun _ _ _=>rfl)
 cases hd with
 | mp d m v hm hl hz' h=>rw[hz]at hm;cases hm
 | mk d hno a cap U hcap hlen hcell hpl hdat=>exact⟨a,cap,rfl,hcap⟩
theorem DatOk.form {d:D}{v:Value}(h:DatOk S M w d v):(∃a cap,v= .slice a (S.len d) cap)\/∃r,v= .map r:=by
 have hd:=h w (fun _ _ _=>rfl)
 cases hd with
 | mp d m v hm hl hz' h=>rcases h.2 with⟨h,_⟩ | ⟨b,_,_,h,_⟩<;>exact .inr ⟨_,h⟩
 | mk d hno a cap U hcap hlen hcell hpl hdat=>exact .inl ⟨a,cap,rfl⟩
theorem DatOk.map {d:D}{v:Value}{m:Mp D}(h:DatOk S M w d v)(hm:S.mp d=some m):MapIs w m.agg m.kvs v:=by
 have hd:=h w (fun _ _ _=>rfl)
 cases hd with
 | mp d m' v hm' hl hz' h=>rw[hm]at hm';injection hm' with e;exact e▸h
 | mk d hno a cap U hcap hlen hcell hpl hdat=>rw[hm]at hno;cases hno
theorem DatOk.len_le {d:D}{v:Value}(h:DatOk S M w d v):S.len d<=9223372036854775807:=by
 have hd:=h w (fun _ _ _=>rfl)
 cases hd with
 | mp d m v hm hl hz h=>omega
 | mk d hno a cap U hcap hlen hcell hpl hdat=>exact hlen
theorem DatOk.some_addr {d:D}{a:Option Addr}{n cap i:Nat}(h:DatOk S M w d (.slice a n cap))(hi:i < S.len d)(hs:0 < S.size d):∃ad,a=some ad:=by
 generalize hv:Value.slice a n cap=v at h
 have hd:=h w (fun _ _ _=>rfl)
 cases hd with
 | mp d m v hm hl hz h=>omega
 | mk d hno a' cap' U hcap hlen hcell hpl hdat=>
  injection hv with h1 h2 h3
  obtain⟨ad,had,_⟩:=hcell i 0 hi hs
  exact⟨ad,h1.trans had⟩
end
end Go.Vc
namespace Go.Vc
open Go.RowKit
set_option linter.unusedVariables false
def upd {α:Type}(f:Nat->α)(k:Nat)(v:α):Nat->α:=fun n=>if n=k then v else f n
theorem upd_same {α:Type}(f:Nat->α)(k:Nat)(v:α):upd f k v k=v:=by simp[upd]
theorem upd_other {α:Type}(f:Nat->α)(k n:Nat)(v:α)(h:n≠k):upd f k v n=f n:=by simp[upd,h]
def blkOf:Value->Option Nat
 | .pointer (some a)=>some a.block
 | .slice (some a) _ _=>some a.block
 | .map (some r)=>some r
 | _=>none
def isRef:Value->Bool
 | .pointer _ | .slice _ _ _ | .map _=>true
 | _=>false
structure Bs where
 w:World
 X:Nat->Prop
def Bs.Mine (B:Bs)(b:Nat):Prop:=B.w.heap.size<=b\/B.X b
structure BelowX (B:Bs)(w':World):Prop where
 os:w'.os=B.w.os
 tape:w'.tape=B.w.tape
 output:w'.output=B.w.output
 size:B.w.heap.size<=w'.heap.size
 block:∀k,k < B.w.heap.size->¬B.X k->w'.heap[k]? =B.w.heap[k]?
theorem BelowX.refl (B:Bs):BelowX B B.w:=⟨rfl,rfl,rfl,Nat.le_refl _,fun _ _ _=>rfl⟩
theorem BelowX.grow {B:Bs}{w w':World}(h:BelowX B w)(k:Below w.heap.size w w'):BelowX B w':=
 ⟨k.os.trans h.os,k.tape.trans h.tape,k.output.trans h.output,Nat.le_trans h.size k.size,fun i hi hx=>(k.block i (Nat.lt_of_lt_of_le hi h.size)).trans (h.block i hi hx)⟩
def hot {D:Type}:Option (Bk D)->Bool
 | some (.cells _)=>true
 | some (.row _ _)=>true
 | some (.iter _ _)=>true
 | some (.map _)=>true
 | some (.tc _ _)=>true
 | _=>false
def TcAt (w:World)(b:Nat)(t:TypeId)(vs:List Value):Prop:=
 ∃u0,w.heap[b]? =some (.cells (List.toArray (u0::vs)) t (0,0))/\(u0= .pointer none\/u0= .pointer (some ⟨b,0,none⟩))
theorem TcAt.same {w w':World}{b:Nat}{t:TypeId}{vs:List Value}(h:TcAt w b t vs)(e:w'.heap[b]? =w.heap[b]?):TcAt w' b t vs:=by
 obtain⟨u0,h1,h2⟩:=h
 exact⟨u0,e.trans h1,h2⟩
def BkOk {D:Type}(S:Sh D)(M:Nat->Prop)(w:World)(g:Nat->Option Value)(B:Bs):Bk D->Value->Prop
 | .cells cs,v=>∃b vs t,v= .pointer (some ⟨b,0,none⟩)/\B.Mine b/\w.heap[b]? =some (.cells (List.toArray vs) t (0,0))/\LfsRel S M w g cs vs
 | .ice d,v=>DatOk S M w d v
 | .iter s p,v=>s.length<=9223372036854775807/\∃b,v= .pointer (some ⟨b,0,none⟩)/\B.Mine b/\w.heap[b]? =some (.stringIter ⟨s.toArray⟩ p)
 | .map d,v=>∃m b es n,S.mp d=some m/\(∀p∈m.kvs,p.1.fits/\∀x∈p.2,x.fits)/\v= .map (some b)/\B.Mine b/\w.heap[b]? =some (.map es n)/\es.toList.map (fun e=>(e.key,e.val))=m.kvs.map fun p=>(p.1.val,pvsIn m.agg p.2)
 | .tc t cs,v=>∃b vs,v= .pointer (some ⟨b,0,none⟩)/\B.Mine b/\TcAt w b t vs/\LfsRel S M w g cs vs
 | .row e d,v=>((∀b,blkOf v=some b->B.Mine b)/\S.len d<=9223372036854775807/\S.mp d=none)/\∃xs,w.ownsRow 0 e (S.size d) v (S.len d) xs/\
   ∀i j,i < S.len d->j < S.size d->∃u,xs[i*S.size d+j]? =some u/\(S.cell d i j).isData=true/\(S.cell d i j).Rel S M w g u
def Mset {D:Type}(N:Nat->Prop)(blk:Nat->Option (Bk D))(g:Nat->Option Value):Nat->Prop:=
 fun b=>N b\/∃l v,hot (blk l)=true/\g l=some v/\blkOf v=some b
structure Hp {D:Type}(S:Sh D)(w0:Bs)(N:Nat->Prop)(blk:Nat->Option (Bk D))(g:Nat->Option Value)(al:Nat->Prop)(w:World):Prop where
 below:BelowX w0 w
 hN:∀b,N b->b < w0.w.heap.size/\¬w0.X b
 bks:∀l bk,blk l=some bk->∃v,g l=some v/\BkOk S (Mset N blk g) w g w0 bk v
 sep:∀l l' v v' b,hot (blk l)=true->hot (blk l')=true->g l=some v->g l'=some v'->blkOf v=some b->blkOf v'=some b->l=l'
 al:∀l v,g l=some v->al l
 refs:∀l v,g l=some v->isRef v=true
 gl:GlOk S (Mset N blk g) w
section
variable {D:Type}{S:Sh D}{M M' N:Nat->Prop}{w w':World}{w0:Bs}{g g':Nat->Option Value}{blk:Nat->Option (Bk D)}{al:Nat->Prop}{B:Bs}
theorem heap_lt {w:World}{b:Nat}{o:Obj}(h:w.heap[b]? =some o):b < w.heap.size:=by
 rcases Nat.lt_or_ge b w.heap.size with hl | hl
 ·exact hl
 ·rw[Array.getElem?_eq_none hl]at h;cases h
theorem BkOk.lt {bk:Bk D}{v:Value}{b:Nat}(h:BkOk S M w g B bk v)(hh:hot (some bk)=true)(hb:blkOf v=some b):b < w.heap.size/\B.Mine b:=by
 cases bk with
 | cells cs=>
  obtain⟨b',vs,t,rfl,hB,hh,_⟩:=h
  simp only[blkOf,Option.some.injEq]at hb
  subst hb
  exact⟨heap_lt hh,hB⟩
 | row e d=>
  obtain⟨hm,xs,⟨_,h⟩,_⟩:=h
  rcases h with⟨rfl,_⟩ | ⟨g',cap,cur,rfl,hB,hh,_⟩
  ·simp[blkOf]at hb
  ·have:=hm.1 b hb
   simp only[blkOf,Option.some.injEq]at hb
   subst hb
   exact⟨heap_lt hh,this⟩
 | ice d=>simp[hot]at hh
 | iter s p=>
  obtain⟨_,b',rfl,hB,hh⟩:=h
  simp only[blkOf,Option.some.injEq]at hb
  subst hb
  exact⟨heap_lt hh,hB⟩
 | map d=>
  obtain⟨m,b',es,n,_,_,rfl,hB,hh,_⟩:=h
  simp only[blkOf,Option.some.injEq]at hb
  subst hb
  exact⟨heap_lt hh,hB⟩
 | tc t cs=>
  obtain⟨b',vs,rfl,hB,⟨u0,hh,_⟩,_⟩:=h
  simp only[blkOf,Option.some.injEq]at hb
  subst hb
  exact⟨heap_lt hh,hB⟩
theorem BkOk.isRef {bk:Bk D}{v:Value}(h:BkOk S M w g B bk v):isRef v=true:=by
 cases bk with
 | cells cs=>obtain⟨b',vs,t,rfl,_⟩:=h;rfl
 | row e d=>
  obtain⟨_,xs,⟨_,h⟩,_⟩:=h
  rcases h with⟨rfl,_⟩ | ⟨g',cap,cur,rfl,_⟩<;>rfl
 | ice d=>
  rcases DatOk.form h with⟨a,cap,rfl⟩ | ⟨r,rfl⟩<;>rfl
 | iter s p=>obtain⟨_,b',rfl,_⟩:=h;rfl
 | map d=>obtain⟨m,b',es,n,_,_,rfl,_⟩:=h;rfl
 | tc t cs=>obtain⟨b',vs,rfl,_⟩:=h;rfl
theorem BkOk.keep {bk:Bk D}{v:Value}(h:BkOk S M w g B bk v)(k:Keeps M w M' w')(m:More g g')(hb:hot (some bk)=true->∀b,blkOf v=some b->w'.heap[b]? =w.heap[b]?):BkOk S M' w' g' B bk v:=by
 cases bk with
 | cells cs=>
  obtain⟨b,vs,t,rfl,hB,hh,hr⟩:=h
  exact⟨b,vs,t,rfl,hB,(hb rfl b rfl).trans hh,hr.keep k m⟩
 | row e d=>
  obtain⟨hm,xs,⟨hl,h⟩,hc⟩:=h
  refine⟨hm,xs,⟨hl,?_⟩,fun i j hi hj=> ?_⟩
  ·rcases h with h | ⟨g',cap,cur,rfl,hB,hh,hrest⟩
   ·exact .inl h
   ·exact .inr ⟨g',cap,cur,rfl,hB,(hb rfl g' rfl).trans hh,hrest⟩
  ·obtain⟨u,h1,h2,h3⟩:=hc i j hi hj
   exact⟨u,h1,h2,h3.keep k m⟩
 | ice d=>exact DatOk.keep h k
 | iter s p=>
  obtain⟨hl,b,rfl,hB,hh⟩:=h
  exact⟨hl,b,rfl,hB,(hb rfl b rfl).trans hh⟩
 | map d=>
  obtain⟨m,b,es,n,hm,hf,rfl,hB,hh,hr⟩:=h
  exact⟨m,b,es,n,hm,hf,rfl,hB,(hb rfl b rfl).trans hh,hr⟩
 | tc t cs=>
  obtain⟨b,vs,rfl,hB,hh,hr⟩:=h
  exact⟨b,vs,rfl,hB,hh.same (hb rfl b rfl),hr.keep k m⟩
theorem hot_some {x:Option (Bk D)}(h:hot x=true):∃bk,x=some bk/\hot (some bk)=true:=by
 cases x with
 | none=>simp[hot]at h
 | some bk=>exact⟨bk,rfl,h⟩
theorem Keeps.refl (M:Nat->Prop)(w:World):Keeps M w M w:=⟨Nat.le_refl _,fun _ _ h=>⟨h,rfl⟩⟩
theorem Hp.at (h:Hp S w0 N blk g al w){l:Nat}{v:Value}(h1:hot (blk l)=true)(h2:g l=some v):∃bk,blk l=some bk/\hot (some bk)=true/\BkOk S (Mset N blk g) w g w0 bk v:=by
 obtain⟨bk,hbk,hh⟩:=hot_some h1
 obtain⟨v',hv',hok⟩:=h.bks l bk hbk
 rw[h2]at hv'
 injection hv' with hv'
 subst hv'
 exact⟨bk,hbk,hh,hok⟩
theorem Hp.mlt (h:Hp S w0 N blk g al w){b:Nat}(hb:Mset N blk g b):b < w.heap.size:=by
 rcases hb with hb | ⟨l,v,h1,h2,h3⟩
 ·exact Nat.lt_of_lt_of_le (h.hN b hb).1 h.below.size
 ·obtain⟨bk,_,hh,hok⟩:=h.at h1 h2
  exact(hok.lt hh h3).1
theorem Hp.grow (h:Hp S w0 N blk g al w)(hb:Below w.heap.size w w'):Hp S w0 N blk g al w'/\Keeps (Mset N blk g) w (Mset N blk g) w':=by
 have hk:Keeps (Mset N blk g) w (Mset N blk g) w':=⟨hb.size,fun b hlt hm=>⟨hm,hb.block b hlt⟩⟩
 refine⟨⟨h.below.grow hb,h.hN,fun l bk hl=> ?_,h.sep,h.al,h.refs,h.gl.keep hk⟩,hk⟩
 obtain⟨v,hv,hok⟩:=h.bks l bk hl
 exact⟨v,hv,hok.keep hk (More.refl _) fun hh b hbv=>hb.block b (hok.lt hh hbv).1⟩
theorem Hp.add (h:Hp S w0 N blk g al w)(hb:Below w.heap.size w w'){l:Nat}{bk:Bk D}{v:Value}(hl:¬al l)(hv:∀b,blkOf v=some b->w.heap.size<=b)
  (hok:∀M',Keeps (Mset N blk g) w M' w'->(∀c,M' c->Mset N blk g c\/blkOf v=some c)->BkOk S M' w' (upd g l (some v)) w0 bk v):
  Hp S w0 N (upd blk l (some bk)) (upd g l (some v)) (fun n=>al n\/n=l) w'/\Keeps (Mset N blk g) w (Mset N (upd blk l (some bk)) (upd g l (some v))) w'/\More g (upd g l (some v)):=by
 have hgl:g l=none:=by
  cases hg:g l with
  | none=>rfl
  | some u=>exact absurd (h.al l u hg) hl
 have hbl:blk l=none:=by
  cases hx:blk l with
  | none=>rfl
  | some bk'=>
   obtain⟨u,hu,_⟩:=h.bks l bk' hx
   rw[hgl]at hu
   cases hu
 have hm:More g (upd g l (some v)):=fun n u hn=>by
  rw[upd_other _ _ _ _ (by rintro rfl;rw[hgl]at hn;cases hn)]
  exact hn
 have hk:Keeps (Mset N blk g) w (Mset N (upd blk l (some bk)) (upd g l (some v))) w':=by
  refine⟨hb.size,fun b hlt hmb=>⟨?_,hb.block b hlt⟩⟩
  rintro(hnb | ⟨l',u,h1,h2,h3⟩)
  ·exact hmb (.inl hnb)
  ·by_cases he:l'=l
   ·subst he
    rw[upd_same]at h2
    injection h2 with h2
    subst h2
    exact absurd (hv b h3) (by omega)
   ·rw[upd_other _ _ _ _ he]at h1 h2
    exact hmb (.inr ⟨l',u,h1,h2,h3⟩)
 have hM':∀c,Mset N (upd blk l (some bk)) (upd g l (some v)) c->Mset N blk g c\/blkOf v=some c:=by
  rintro c (hnb | ⟨l',u,h1,h2,h3⟩)
  ·exact .inl (.inl hnb)
  ·by_cases he:l'=l
   ·subst he
    rw[upd_same]at h2
    injection h2 with h2
    subst h2
    exact .inr h3
   ·rw[upd_other _ _ _ _ he]at h1 h2
    exact .inl (.inr ⟨l',u,h1,h2,h3⟩)
 refine⟨⟨h.below.grow hb,h.hN,fun l' bk' hl'=> ?_,?_,?_,?_,h.gl.keep hk⟩,hk,hm⟩
 ·by_cases he:l'=l
  ·subst he
   rw[upd_same]at hl'
   injection hl' with hl'
   subst hl'
   exact⟨v,upd_same _ _ _,hok _ hk hM'⟩
  ·rw[upd_other _ _ _ _ he]at hl'⊢
   obtain⟨u,hu,hoku⟩:=h.bks l' bk' hl'
   exact⟨u,hu,hoku.keep hk hm fun hh b hbv=>hb.block b (hoku.lt hh hbv).1⟩
 ·intro a b va vb c ha hb' hga hgb hca hcb
  have old:∀n u c,n≠l->hot (upd blk l (some bk) n)=true->upd g l (some v) n=some u->blkOf u=some c->c < w.heap.size:=by
   intro n u c hn h1 h2 h3
   rw[upd_other _ _ _ _ hn]at h1 h2
   exact h.mlt (.inr ⟨n,u,h1,h2,h3⟩)
  by_cases hal:a=l
  ·by_cases hbl':b=l
   ·rw[hal,hbl']
   ·have h1:=old b vb c hbl' hb' hgb hcb
    subst hal
    rw[upd_same]at hga
    injection hga with hga
    subst hga
    have:=hv c hca
    omega
  ·by_cases hbl':b=l
   ·have h1:=old a va c hal ha hga hca
    subst hbl'
    rw[upd_same]at hgb
    injection hgb with hgb
    subst hgb
    have:=hv c hcb
    omega
   ·rw[upd_other _ _ _ _ hal]at ha hga
    rw[upd_other _ _ _ _ hbl']at hb' hgb
    exact h.sep a b va vb c ha hb' hga hgb hca hcb
 ·intro n u hn
  by_cases he:n=l
  ·exact .inr he
  ·rw[upd_other _ _ _ _ he]at hn
   exact .inl (h.al n u hn)
 ·intro n u hn
  by_cases he:n=l
  ·subst he
   rw[upd_same]at hn
   injection hn with hn
   subst hn
   exact(hok _ hk hM').isRef
  ·rw[upd_other _ _ _ _ he]at hn
   exact h.refs n u hn
theorem Hp.write (h:Hp S w0 N blk g al w){l b:Nat}{bk bk':Bk D}{v:Value}(hl:blk l=some bk)(hh:hot (some bk)=true)(hh':hot (some bk')=true)(hg:g l=some v)(hv:blkOf v=some b)
  (hos:w'.os=w.os) (htp:w'.tape=w.tape) (hout:w'.output=w.output) (hsz:w'.heap.size=w.heap.size) (hsame:∀n,n≠b->w'.heap[n]? =w.heap[n]?)
  (hok:Keeps (Mset N blk g) w (Mset N blk g) w'->BkOk S (Mset N blk g) w' g w0 bk' v):
  Hp S w0 N (upd blk l (some bk')) g al w'/\Keeps (Mset N blk g) w (Mset N (upd blk l (some bk')) g) w':=by
 have hsome:∀n,hot (upd blk l (some bk') n)=hot (blk n):=by
  intro n
  by_cases he:n=l
  ·subst he;simp[upd_same,hl,hh,hh']
  ·rw[upd_other _ _ _ _ he]
 have hM:Mset N (upd blk l (some bk')) g=Mset N blk g:=by
  funext c
  simp only[Mset,hsome]
 have hmb:Mset N blk g b:= .inr ⟨l,v,by rw[hl];exact hh,hg,hv⟩
 obtain⟨v',hv',hokv⟩:=h.bks l bk hl
 rw[hg]at hv'
 injection hv' with hv'
 subst hv'
 have hbB:=(hokv.lt hh hv).2
 have hk:Keeps (Mset N blk g) w (Mset N blk g) w':=⟨Nat.le_of_eq hsz.symm,fun c _ hmc=>⟨hmc,hsame c (fun e=>hmc (e▸hmb))⟩⟩
 refine⟨⟨⟨hos.trans h.below.os,htp.trans h.below.tape,hout.trans h.below.output,hsz▸h.below.size,fun k hk' hx=>(hsame k ?_).trans (h.below.block k hk' hx)⟩,h.hN,?_,?_,h.al,h.refs,by rw[hM];exact h.gl.keep hk⟩,hM▸hk⟩
 ·rintro rfl
  rcases hbB with h1 | h1
  ·omega
  ·exact hx h1
 ·intro n bkn hn
  rw[hM]
  by_cases he:n=l
  ·subst he
   rw[upd_same]at hn
   injection hn with hn
   subst hn
   exact⟨v,hg,hok hk⟩
  ·rw[upd_other _ _ _ _ he]at hn
   obtain⟨u,hu,hoku⟩:=h.bks n bkn hn
   refine⟨u,hu,hoku.keep hk (More.refl _) fun hhn c hc=>hsame c ?_⟩
   rintro rfl
   exact he (h.sep n l u v c (by rw[hn];exact hhn) (by rw[hl];exact hh) hu hg hc hv)
 ·intro a c va vc d ha hc
  rw[hsome]at ha hc
  exact h.sep a c va vc d ha hc
theorem Hp.cool (h:Hp S w0 N blk g al w)(l:Nat)(x:Option (Bk D))(hx:hot x=false)(hok:∀bk,x=some bk->∃v,g l=some v/\BkOk S (Mset N (upd blk l x) g) w g w0 bk v):
  Hp S w0 N (upd blk l x) g al w/\Keeps (Mset N blk g) w (Mset N (upd blk l x) g) w:=by
 have hsub:∀n,hot (upd blk l x n)=true->hot (blk n)=true:=by
  intro n hn
  by_cases he:n=l
  ·subst he;rw[upd_same,hx]at hn;cases hn
  ·rwa [upd_other _ _ _ _ he]at hn
 have hk:Keeps (Mset N blk g) w (Mset N (upd blk l x) g) w:=by
  refine⟨Nat.le_refl _,fun b _ hm=>⟨?_,rfl⟩⟩
  rintro(hn | ⟨n,u,h1,h2,h3⟩)
  ·exact hm (.inl hn)
  ·exact hm (.inr ⟨n,u,hsub n h1,h2,h3⟩)
 refine⟨⟨h.below,h.hN,fun n bk hn=> ?_,fun a c va vc d ha hc=>h.sep a c va vc d (hsub a ha) (hsub c hc),h.al,h.refs,h.gl.keep hk⟩,hk⟩
 by_cases hne:n=l
 ·subst hne
  rw[upd_same]at hn
  exact hok bk hn
 ·rw[upd_other _ _ _ _ hne]at hn
  obtain⟨u,hu,hoku⟩:=h.bks n bk hn
  exact⟨u,hu,hoku.keep hk (More.refl _) fun _ _ _=>rfl⟩
theorem Hp.move (h:Hp S w0 N blk g al w){l fr:Nat}{bk':Bk D}{v v':Value}(hl:hot (blk l)=true)(hg:g l=some v)(hfr:¬al fr)
  (hos:w'.os=w.os) (htp:w'.tape=w.tape) (hout:w'.output=w.output) (hsz:w.heap.size<=w'.heap.size) (hsame:∀n,n < w.heap.size->blkOf v≠some n->w'.heap[n]? =w.heap[n]?)
  (hv':∀b,blkOf v'=some b->blkOf v=some b\/w.heap.size<=b)
  (hok:∀M',Keeps (Mset N blk g) w M' w'->(∀c,M' c->Mset N blk g c\/blkOf v'=some c)->BkOk S M' w' (upd g fr (some v')) w0 bk' v'):
  Hp S w0 N (upd (upd blk l none) fr (some bk')) (upd g fr (some v')) (fun n=>al n\/n=fr) w'/\Keeps (Mset N blk g) w (Mset N (upd (upd blk l none) fr (some bk')) (upd g fr (some v'))) w'/\More g (upd g fr (some v')):=by
 have hgl:g fr=none:=by
  cases hg:g fr with
  | none=>rfl
  | some u=>exact absurd (h.al fr u hg) hfr
 have hm:More g (upd g fr (some v')):=fun n u hn=>by
  rw[upd_other _ _ _ _ (by rintro rfl;rw[hgl]at hn;cases hn)]
  exact hn
 have hsub:∀n,n≠fr->hot (upd (upd blk l none) fr (some bk') n)=true->n≠l/\hot (blk n)=true:=by
  intro n hn h1
  rw[upd_other _ _ _ _ hn]at h1
  by_cases he:n=l
  ·subst he;rw[upd_same]at h1;simp[hot]at h1
  ·rw[upd_other _ _ _ _ he]at h1
   exact⟨he,h1⟩
 have hM':∀c,Mset N (upd (upd blk l none) fr (some bk')) (upd g fr (some v')) c->Mset N blk g c\/blkOf v'=some c:=by
  rintro c (hnb | ⟨l',u,h1,h2,h3⟩)
  ·exact .inl (.inl hnb)
  ·by_cases he:l'=fr
   ·subst he
    rw[upd_same]at h2
    injection h2 with h2
    subst h2
    exact .inr h3
   ·have h1':=(hsub l' he h1).2
    rw[upd_other _ _ _ _ he]at h2
    exact .inl (.inr ⟨l',u,h1',h2,h3⟩)
 have hmv:∀b,blkOf v=some b->Mset N blk g b:=fun b hb=> .inr ⟨l,v,hl,hg,hb⟩
 have hk:Keeps (Mset N blk g) w (Mset N (upd (upd blk l none) fr (some bk')) (upd g fr (some v'))) w':=by
  refine⟨hsz,fun b hlt hmb=>⟨fun hb=> ?_,hsame b hlt fun e=>hmb (hmv b e)⟩⟩
  rcases hM' b hb with h1 | h1
  ·exact hmb h1
  ·rcases hv' b h1 with h2 | h2
   ·exact hmb (hmv b h2)
   ·omega
 have hmine:∀b,blkOf v=some b->w0.Mine b:=fun b hb=>by
  obtain⟨bk,_,hh,hok'⟩:=h.at hl hg
  exact(hok'.lt hh hb).2
 refine⟨⟨⟨hos.trans h.below.os,htp.trans h.below.tape,hout.trans h.below.output,Nat.le_trans h.below.size hsz,fun k hk' hx=>(hsame k (Nat.lt_of_lt_of_le hk' h.below.size) ?_).trans (h.below.block k hk' hx)⟩,h.hN,fun n bkn hn=> ?_,?_,?_,?_,h.gl.keep hk⟩,hk,hm⟩
 ·intro e
  rcases hmine k e with h1 | h1
  ·omega
  ·exact hx h1
 ·by_cases he:n=fr
  ·subst he
   rw[upd_same]at hn
   injection hn with hn
   subst hn
   exact⟨v',upd_same _ _ _,hok _ hk hM'⟩
  ·rw[upd_other _ _ _ _ he]at hn⊢
   have hnl:n≠l:=by rintro rfl;rw[upd_same]at hn;cases hn
   rw[upd_other _ _ _ _ hnl]at hn
   obtain⟨u,hu,hoku⟩:=h.bks n bkn hn
   refine⟨u,hu,hoku.keep hk hm fun hh b hbv=>hsame b (hoku.lt hh hbv).1 fun e=> ?_⟩
   exact hnl (h.sep n l u v b (by rw[hn];exact hh) hl hu hg hbv e)
 ·have old:∀n u c,n≠fr->hot (upd (upd blk l none) fr (some bk') n)=true->upd g fr (some v') n=some u->blkOf u=some c->blkOf v'=some c->False:=by
   intro n u c hn h1 h2 h3 h4
   obtain⟨hnl,h1⟩:=hsub n hn h1
   rw[upd_other _ _ _ _ hn]at h2
   rcases hv' c h4 with h5 | h5
   ·exact hnl (h.sep n l u v c h1 hl h2 hg h3 h5)
   ·have:=h.mlt (.inr ⟨n,u,h1,h2,h3⟩)
    omega
  intro a b va vb c ha hb' hga hgb hca hcb
  by_cases hal:a=fr
  ·by_cases hbl':b=fr
   ·rw[hal,hbl']
   ·subst hal
    rw[upd_same]at hga
    injection hga with hga
    subst hga
    exact(old b vb c hbl' hb' hgb hcb hca).elim
  ·by_cases hbl':b=fr
   ·subst hbl'
    rw[upd_same]at hgb
    injection hgb with hgb
    subst hgb
    exact(old a va c hal ha hga hca hcb).elim
   ·have ha:=(hsub a hal ha).2
    have hb':=(hsub b hbl' hb').2
    rw[upd_other _ _ _ _ hal]at hga
    rw[upd_other _ _ _ _ hbl']at hgb
    exact h.sep a b va vb c ha hb' hga hgb hca hcb
 ·intro n u hn
  by_cases he:n=fr
  ·exact .inr he
  ·rw[upd_other _ _ _ _ he]at hn
   exact .inl (h.al n u hn)
 ·intro n u hn
  by_cases he:n=fr
  ·subst he
   rw[upd_same]at hn
   injection hn with hn
   subst hn
   exact(hok _ hk hM').isRef
  ·rw[upd_other _ _ _ _ he]at hn
   exact h.refs n u hn
end
end Go.Vc
namespace Go.Vc
open Go.RowKit
set_option linter.unusedVariables false
structure Ty where
 kind:Nat
 agg:Bool
 size:Nat
 bytes:Nat
 zero:List Value
 offs:List (Nat×Nat×Bool)
 elem:Option TypeId
 eqs:List Nat
 lit:Bool
 arr:Option (TypeId×Nat)
 zag:Bool
 mp:Option (TypeId×TypeId)
def isAggB (P:Program)(t:TypeId):Bool:=
 match P.underlying t with
 | some (.struct _)=>true
 | some (.array _ _)=>true
 | _=>false
def ikNo:IntKind->Nat
 | .i8=>20
 | .i16=>21
 | .i32=>22
 | .i64=>23
 | .u8=>24
 | .u16=>25
 | .u32=>26
 | .u64=>27
def noIk:Nat->Option IntKind
 | 20=>some .i8
 | 21=>some .i16
 | 22=>some .i32
 | 23=>some .i64
 | 24=>some .u8
 | 25=>some .u16
 | 26=>some .u32
 | 27=>some .u64
 | _=>none
@[simp] theorem ikNo_1 (k:IntKind):(ikNo k=1)=False:=by cases k<;>simp[ikNo]
@[simp] theorem ikNo_3 (k:IntKind):(ikNo k=3)=False:=by cases k<;>simp[ikNo]
@[simp] theorem ikNo_4 (k:IntKind):(ikNo k=4)=False:=by cases k<;>simp[ikNo]
@[simp] theorem ikNo_5 (k:IntKind):(ikNo k=5)=False:=by cases k<;>simp[ikNo]
def kindOf:TypeDesc->Nat
 | .bool=>1
 | .int k=>ikNo k
 | .string=>3
 | .slice _=>4
 | .struct _=>5
 | .pointer _=>6
 | .func _ _ _=>7
 | _=>0
def cellsIn (P:Program)(t:TypeId):Nat:=if (P.underlying t).isSome then P.cellsOf t else 0
def offsOf (P:Program):TypeDesc->List (Nat×Nat×Bool)
 | .struct fs=>fs.toList.map fun f=>(f.offset,cellsIn P f.type,isAggB P f.type)
 | _=>[]
def elemIn:TypeDesc->Option TypeId
 | .slice e=>some e
 | _=>none
def eqKind (P:Program)(t:TypeId):Option Nat:=
 match P.underlying t with
 | some .bool=>some 1
 | some (.int _)=>some 2
 | some .string=>some 3
 | _=>none
def eqFields (P:Program):Nat->List Field->Option (List Nat)
 | _,[]=>some []
 | i,f::r=>
  match eqKind P f.type,eqFields P (i+1) r with
  | some k,some ks=>if Nat.beq f.offset i && !(f.name== "_") && Nat.beq (cellsIn P f.type) 1 then some (k::ks)else none
  | _,_=>none
def eqsOf (P:Program)(t:TypeId):TypeDesc->List Nat
 | .struct fs=>if P.stoodInHeld t || P.eqGuardType P.depth t then[]else(match eqFields P 0 fs.toList with
  | some ks=>ks
  | none=>[])
 | .array n e=>if P.eqGuardType P.depth t then[]else(match eqKind P e,P.info? e with
  | some k,some i=>if Nat.beq i.size 1 then List.replicate n k else[]
  | _,_=>[])
 | _=>[]
def arrIn:TypeDesc->Option (TypeId×Nat)
 | .array n e=>some (e,n)
 | _=>none
def isAggV:Value->Bool
 | .agg _=>true
 | _=>false
def mapIn:TypeDesc->Option (TypeId×TypeId)
 | .map k v=>some (k,v)
 | .pointer e=>some (e,e)
 | _=>none
def tyOf (P:Program)(t:TypeId):Option Ty:=
 match P.info? t,P.underlying t with
 | some i,some d=>
  match i.zero with
  | some z=>some ⟨kindOf d,isAggB P t,i.size,i.bytes,z.cells.toList,offsOf P d,elemIn d,eqsOf P t d,false,arrIn d,isAggV z,mapIn d⟩
  | none=>none
 | _,_=>none
def TyOk (P:Program)(t:TypeId)(ty:Ty):Prop:=tyOf P t=some {ty with lit:=false}
def InR:IntKind->Int->Prop
 | .i8,n=> -128<=n/\n<=127
 | .i16,n=> -32768<=n/\n<=32767
 | .i32,n=> -2147483648<=n/\n<=2147483647
 | .i64,n=> -9223372036854775808<=n/\n<=9223372036854775807
 | .u8,n=>0<=n/\n<=255
 | .u16,n=>0<=n/\n<=65535
 | .u32,n=>0<=n/\n<=4294967295
 | .u64,n=>0<=n/\n<=18446744073709551615
theorem wrap_in {k:IntKind}{n:Int}(h:InR k n):k.wrap n=n:=by
 cases k<;>simp only[InR]at h<;>simp[IntKind.wrap,IntKind.bits,IntKind.signed]<;>omega
def wrp (k:IntKind)(n:Int):Int:=k.wrap n
theorem wrp_in {k:IntKind}{n:Int}(h:InR k n):wrp k n=n:=wrap_in h
def andI (k:IntKind)(x y:Int):Int:=k.wrap (BitVec.ofInt k.bits x &&& BitVec.ofInt k.bits y).toNat
def orI (k:IntKind)(x y:Int):Int:=k.wrap (BitVec.ofInt k.bits x ||| BitVec.ofInt k.bits y).toNat
def xorI (k:IntKind)(x y:Int):Int:=k.wrap (BitVec.ofInt k.bits x ^^^ BitVec.ofInt k.bits y).toNat
def ansI (k:IntKind)(x y:Int):Int:=k.wrap (BitVec.ofInt k.bits x &&& ~~~BitVec.ofInt k.bits y).toNat
def shlI (k:IntKind)(x y:Int):Int:=k.wrap (x*2 ^ (min y.toNat k.bits))
def shrI (k:IntKind)(x y:Int):Int:=x.fdiv (2 ^ (min y.toNat k.bits))
def kEq:IntKind->IntKind->Bool:=fun a b=>a==b
def Pv.beq:Pv->Pv->Bool
 | .bool a, .bool b=>a==b
 | .int k a, .int k' b=>kEq k k' && a==b
 | .str a, .str b=>a==b
 | _,_=>false
def Pv.kind:Pv->Nat
 | .bool _=>1
 | .int k _=>ikNo k
 | .str _=>3
def Pv.lf {D:Type}:Pv->Lf D
 | .bool b=> .bool b
 | .int k n=> .int k n
 | .str s=> .str s
def mfind {V:Type}(k:Pv):List (Pv×V)->Option V
 | []=>none
 | p::r=>if Pv.beq k p.1 then some p.2 else mfind k r
def mput {V:Type}(k:Pv)(v:V):List (Pv×V)->List (Pv×V)
 | []=>[(k,v)]
 | p::r=>if Pv.beq k p.1 then(p.1,v)::r else p::mput k v r
structure MpOk {D:Type}(S:Sh D)(m:Mp D):Prop where
 keys:∀p∈m.kvs,p.1.kind=m.kind
 has:∀k:Pv,k.kind=m.kind->m.has k=(mfind k m.kvs).isSome
 get:∀k:Pv,k.kind=m.kind->m.get k=((mfind k m.kvs).getD m.zero).map Pv.lf
 put:∀k vs,k.kind=m.kind->vs.map Pv.kind=m.zero.map Pv.kind->∃m',S.mp (m.put k vs)=some m'/\m'.kvs=mput k vs m.kvs/\m'.agg=m.agg
 len:m.len=m.kvs.length
def preP:Option Prop->Prop
 | none=>True
 | some p=>p
structure DP where
 p:Prop
 b:Bool
 h:b=true->p
@[reducible] def dp (p:Prop) [d:Decidable p]:DP:=⟨p,decide p,of_decide_eq_true⟩
@[reducible] def dq (p:Prop):DP:=⟨p,false,fun e=>nomatch e⟩
def preD:Option DP->Prop
 | none=>True
 | some q=>q.p
theorem preD_map {o:Option Prop}:preD (o.map dq) ↔ preP o:=by cases o<;>exact Iff.rfl
structure Out (D:Type) where
 pre:Option DP
 val:Sl D
 blks:List (Nat×Option (Bk D))
abbrev Ct (D:Type):=List (Sl D)->List (Bk D)->Option (Option DP×Sl D×List (Nat×Bk D)×List Nat)
def ofLf {D:Type}:Value->Lf D
 | .int k n=> .int k n
 | .string s=>if Nat.ble s.data.size 9223372036854775807 then .str s.data.toList else .val (.string s)
 | .nilIface=> .ifc none
 | v=> .val v
def ofVal {D:Type}:Value->Sl D
 | .agg cs=> .one (.agg (cs.toList.map ofLf))
 | v=> .one (.lf (ofLf v))
def bOf {D:Type}:Sl D->Option Bool
 | .one (.lf (.bool b))=>some b
 | .one (.lf (.val (.bool b)))=>some b
 | _=>none
def Lf.norm {D:Type}:Lf D->Lf D
 | .val (.bool b)=> .bool b
 | x=>x
def Sv.norm {D:Type}:Sv D->Sv D
 | .lf x=> .lf x.norm
 | .agg xs=> .agg (xs.map Lf.norm)
def Sl.norm {D:Type}:Sl D->Sl D
 | .one x=> .one x.norm
 | .tup xs=> .tup (xs.map Sv.norm)
def opnd {D:Type}(slot:Nat->Sl D):Operand->Sl D
 | .tmp t=>slot t
 | .const v=>ofVal v
 | .func f=> .one (.lf (.fn f []))
 | .global i=> .one (.lf (.glb i))
def Sv.cells {D:Type}:Sv D->List (Lf D)
 | .lf x=>[x]
 | .agg xs=>xs
def putAt {D:Type}(cs:List (Lf D))(o:Nat)(xs:List (Lf D)):List (Lf D):=cs.take o++(xs++cs.drop (o+xs.length))
def Lf.storable {D:Type}:Lf D->Bool
 | .any=>false
 | .val (.agg _)=>false
 | .val (.tuple _)=>false
 | _=>true
def Sv.whole {D:Type}:Sv D->Bool
 | .lf x=>x.storable
 | .agg _=>true
def firstOf {α:Type}:Option α->Option α->Option α
 | some a,_=>some a
 | none,b=>b
section
variable {D:Type}
def lfO (pre:Option DP)(x:Lf D):Option (Out D):=some ⟨pre, .one (.lf x),[]⟩
def xInt (op:BinOp)(k:IntKind)(a b:Int):Option (Out D):=
 match op with
 | .add=>lfO none (.int k (wrp k (a+b)))
 | .sub=>lfO none (.int k (wrp k (a - b)))
 | .mul=>lfO none (.int k (wrp k (a*b)))
 | .and=>lfO none (.int k (andI k a b))
 | .or=>lfO none (.int k (orI k a b))
 | .xor=>lfO none (.int k (xorI k a b))
 | .andNot=>lfO none (.int k (ansI k a b))
 | .quo=>lfO (some (dp (b≠0))) (.int k (wrp k (a.tdiv b)))
 | .rem=>lfO (some (dp (b≠0))) (.int k (a.tmod b))
 | .eql=>lfO none (.bool (a==b))
 | .neq=>lfO none (.bool (a !=b))
 | .lss=>lfO none (.bool (decide (a < b)))
 | .leq=>lfO none (.bool (decide (a<=b)))
 | .gtr=>lfO none (.bool (decide (b < a)))
 | .geq=>lfO none (.bool (decide (b<=a)))
 | _=>none
def xShl (k:IntKind)(a b:Int):Option (Out D):=lfO (some (dp (0<=b))) (.int k (shlI k a b))
def xShr (k:IntKind)(a b:Int):Option (Out D):=lfO (some (dp (0<=b))) (.int k (shrI k a b))
def xStr (op:BinOp)(a b:List UInt8):Option (Out D):=
 match op with
 | .eql=>lfO none (.bool (a==b))
 | .neq=>lfO none (.bool (a !=b))
 | .lss=>lfO none (.bool (Op.bytesLess a b))
 | .leq=>lfO none (.bool (Op.bytesLess a b || a==b))
 | .gtr=>lfO none (.bool (!(Op.bytesLess a b || a==b)))
 | .geq=>lfO none (.bool (!Op.bytesLess a b))
 | .add=>lfO (some (dp (a.length+b.length<=9223372036854775807))) (.str (a++b))
 | _=>none
def eq1 (k:Nat)(x y:Lf D):Option Bool:=
 match k with
 | 1=>(match x,y with
  | .bool a, .bool b=>some (a==b)
  | _,_=>none)
 | 2=>(match x,y with
  | .int k a, .int k' b=>if kEq k k' then some (a==b)else none
  | _,_=>none)
 | 3=>(match x,y with
  | .str a, .str b=>some (a==b)
  | _,_=>none)
 | _=>none
def eqLfs:List Nat->List (Lf D)->List (Lf D)->Option Bool
 | [],[],[]=>some true
 | k::ks,x::xs,y::ys=>
  (match eq1 k x y,eqLfs ks xs ys with
  | some e,some r=>some (e && r)
  | _,_=>none)
 | _,_,_=>none
def xNilq (T:TypeId->Option Ty)(S:Sh D)(op:BinOp)(t:TypeId)(x y:Sl D):Option (Out D):=
 match T t with
 | none=>none
 | some ty=>(match ty.elem,x,y with
  | some _, .one (.lf (.dat d)), .one (.lf (.val (.slice none 0 0)))=>if Nat.blt 0 (S.size d)then(match op with
   | .eql=>lfO none (.unk fun b=>b=true->S.len d=0)
   | .neq=>lfO none (.unk fun b=>b=false->S.len d=0)
   | _=>none)else none
  | some _, .one (.lf (.val (.slice none 0 0))), .one (.lf (.val (.slice none 0 0)))=>(match op with
   | .eql=>lfO none (.val (.bool true))
   | .neq=>lfO none (.val (.bool false))
   | _=>none)
  | _,_,_=>none)
def xBin (T:TypeId->Option Ty)(op:BinOp)(t:TypeId)(x y:Sl D):Option (Out D):=
 match x,y with
 | .one (.lf (.int k a)), .one (.lf (.int k' b))=>(match op with
  | .shl=>xShl k a b
  | .shr=>xShr k a b
  | op=>if kEq k k' then xInt op k a b else none)
 | .one (.lf (.str a)), .one (.lf (.str b))=>xStr op a b
 | .one (.agg xs), .one (.agg ys)=>
  (match T t with
  | some ty=>(match ty.eqs with
   | []=>none
   | ks=>(match eqLfs ks (xs.map Lf.norm) (ys.map Lf.norm),op with
    | some r, .eql=>lfO none (.bool r)
    | some r, .neq=>lfO none (.bool (!r))
    | _,_=>none))
  | none=>none)
 | x,y=>
  match bOf x,bOf y with
  | some a,some b=>
   (match T t with
   | some ty=>if ty.kind==1 then(match op with
    | .eql=>lfO none (.bool (a==b))
    | .neq=>lfO none (.bool (a !=b))
    | _=>none)else none
   | none=>none)
  | _,_=>none
def xUn (op:UnOp)(x:Sl D):Option (Out D):=
 match op,x with
 | .not, .one (.lf (.bool b))=>lfO none (.bool (!b))
 | .not, .one (.lf (.val (.bool b)))=>lfO none (.val (.bool (!b)))
 | .not, .one (.lf (.unk p))=>lfO none (.unk fun b=>p (!b))
 | .neg, .one (.lf (.int k n))=>lfO none (.int k (wrp k (-n)))
 | .xor, .one (.lf (.int k n))=>lfO none (.int k (xorI k (if k.signed then -1 else k.max) n))
 | _,_=>none
def cellRun (S:Sh D)(d:D)(i:Nat):Nat->Nat->List (Lf D)
 | _,0=>[]
 | j,n+1=>S.cell d i j::cellRun S d i (j+1) n
def xLoad (T:TypeId->Option Ty)(S:Sh D)(blk:Nat->Option (Bk D))(t:TypeId)(x:Sl D):Option (Out D):=
 match T t with
 | none=>none
 | some ty=>
  match x with
  | .one (.lf (.ptr l o))=>
   match blk l with
   | some (.cells cs)=>
    if ty.agg then(if Nat.ble (o+ty.size) cs.length then some ⟨none, .one (.agg ((cs.drop o).take ty.size)),[]⟩else none)
    else(match cs[o]? with
     | some y=>lfO none y
     | none=>none)
   | _=>none
  | .one (.lf (.elt d i j))=>
   if ty.agg then(if Nat.ble (j+ty.size) (S.size d)then some ⟨none, .one (.agg (cellRun S d i j ty.size)),[]⟩else none)
   else(if Nat.blt j (S.size d)then lfO none (S.cell d i j)else none)
  | .one (.lf (.opt l i j sz))=>
   match blk l with
   | some (.row e d)=>
    if ty.agg then(if Nat.ble (j+ty.size) (S.size d) && Nat.beq sz (S.size d)then some ⟨some (dp (i < S.len d)), .one (.agg (cellRun S d i j ty.size)),[]⟩else none)
    else(if Nat.blt j (S.size d) && Nat.beq sz (S.size d)then lfO (some (dp (i < S.len d))) (S.cell d i j)else none)
   | _=>none
  | _=>none
def xStore (T:TypeId->Option Ty)(S:Sh D)(blk:Nat->Option (Bk D))(t:TypeId)(x y:Sl D):Option (Out D):=
 match T t,x,y with
 | some ty, .one (.lf (.ptr l o)), .one u=>
  match blk l with
  | some (.cells cs)=>
   if Nat.beq u.cells.length ty.size && Nat.ble (o+u.cells.length) cs.length && u.cells.all Lf.storable then some ⟨none, .one (.lf .any),[(l,some (.cells (putAt cs o u.cells)))]⟩else none
  | _=>none
 | some ty, .one (.lf (.opt l i j sz)), .one u=>
  match blk l with
  | some (.row e d)=>
   if Nat.beq u.cells.length ty.size && Nat.ble (j+u.cells.length) (S.size d) && Nat.beq sz (S.size d) && u.cells.all Lf.storable then(match S.set d i j (u.cells.map Lf.norm)with
    | some d'=>some ⟨some (dp (i < S.len d)), .one (.lf .any),[(l,some (.row e d'))]⟩
    | none=>none)else none
  | _=>none
 | _,_,_=>none
def xField (T:TypeId->Option Ty)(t:TypeId)(x:Sl D)(f:Nat):Option (Out D):=
 match T t with
 | none=>none
 | some ty=>
  match ty.offs[f]?,x with
  | some (off,sz,_), .one (.lf (.ptr l o))=>if Nat.beq sz 0 then none else lfO none (.ptr l (o+off))
  | some (off,sz,_), .one (.lf (.elt d i j))=>if Nat.beq sz 0 then none else lfO none (.elt d i (j+off))
  | some (off,sz,_), .one (.lf (.opt l i j z))=>if Nat.beq sz 0 then none else lfO none (.opt l i (j+off) z)
  | _,_=>none
def xPart (T:TypeId->Option Ty)(t:TypeId)(x:Sl D)(f:Nat):Option (Out D):=
 match T t with
 | none=>none
 | some ty=>
  match ty.offs[f]?,x with
  | some (off,sz,ag), .one (.agg cs)=>
   if Nat.beq sz 0 then none else if ag then(if Nat.ble (off+sz) cs.length then some ⟨none, .one (.agg ((cs.drop off).take sz)),[]⟩else none)
   else(match cs[off]? with
    | some y=>lfO none y
    | none=>none)
  | _,_=>none
def xIndex (T:TypeId->Option Ty)(S:Sh D)(blk:Nat->Option (Bk D))(t:TypeId)(x i:Sl D):Option (Out D):=
 match T t with
 | none=>none
 | some ty=>
  match ty.elem with
  | none=>none
  | some e=>
   match T e with
   | none=>none
   | some te=>
    match x,i with
    | .one (.lf (.dat d)), .one (.lf (.int _ n))=>if Nat.beq te.size (S.size d) && Nat.blt 0 te.size then lfO (some (dp (0<=n/\n < S.len d))) (.elt d n.toNat 0)else none
    | .one (.lf (.own l)), .one (.lf (.int _ n))=>
     match blk l with
     | some (.row _ d)=>if Nat.beq te.size (S.size d) && Nat.blt 0 te.size then lfO (some (dp (0<=n/\n < S.len d))) (.opt l n.toNat 0 te.size)else none
     | some (.ice d)=>if Nat.beq te.size (S.size d) && Nat.blt 0 te.size then lfO (some (dp (0<=n/\n < S.len d))) (.elt d n.toNat 0)else none
     | _=>none
    | _,_=>none
def xExtract (x:Sl D)(i:Nat):Option (Out D):=
 match x with
 | .tup xs=>(match xs[i]? with
  | some y=>some ⟨none, .one y,[]⟩
  | none=>none)
 | _=>none
def fillIn (ty:Ty)(slot:Nat->Sl D):List (Nat×Operand)->List (Lf D)->Option (List (Lf D))
 | [],cs=>some cs
 | (f,x)::r,cs=>
  match ty.offs[f]?,opnd slot x with
  | some (off,sz,_), .one u=>if u.whole && Nat.beq u.cells.length sz && Nat.ble (off+sz) cs.length then fillIn ty slot r (putAt cs off u.cells)else none
  | _,_=>none
def xBuild (T:TypeId->Option Ty)(slot:Nat->Sl D)(t:TypeId)(parts:Array (Nat×Operand)):Option (Out D):=
 match T t with
 | some ty=>
  if ty.kind==5 && ty.offs.all (fun f=> !Nat.beq f.2.1 0)then(match fillIn ty slot parts.toList (ty.zero.map ofLf)with
   | some cs=>some ⟨none, .one (.agg cs),[]⟩
   | none=>none)else none
 | none=>none
def fillRow (sz:Nat)(slot:Nat->Sl D):List (Nat×Operand)->List (Lf D)->Option (List (Lf D))
 | [],cs=>some cs
 | (i,x)::r,cs=>
  match opnd slot x with
  | .one u=>if u.whole && Nat.beq u.cells.length sz && Nat.ble (i*sz+sz) cs.length then fillRow sz slot r (putAt cs (i*sz) u.cells)else none
  | _=>none
def xRow (T:TypeId->Option Ty)(S:Sh D)(slot:Nat->Sl D)(fr:Nat)(t:TypeId)(len:Nat)(parts:Array (Nat×Operand)):Option (Out D):=
 match T t with
 | none=>none
 | some ty=>
  match ty.elem with
  | none=>none
  | some e=>
   match T e with
   | none=>none
   | some te=>
    if Nat.ble (len*te.size) 16777216 && Nat.blt 0 te.size && Nat.beq te.zero.length te.size then(match fillRow te.size slot parts.toList ((List.range (len*te.size)).map fun k=>ofLf ((te.zero[k % te.size]?).getD (.bool false)))with
     | some cs=>(match S.make e len (cs.map Lf.norm)with
      | some d=>if ty.lit || Nat.beq len 0 then some ⟨none, .one (.lf (.own fr)),[(fr,some (.row e d))]⟩else lfO none (.dat d)
      | none=>none)
     | none=>none)else none
def xPick (slot:Nat->Sl D)(c a b:Operand):Option (Out D):=
 match opnd slot c with
 | .one (.lf (.val (.bool true)))=>some ⟨none,opnd slot a,[]⟩
 | .one (.lf (.val (.bool false)))=>some ⟨none,opnd slot b,[]⟩
 | .one (.lf (.bool t))=>
  match bOf (opnd slot a),bOf (opnd slot b)with
  | some x,some y=>lfO none (.bool (bif t then x else y))
  | _,_=>none
 | _=>none
def xLen (S:Sh D)(T:TypeId->Option Ty)(blk:Nat->Option (Bk D))(ts:Array TypeId)(x:Sl D):Option (Out D):=
 match ts[0]? with
 | none=>none
 | some t=>
  match T t with
  | none=>none
  | some ty=>
   match x with
   | .one (.lf (.dat d))=>if ty.kind==4 && Nat.blt 0 (S.size d)then lfO none (.int .i64 (S.len d))else none
   | .one (.lf (.str s))=>if ty.kind==3 then lfO none (.int .i64 s.length)else none
   | .one (.lf (.own l))=>(match blk l with
    | some (.row _ d)=>if ty.kind==4 then lfO none (.int .i64 (S.len d))else none
    | some (.ice d)=>if ty.kind==4 && Nat.blt 0 (S.size d)then lfO none (.int .i64 (S.len d))else none
    | _=>none)
   | .one (.lf (.val (.slice none 0 0)))=>if ty.kind==4 then lfO none (.int .i64 0)else none
   | _=>none
def xMin (b:Builtin)(x y:Sl D):Option (Out D):=
 match b,x,y with
 | .min, .one (.lf (.int k a)), .one (.lf (.int _ c))=>lfO none (.int k (min a c))
 | .max, .one (.lf (.int k a)), .one (.lf (.int _ c))=>lfO none (.int k (max a c))
 | _,_,_=>none
def Lf.refs:Lf D->List Nat
 | .ptr l _=>[l]
 | .own l=>[l]
 | .opt l _ _ _=>[l]
 | .part l _ _ _ _=>[l]
 | .fn _ caps=>caps
 | _=>[]
def Sv.refs:Sv D->List Nat
 | .lf x=>x.refs
 | .agg xs=>xs.flatMap Lf.refs
def Sl.refs:Sl D->List Nat
 | .one x=>x.refs
 | .tup xs=>xs.flatMap Sv.refs
def Bk.refs:Bk D->List Nat
 | .cells cs=>cs.flatMap Lf.refs
 | .tc _ cs=>cs.flatMap Lf.refs
 | _=>[]
def Lf.ren (f:Nat->Nat):Lf D->Lf D
 | .ptr l o=> .ptr (f l) o
 | .own l=> .own (f l)
 | .opt l i j sz=> .opt (f l) i j sz
 | .part l i j sz h=> .part (f l) i j sz h
 | .fn h caps=> .fn h (caps.map f)
 | x=>x
def Sv.ren (f:Nat->Nat):Sv D->Sv D
 | .lf x=> .lf (x.ren f)
 | .agg xs=> .agg (xs.map (Lf.ren f))
def Sl.ren (f:Nat->Nat):Sl D->Sl D
 | .one x=> .one (x.ren f)
 | .tup xs=> .tup (xs.map (Sv.ren f))
def Bk.ren (f:Nat->Nat):Bk D->Bk D
 | .cells cs=> .cells (cs.map (Lf.ren f))
 | .tc t cs=> .tc t (cs.map (Lf.ren f))
 | x=>x
def Lf.hasDat:Lf D->Bool
 | .dat _=>true
 | .elt _ _ _=>true
 | .xt _=>true
 | _=>false
def Sv.hasDat:Sv D->Bool
 | .lf x=>x.hasDat
 | .agg xs=>xs.any Lf.hasDat
def Sl.hasDat:Sl D->Bool
 | .one x=>x.hasDat
 | .tup xs=>xs.any Sv.hasDat
def Bk.hasDat:Bk D->Bool
 | .cells cs=>cs.any Lf.hasDat
 | .iter _ _=>false
 | .map _=>false
 | .tc _ cs=>cs.any Lf.hasDat
 | _=>true
def memB (l:Nat):List Nat->Bool
 | []=>false
 | x::r=>Nat.beq x l || memB l r
def addNew:List Nat->List Nat->List Nat
 | ids,[]=>ids
 | ids,l::r=>addNew (if memB l ids then ids else ids++[l]) r
def reach (blk:Nat->Option (Bk D)):Nat->List Nat->List Nat
 | 0,ids=>ids
 | n+1,ids=>reach blk n (addNew ids (ids.flatMap fun l=>match blk l with
  | some bk=>bk.refs
  | none=>[]))
def allIn (ids:List Nat):List Nat->Bool
 | []=>true
 | l::r=>memB l ids && allIn ids r
def getAll (blk:Nat->Option (Bk D)):List Nat->Option (List (Bk D))
 | []=>some []
 | l::r=>(match blk l,getAll blk r with
  | some b,some bs=>some (b::bs)
  | _,_=>none)
def posIn:List Nat->Nat->Nat
 | [],_=>0
 | x::r,l=>if Nat.beq x l then 0 else posIn r l+1
def backTo (ids:List Nat)(fr i:Nat):Nat:=if Nat.blt i ids.length then ids.getD i 0 else fr+(i - ids.length)
def Lf.view (blk:Nat->Option (Bk D)):Lf D->Lf D
 | .own l=>(match blk l with
  | some (.row _ d)=> .dat d
  | some (.map d)=> .dat d
  | some (.ice d)=> .dat d
  | _=> .own l)
 | .part l i j sz f=>(match blk l with
  | some (.row _ d)=>(match f d with
   | some d'=> .dat d'
   | none=> .any)
  | some (.ice d)=>(match f d with
   | some d'=> .dat d'
   | none=> .any)
  | _=> .part l i j sz f)
 | x=>x
def Sv.view (blk:Nat->Option (Bk D)):Sv D->Sv D
 | .lf x=> .lf (x.view blk)
 | .agg xs=> .agg (xs.map (Lf.view blk))
def Sl.view (blk:Nat->Option (Bk D)):Sl D->Sl D
 | .one x=> .one (x.view blk)
 | .tup xs=> .tup (xs.map (Sv.view blk))
def Lf.owns:Lf D->List Nat
 | .own l=>[l]
 | .part l _ _ _ _=>[l]
 | _=>[]
def Sv.owns:Sv D->List Nat
 | .lf x=>x.owns
 | .agg xs=>xs.flatMap Lf.owns
def Sl.owns:Sl D->List Nat
 | .one x=>x.owns
 | .tup xs=>xs.flatMap Sv.owns
def freshOk (k:Nat):List (Nat×Bk D)->Bool
 | []=>true
 | (i,_)::r=>Nat.blt i (k+64) && freshOk k r
def nodupB:List (Nat×Bk D)->Bool
 | []=>true
 | (i,_)::r=> !(r.any fun p=>Nat.beq p.1 i) && nodupB r
def lookB:List (Nat×Bk D)->Nat->Option (Bk D)
 | [],_=>none
 | (k,v)::r,n=>if Nat.beq k n then some v else lookB r n
def rwD:Option (Bk D)->Option D
 | some (.row _ d)=>some d
 | some (.map d)=>some d
 | _=>none
def iceOf (blk:Nat->Option (Bk D))(l:Nat):Option (Nat×Option (Bk D)):=
 match rwD (blk l)with
 | some d=>some (l,some (.ice d))
 | none=>none
def refsAt (bks:List (Bk D))(i:Nat):List Nat:=
 match bks[i]? with
 | some bk=>bk.refs
 | none=>[]
def datAt (bks:List (Bk D))(i:Nat):Bool:=
 match bks[i]? with
 | some bk=>bk.hasDat
 | none=>false
def tabK (post:List (Nat×Bk D))(keep:List Nat)(bks:List (Bk D))(i:Nat):Option (Bk D):=
 match lookB post i with
 | some bk=>some bk
 | none=>if memB i keep then bks[i]? else none
def callOn (ct:Ct D)(blk:Nat->Option (Bk D))(fr:Nat)(args:List (Sl D))(vids:List Nat):Option (Out D):=
 let ids:=reach blk 3 (addNew [] (args.flatMap Sl.refs))
 match getAll blk ids with
 | none=>none
 | some bks=>
  if allIn ids (args.flatMap Sl.refs) && allIn ids (bks.flatMap Bk.refs) && !(vids.any fun l=>memB l ids)then
   (match ct (args.map (Sl.ren (posIn ids))) (bks.map (Bk.ren (posIn ids)))with
   | some (p,r,post,keep)=>
    if freshOk ids.length post && nodupB post && allIn (post.map (·.1)++keep) (post.flatMap fun q=>q.2.refs) && allIn (post.map (·.1)++keep) r.refs &&
      allIn (post.map (·.1)++keep) (keep.flatMap fun i=>refsAt (bks.map (Bk.ren (posIn ids))) i) && keep.all (fun i=>Nat.blt i ids.length && !memB i (post.map (·.1)))then
     some ⟨p,r.ren (backTo ids fr),((ids.filter fun l=> !memB (posIn ids l) keep).map fun l=>(l,(lookB post (posIn ids l)).map (Bk.ren (backTo ids fr))))++(post.filter fun q=> !Nat.blt q.1 ids.length).map (fun q=>(backTo ids fr q.1,some (q.2.ren (backTo ids fr))))++
      (if r.hasDat || post.any (fun q=>q.2.hasDat) || keep.any (fun i=>datAt (bks.map (Bk.ren (posIn ids))) i)then vids.filterMap (iceOf blk)else[])⟩
    else none
   | none=>none)
  else none
def xCall (Γ:FuncId->Option (Ct D))(f:FuncId)(blk:Nat->Option (Bk D))(args:List (Sl D))(fr:Nat):Option (Out D):=
 match Γ f with
 | none=>none
 | some ct=>
  let as:=args.map Sl.norm
  firstOf (callOn ct blk fr (as.map (Sl.view blk)) (addNew [] (as.flatMap Sl.owns))) (callOn ct blk fr as [])
def capsOf (slot:Nat->Sl D):List Operand->Option (List Nat)
 | []=>some []
 | x::r=>(match opnd slot x,capsOf slot r with
  | .one (.lf (.ptr l 0)),some ls=>some (l::ls)
  | _,_=>none)
def datOf (blk:Nat->Option (Bk D)):Sl D->Option D
 | .one (.lf (.dat d))=>some d
 | .one (.lf (.own l))=>(match blk l with
  | some (.row _ d)=>some d
  | some (.ice d)=>some d
  | _=>none)
 | _=>none
def roomP (n bytes:Nat):Prop:=n<=1099511627776/\n*bytes<=140737488355328
instance {n b:Nat}:Decidable (roomP n b):=inferInstanceAs (Decidable (_/\_))
def xAppend (T:TypeId->Option Ty)(S:Sh D)(blk:Nat->Option (Bk D))(fr:Nat)(ts:Array TypeId)(x y:Sl D):Option (Out D):=
 match ts.toList with
 | [t,t']=>if Nat.beq t t' then(match T t with
  | none=>none
  | some ty=>(match ty.elem with
   | none=>none
   | some e=>(match T e with
    | none=>none
    | some te=>(match datOf blk y with
     | none=>none
     | some d2=>
      if Nat.beq te.size (S.size d2) && Nat.blt 0 te.size && Nat.beq te.zero.length te.size then(match x with
       | .one (.lf (.val (.slice none 0 0)))=>some ⟨some (dp (roomP (S.len d2) te.bytes)), .one (.lf (.own fr)),[(fr,some (.row e d2))]⟩
       | .one (.lf (.own l))=>(match blk l with
        | some (.row e' d1)=>if Nat.beq e e' then(match S.cat d1 d2 with
         | some d=>some ⟨some (dp (roomP (S.len d1+S.len d2) te.bytes)), .one (.lf (.own fr)),[(l,none),(fr,some (.row e d))]⟩
         | none=>none)else none
        | _=>none)
       | _=>none)else none))))else none
 | _=>none
def xMake (T:TypeId->Option Ty)(S:Sh D)(fr:Nat)(t:TypeId)(x y:Sl D):Option (Out D):=
 match T t with
 | none=>none
 | some ty=>(match ty.elem with
  | none=>none
  | some e=>(match T e with
   | none=>none
   | some te=>(match x,y with
    | .one (.lf (.int _ n)), .one (.lf (.int _ m))=>if Nat.blt 0 te.size && Nat.beq te.zero.length te.size then(match S.zero e n.toNat (te.zero.map fun v=>(ofLf v).norm)with
     | some d=>some ⟨some (dp (n=m/\0<=n/\n*te.bytes<=281474976710656/\n<=1099511627776)), .one (.lf (.own fr)),[(fr,some (.row e d))]⟩
     | none=>none)else none
    | _,_=>none)))
def xStrAt (T:TypeId->Option Ty)(t:TypeId)(x i:Sl D):Option (Out D):=
 match T t with
 | none=>none
 | some ty=>(match x,i with
  | .one (.lf (.str s)), .one (.lf (.int _ n))=>if ty.kind==3 then lfO (some (dp (0<=n/\n < s.length))) (.int .u8 (s.getD n.toNat 0).toNat)else none
  | _,_=>none)
def xConv (T:TypeId->Option Ty)(src dst:TypeId)(x:Sl D):Option (Out D):=
 match T src,T dst,x with
 | some _,some ty, .one (.lf (.int _ n))=>(match noIk ty.kind with
  | some k=>lfO none (.int k (wrp k n))
  | none=>none)
 | _,_,_=>none
def bnd (n:Nat):Option (Sl D)->Option Int
 | none=>some n
 | some (.one (.lf (.int _ i)))=>some i
 | some _=>none
def xSlice (T:TypeId->Option Ty)(S:Sh D)(blk:Nat->Option (Bk D))(t:TypeId)(x:Sl D)(lo hi:Option (Sl D)):Option (Out D):=
 match T t with
 | none=>none
 | some ty=>(match bnd 0 lo with
  | none=>none
  | some l=>(match x with
   | .one (.lf (.str s))=>if ty.kind==3 then(match bnd s.length hi with
    | some h=>lfO (some (dp (0<=l/\l<=h/\h<=s.length))) (.str ((s.take h.toNat).drop l.toNat))
    | none=>none)else none
   | .one (.lf (.dat d))=>(match ty.elem with
    | none=>none
    | some e=>(match T e with
     | none=>none
     | some te=>if Nat.beq te.size (S.size d) && Nat.blt 0 te.size then(match bnd (S.len d) hi with
      | some h=>(match S.sub d l.toNat h.toNat with
       | some d'=>lfO (some (dp (0<=l/\l<=h/\h<=S.len d))) (.dat d')
       | none=>none)
      | none=>none)else none))
   | .one (.lf (.own q))=>(match ty.elem with
    | none=>none
    | some e=>(match T e with
     | none=>none
     | some te=>(match blk q with
      | some (.row _ d)=>(match bnd (S.len d) hi with
       | some h=>lfO (some (dp (0<=l/\l<=h/\h<=S.len d))) (.part q l.toNat h.toNat te.size (subIf S te.size l.toNat h.toNat))
       | none=>none)
      | _=>none)))
   | _=>none))
def xCopy (T:TypeId->Option Ty)(S:Sh D)(blk:Nat->Option (Bk D))(ts:Array TypeId)(x y:Sl D):Option (Out D):=
 match ts.toList with
 | [t,t']=>if Nat.beq t t' then(match T t with
  | none=>none
  | some ty=>(match ty.elem with
   | none=>none
   | some e=>(match T e with
    | none=>none
    | some te=>(match x,y with
     | .one (.lf (.own l)), .one (.lf (.dat d2))=>(match blk l with
      | some (.row e' d1)=>if Nat.beq e e' && (Nat.beq te.size (S.size d1) && (Nat.beq te.size (S.size d2) && Nat.blt 0 te.size))then
       (match S.sub d2 0 (min (S.len d2) (S.len d1)),S.sub d1 (min (S.len d2) (S.len d1)) (S.len d1)with
       | some p,some q=>(match S.cat p q with
        | some d=>some ⟨none, .one (.lf (.int .i64 (min (S.len d2) (S.len d1):Nat))),[(l,some (.row e d))]⟩
        | none=>none)
       | _,_=>none)else none
      | _=>none)
     | _,_=>none))))else none
 | _=>none
def isCells:Option (Bk D)->Bool
 | some (.cells _)=>true
 | _=>false
def xOp (T:TypeId->Option Ty)(S:Sh D)(Γ:FuncId->Option (Ct D))(slot:Nat->Sl D)(blk:Nat->Option (Bk D))(fr:Nat)(o:Op):Option (Out D):=
 match o with
 | .move x=>some ⟨none,opnd slot x,[]⟩
 | .assign x=>some ⟨none,opnd slot x,[]⟩
 | .pick c a b=>xPick slot c a b
 | .alloc t=>(match T t with
  | some ty=>some ⟨none, .one (.lf (.ptr fr 0)),[(fr,some (.cells (ty.zero.map ofLf)))]⟩
  | none=>none)
 | .box _ x=>(match opnd slot x with
  | .one u=>if u.whole then some ⟨none, .one (.lf (.ptr fr 0)),[(fr,some (.cells u.cells))]⟩else none
  | _=>none)
 | .build t parts=>xBuild T slot t parts
 | .buildSlice t len parts=>xRow T S slot fr t len parts
 | .load t x=>xLoad T S blk t (opnd slot x)
 | .store t x y=>xStore T S blk t (opnd slot x) (opnd slot y)
 | .nilCheck x=>(match opnd slot x with
  | .one (.lf (.ptr l o))=>lfO none (.ptr l o)
  | .one (.lf (.elt d i j))=>lfO none (.elt d i j)
  | .one (.lf (.opt l i j sz))=>lfO none (.opt l i j sz)
  | .one (.lf (.fn f caps))=>lfO none (.fn f caps)
  | _=>none)
 | .binOp op t x y _=>firstOf (xNilq T S op t (opnd slot x) (opnd slot y)) (xBin T op t (opnd slot x) (opnd slot y))
 | .unOp op _ x=>xUn op (opnd slot x)
 | .fieldAddr t x f=>xField T t (opnd slot x) f
 | .field t x f=>xPart T t (opnd slot x) f
 | .indexAddr t x i=>xIndex T S blk t (opnd slot x) (opnd slot i)
 | .extract x i=>xExtract (opnd slot x) i
 | .call c=>(match c.callee with
  | .builtin .len=>(match c.args.toList with
   | [x]=>xLen S T blk c.argTypes (opnd slot x)
   | _=>none)
  | .builtin .min=>(match c.args.toList with
   | [x,y]=>xMin .min (opnd slot x) (opnd slot y)
   | _=>none)
  | .builtin .max=>(match c.args.toList with
   | [x,y]=>xMin .max (opnd slot x) (opnd slot y)
   | _=>none)
  | .builtin .append=>(match c.args.toList with
   | [x,y]=>xAppend T S blk fr c.argTypes (opnd slot x) (opnd slot y)
   | _=>none)
  | .builtin .copy=>(match c.args.toList with
   | [x,y]=>xCopy T S blk c.argTypes (opnd slot x) (opnd slot y)
   | _=>none)
  | .value f=>(match opnd slot f with
   | .one (.lf (.fn f caps))=>if caps.all (fun l=>isCells (blk l))then xCall Γ f blk (c.args.toList.map (opnd slot)++caps.map fun l=> .one (.lf (.ptr l 0))) fr else none
   | _=>none)
  | _=>none)
 | .makeFunc (.func f) first caps=>if first.isEmpty then(match capsOf slot caps.toList with
  | some ls=>lfO none (.fn f ls)
  | none=>none)else none
 | .makeSlice t x y=>xMake T S fr t (opnd slot x) (opnd slot y)
 | .index t x i=>xStrAt T t (opnd slot x) (opnd slot i)
 | .convert src dst x=>xConv T src dst (opnd slot x)
 | .slice t x lo hi none=>xSlice T S blk t (opnd slot x) (lo.map (opnd slot)) (hi.map (opnd slot))
 | _=>none
end
end Go.Vc
