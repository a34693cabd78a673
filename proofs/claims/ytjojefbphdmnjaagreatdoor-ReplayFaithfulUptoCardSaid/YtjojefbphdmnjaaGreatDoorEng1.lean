/- Own engine: Vd1, Vd2, Vd3. -/
import Derived.WalkKit
import Derived.Deep.LoopGhost
import Derived.Orders
import Derived.IntWalk
import Derived.KernelRfl
set_option linter.unusedVariables false
set_option linter.unusedSimpArgs false
namespace Go.Vc
abbrev Qa:=@Nat.eq_of_beq_eq_true
abbrev iW:=@Bool.and_eq_true
abbrev kG:=@List.length_append
abbrev nU:=@decide_eq_false
abbrev lH:=@Nat.le_refl
abbrev pY:=@decide_eq_true
abbrev u_:=@Int.toNat_natCast
abbrev uU:=@List.length_cons
abbrev xe:=@of_decide_eq_true
abbrev uF:=@List.length_nil
abbrev Be:=@List.mem_singleton
abbrev xN:=@List.mem_append
abbrev yS:=@List.take_length
abbrev og:=@cond_false
abbrev zU:=@List.length_take
abbrev qR:=@Nat.zero_le
abbrev zW:=@Nat.le_trans
abbrev Og:=@Option.some.injEq
abbrev Um:=@decide_eq_true_eq
abbrev AA:=@Int.le_refl
abbrev UA:=@List.append_assoc
abbrev Na:=@List.length_map
abbrev IP:=@List.mem_cons
abbrev xU:=@cond_true
abbrev MQ:=@List.map_cons
abbrev JH:=@Nat.zero_add
abbrev YH:=@List.not_mem_nil
abbrev Qa0:=@Nat.le_of_ble_eq_true
abbrev Qa1:=@List.mem_flatMap
abbrev Qa2:=@Bool.cond_eq_ite
abbrev Qa3:=@List.all_eq_true
abbrev Qa4:=@List.getElem?_eq_getElem
abbrev Qa5:=@Bool.not_eq_true'
abbrev Qa6:=@List.getElem?_append_right
abbrev Qa7:=@List.drop_eq_getElem_cons
abbrev Qa8:=@List.getElem?_eq_some_iff
abbrev Qa9:=@List.length_drop
abbrev Qb:=@List.mem_cons_of_mem
abbrev Qba:=@Nat.add_zero
abbrev Qbb:=@Nat.mul_le_mul_right
abbrev vF:=@if_neg
abbrev Qbd:=@Prod.mk.injEq
abbrev Qbe:=@List.length_singleton
abbrev Qbf:=@List.mem_map
abbrev Qbg:=@Bool.or_eq_true
abbrev Qbh:=@Option.map_some
abbrev Qbi:=@Option.isSome_iff_exists
abbrev Qbj:=@List.take_add_one
abbrev Qbk:=@List.take_succ_eq_append_getElem
abbrev Qbl:=@Bool.false_eq_true
abbrev Qbm:=@Nat.lt_of_lt_of_le
abbrev Ai:=@if_pos
abbrev Qbo:=@List.cons_append
abbrev Qbp:=@Array.length_toList
abbrev Qbq:=@List.map_congr_left
abbrev Qbr:=@beq_eq_false_iff_ne
abbrev Qbs:=@List.length_set
abbrev Qbt:=@List.map_toArray
abbrev Qbu:=@List.mem_of_getElem?
abbrev Qbv:=@Nat.mod_eq_of_lt
abbrev Qbw:=@Option.map_eq_some_iff
abbrev Qbx:=@List.append_nil
abbrev Qby:=@List.mem_filter
abbrev Qbz:=@Option.map_none
abbrev Qb0:=@List.mem_append_right
abbrev Qb1:=@List.filter_append
abbrev Qb2:=@List.take_zero
abbrev Qb3:=@congrArg
abbrev Qb4:=@List.getElem?_cons_zero
abbrev Qb5:=@List.getElem?_map
abbrev Qb6:=@beq_iff_eq
abbrev Qb7:=@List.map_nil
abbrev Qb8:=@Nat.lt_or_ge
abbrev Qb9:=@Bool.false_ne_true
abbrev Qc:=@Classical.choose_spec
abbrev Qca:=@List.getElem?_append_left
abbrev Qcb:=@List.map_map
abbrev Qcc:=@List.mem_append_left
abbrev Qcd:=@Nat.mul_comm
abbrev Qce:=@Nat.blt_eq
abbrev Qcf:=@List.any_eq_true
abbrev Qcg:=@List.mem_range
abbrev Qch:=@List.take_left
abbrev Qci:=@List.eq_nil_of_length_eq_zero
abbrev Qcj:=@List.append_eq_nil_iff
abbrev Qck:=@Nat.mod_lt
abbrev Qcl:=@List.nil_append
abbrev Qcm:=@List.length_replicate
abbrev Qcn:=@List.take_append_drop
abbrev Qco:=@List.flatMap_cons
abbrev Qcp:=@List.take_sublist
abbrev Qcq:=@List.take_sublist_take_left
abbrev Qcr:=@List.drop_left
abbrev Qcs:=@Nat.pow_le_pow_right
abbrev Qct:=@List.filter_cons
abbrev Qcu:=@Nat.le_of_eq
abbrev Qcv:=@Nat.lt_succ_self
abbrev Qcw:=@Array.mapM_eq_mapM_toList
abbrev Qcx:=@List.drop_set_of_lt
abbrev Qcy:=@List.filter_eq_self
abbrev Qcz:=@List.getD_cons_succ
abbrev Qc0:=@List.getD_cons_zero
abbrev Qc1:=@List.getElem_of_mem
abbrev Qc2:=@Nat.mul_le_mul_left
abbrev Qc3:=@Nat.lt_irrefl
abbrev Qc4:=@Bool.eq_iff_iff
abbrev Qc5:=@List.cons.injEq
abbrev Qc6:=@Option.some.inj
abbrev Qc7:=@UInt8.toNat_inj
abbrev Qc8:=@List.getElem?_take
abbrev Qc9:=@List.mem_filterMap
abbrev Qd:=@List.any_eq_false
abbrev Qda:=@List.take_of_length_le
abbrev Qdb:=@Array.getElem?_modify
abbrev Qdc:=@Bool.not_eq_true
abbrev Qdd:=@Nat.succ_le_succ
abbrev Qde:=@Option.getD_some
abbrev Qdf:=@bne_iff_ne
abbrev Qdg:=@Bool.not_true
abbrev Qdh:=@List.all_cons
abbrev Qdi:=@Bool.and_eq_true_iff
abbrev Qdj:=@Nat.add_mul
abbrev Qdk:=@Nat.mul_one
abbrev Qdl:=@List.map_append
abbrev Qdm:=@Nat.mul_add_mod
abbrev Qdn:=@List.getElem?_drop
abbrev Qdo:=@Nat.eq_zero_or_pos
abbrev Qdp:=@UInt8.toNat_ofNat'
abbrev Qdq:=@List.map_id
abbrev Qdr:=@Bool.true_and
abbrev Qds:=@Int.lt_irrefl
abbrev Qdt:=@List.take_set
theorem ah{p:Prop}(h:p:=by omega):p:=h
theorem oC{p:Prop}(h:p:=by simp only[InR];omega):p:=h
theorem h_{p:Prop}(h:p:=by decide):p:=h
theorem qP{p:Prop}(h:p:=by grind):p:=h
theorem oG{p:Prop}(h:p:=by simp):p:=h
theorem qbk{p:Prop}(h:p:=by rintro rfl;exact hfr _ (lH _) (by omega) (h.al _ _ hl)):p:=h
theorem qbs{p:Prop}(h:p:=by simpa using h):p:=h
theorem qb1{p:Prop}(h:p:=by subst hv6;simp only[kG,zU,Qcm];omega):p:=h
theorem qb2{p:Prop}(h:p:=by simpa using hj):p:=h
theorem qb5{p:Prop}(h:p:=by simpa using lift (a1:=[]) b2 _ fun x hx=>by grind):p:=h
theorem qb6{p:Prop}(h:p:=by simp[Lf.refs]):p:=h
theorem qb8{p:Prop}(h:p:=by simp;omega):p:=h
theorem qca{p:Prop}(h:p:=by simp only[zU];omega):p:=h
theorem qce{p:Prop}(h:p:=by rw[hb];rfl):p:=h
theorem qcf{p:Prop}(h:p:=by simpa[slotsIn]using hw):p:=h
theorem qcg{p:Prop}(h:p:=by simp[execOp,ho,hc,asBool]):p:=h
theorem qcl{p:Prop}(h:p:=by simp[hl]):p:=h
theorem qcm{p:Prop}(h:p:=by rw[hsz];omega):p:=h
theorem qco{p:Prop}(h:p:=by simpa using hx):p:=h
theorem qcp{p:Prop}(h:p:=by simpa using h1):p:=h
theorem qcr{p:Prop}(h:p:=by rw[e];rfl):p:=h
open Go.RowKit
inductive Pv where
 | bool (b:Bool)
 | int (k:IntKind) (n:Int)
 | str (s:List UInt8)
structure xO where
 t:TypeId
 agg:Bool
 xs:List Pv
def Pv.val:Pv->Value
 | .bool b=> .bool b
 | .int k n=> .int k n
 | .str s=> .string ⟨s.toArray⟩
def xO.inner (i:xO):Value:=
 match i.agg,i.xs with
 | false,[x]=>x.val
 | _,a=> .agg (a.map Pv.val).toArray
def zF:Option xO->Value
 | none=> .nilIface
 | some i=> .iface i.t i.inner
def Pv.fits:Pv->Prop
 | .str s=>s.length<=9223372036854775807
 | _=>True
def aux:Option xO->Prop
 | none=>True
 | some i=>∀p∈i.xs,p.fits
inductive Dl (D:Type):Type where
 | bool (b:Bool)
 | int (k:IntKind) (n:Int)
 | str (s:List UInt8)
 | dat (d:D)
 | aE6
inductive Xt (D:Type):Type where
 | ifd (t:TypeId) (agg:Bool) (xs:List (Dl D))
 | clo (f:FuncId) (agg:Bool) (xs:List (Dl D))
 | clip (d:D)
inductive Lf (D:Type):Type where
 | any
 | val (v:Value)
 | bool (b:Bool)
 | int (k:IntKind) (n:Int)
 | str (s:List UInt8)
 | ptr (l off:Nat)
 | dat (d:D)
 | elt (d:D) (i j:Nat)
 | fn (f:FuncId) (caps:List Nat)
 | own (l:Nat)
 | opt (l i j sz:Nat)
 | unk (p:Bool->Prop)
 | part (l i j sz:Nat) (f:D->Option D)
 | glb (i:Nat)
 | Uo (v:Option xO)
 | xt (e:Xt D)
inductive Bk (D:Type):Type where
 | cells (cs:List (Lf D))
 | row (e:TypeId) (d:D)
 | ve (d:D)
 | iter (s:List UInt8) (pos:Nat)
 | map (d:D)
 | tc (t:TypeId) (cs:List (Lf D))
inductive Sv (D:Type):Type where
 | lf (x:Lf D)
 | agg (xs:List (Lf D))
inductive Sl (D:Type):Type where
 | one (x:Sv D)
 | tup (xs:List (Sv D))
structure Mp (D:Type) where
 kind:Nat
 agg:Bool
 zero:List Pv
 kvs:List (Pv×List Pv)
 has:Pv->Bool
 get:Pv->List (Lf D)
 put:Pv->List Pv->D
 len:Nat
structure Sh (D:Type) where
 size:D->Nat
 len:D->Nat
 cell:D->Nat->Nat->Lf D
 make:TypeId->Nat->List (Lf D)->Option D
 zero:TypeId->Nat->List (Lf D)->Option D
 set:D->Nat->Nat->List (Lf D)->Option D
 cat:D->D->Option D
 sub:D->Nat->Nat->Option D
 MW:Nat->Option D
 text:TypeId->List UInt8->Option D
 mp:D->Option (Mp D):=fun _=>none
 run:Bool:=false
 avd:TypeId->Option D:=fun _=>none
def pO (b:Bool)(a:List Pv):Value:=
 match b,a with
 | false,[x]=>x.val
 | _,a=> .agg (a.map Pv.val).toArray
def ap5 (w:World)(d:Bool)(a:List (Pv×List Pv))(v:Value):Prop:=
 (∀p∈a,p.1.fits/\∀x∈p.2,x.fits)/\((v= .map none/\a=[])\/
  ∃b c n,v= .map (some b)/\w.heap[b]? =some (.map c n)/\c.toList.map (fun e=>(e.key,e.val))=a.map fun p=>(p.1.val,pO d p.2))
def VI {D:Type}(S:Sh D)(a i j:Nat)(d:D):Option D:=if Nat.beq a (S.size d)then S.sub d i j else none
def Lf.plain {D:Type}:Lf D->Value->Prop
 | .val x,u=>u=x
 | .bool b,u=>u= .bool b
 | .int k n,u=>u= .int k n
 | .str s,u=>u= .string ⟨s.toArray⟩/\s.length<=9223372036854775807
 | .dat _,_=>True
 | .Uo v,u=>u=zF v/\aux v
 | _,_=>False
inductive zL {D:Type} (S:Sh D) (w:World):D->Value->Prop where
 | mp (d:D) (m:Mp D) (v:Value) (hm:S.mp d=some m) (hl:S.len d=0) (hz:S.size d=0) (h:ap5 w m.agg m.kvs v):zL S w d v
 | mk (d:D) (hno:S.mp d=none) (a:Option Addr) (cap:Nat) (U:Nat->Nat->Value) (hcap:S.len d<=cap) (hlen:S.len d<=9223372036854775807)
   (hcell:∀i j,i < S.len d->j < S.size d->∃ad,a=some ad/\w.cell? (ad.add (i*S.size d+j))=some (U i j))
   (hpl:∀i j,i < S.len d->j < S.size d->Lf.plain (S.cell d i j) (U i j))
   (hdat:∀i j d',i < S.len d->j < S.size d->S.cell d i j= .dat d'->zL S w d' (U i j)):zL S w d (.slice a (S.len d) cap)
def bQ {D:Type}(S:Sh D)(M:Nat->Prop)(w:World)(d:D)(v:Value):Prop:=
 ∀w':World,(∀b,b < w.heap.size->¬M b->w'.heap[b]? =w.heap[b]?)->zL S w' d v
def Lf.iT {D:Type}:Lf D->Bool
 | .bool _ | .int _ _ | .str _ | .dat _ | .Uo _=>true
 | _=>false
def Dl.Rel {D:Type}(S:Sh D)(M:Nat->Prop)(w:World):Dl D->Value->Prop
 | .bool b,v=>v= .bool b
 | .int k n,v=>v= .int k n
 | .str s,v=>v= .string ⟨s.toArray⟩/\s.length<=9223372036854775807
 | .dat d,v=>bQ S M w d v
 | .aE6,v=>v= .slice none 0 0
def rF {D:Type}(S:Sh D)(M:Nat->Prop)(w:World):List (Dl D)->List Value->Prop
 | [],[]=>True
 | x::b,v::a=>x.Rel S M w v/\rF S M w b a
 | _,_=>False
def J8 {D:Type}(S:Sh D)(M:Nat->Prop)(w:World):Bool->List (Dl D)->Value->Prop
 | false,[x],u=>x.Rel S M w u
 | true,b,u=>∃a:List Value,u= .agg a.toArray/\rF S M w b a
 | _,_,_=>False
def Xt.Rel {D:Type}(S:Sh D)(M:Nat->Prop)(w:World):Xt D->Value->Prop
 | .ifd t c b,v=>∃u,v= .iface t u/\J8 S M w c b u
 | .clo f c b,v=>∃u,v= .func (.func f) #[u] #[]/\J8 S M w c b u
 | .clip d,v=>∃a,v= .slice a (S.len d) (S.len d)/\bQ S M w d v
def Lf.Rel {D:Type}(S:Sh D)(M:Nat->Prop)(w:World)(g:Nat->Option Value):Lf D->Value->Prop
 | .any,_=>True
 | .val x,v=>v=x
 | .bool b,v=>v= .bool b
 | .int k n,v=>v= .int k n
 | .str s,v=>v= .string ⟨s.toArray⟩/\s.length<=9223372036854775807
 | .ptr l o,v=>∃b,g l=some (.pointer (some ⟨b,0,none⟩))/\v= .pointer (some ⟨b,o,none⟩)
 | .dat d,v=>bQ S M w d v
 | .elt d i j,v=>∃a n c,bQ S M w d (.slice (some a) n c)/\i < S.len d/\v= .pointer (some (a.add (i*S.size d+j)))
 | .fn f m,v=>∃q:List Value,v= .func (.func f) #[] q.toArray/\m.map g=q.map some
 | .own l,v=>g l=some v
 | .opt l i j h,v=>∃b n c,g l=some (.slice (some ⟨b,0,none⟩) n c)/\v= .pointer (some ⟨b,i*h+j,none⟩)
 | .unk p,v=>∃b,v= .bool b/\p b
 | .part l i j h f,v=>∃a n c,g l=some (.slice a n c)/\v=sliced a i j c h/\i<=j/\j<=n/\f=VI S h i j
 | .glb i,v=>v= .pointer (some ⟨i,0,none⟩)
 | .Uo x,v=>v=zF x/\aux x
 | .xt e,v=>e.Rel S M w v
def aN {D:Type}(S:Sh D)(M:Nat->Prop)(w:World)(g:Nat->Option Value):List (Lf D)->List Value->Prop
 | [],[]=>True
 | x::a,v::b=>x.Rel S M w g v/\aN S M w g a b
 | _,_=>False
def Sv.Rel {D:Type}(S:Sh D)(M:Nat->Prop)(w:World)(g:Nat->Option Value):Sv D->Value->Prop
 | .lf x,v=>x.Rel S M w g v
 | .agg b,v=>∃a:List Value,v= .agg a.toArray/\aN S M w g b a
def fQ {D:Type}(S:Sh D)(M:Nat->Prop)(w:World)(g:Nat->Option Value):List (Sv D)->List Value->Prop
 | [],[]=>True
 | x::a,v::b=>x.Rel S M w g v/\fQ S M w g a b
 | _,_=>False
def Sl.Rel {D:Type}(S:Sh D)(M:Nat->Prop)(w:World)(g:Nat->Option Value):Sl D->Value->Prop
 | .one x,v=>x.Rel S M w g v
 | .tup b,v=>∃a:List Value,v= .tuple a.toArray/\fQ S M w g b a
structure Keeps (M:Nat->Prop)(w:World)(M':Nat->Prop)(w':World):Prop where
 size:w.heap.size<=w'.heap.size
 same:∀b,b < w.heap.size->¬M b->¬M' b/\w'.heap[b]? =w.heap[b]?
section
variable {D:Type}{S:Sh D}{M M':Nat->Prop}{w w':World}{g g':Nat->Option Value}
theorem bQ.keep {d:D}{v:Value}(h:bQ S M w d v)(k:Keeps M w M' w'):bQ S M' w' d v:=fun c f=>
 h c fun b a e=>(f b (Qbm a k.size) (k.same b a e).1).trans (k.same b a e).2
theorem Dl.Rel.keep {x:Dl D}{v:Value}(h:x.Rel S M w v)(k:Keeps M w M' w'):x.Rel S M' w' v:=by
 cases x with
 | dat d=>exact bQ.keep h k
 | _=>exact h
theorem rF.keep:∀{a:List (Dl D)} {b:List Value},rF S M w a b->Keeps M w M' w'->rF S M' w' a b
 | [],[],_,_=>trivial
 | x::a,v::b,h,k=>⟨h.1.keep k,rF.keep h.2 k⟩
theorem J8.keep:∀{b:Bool} {a:List (Dl D)} {u:Value},J8 S M w b a u->Keeps M w M' w'->J8 S M' w' b a u
 | false,[x],u,h,k=>Dl.Rel.keep h k
 | true,a,u,h,k=>by obtain⟨e,d,c⟩:=h;exact⟨e,d,c.keep k⟩
theorem Xt.Rel.keep {e:Xt D}{v:Value}(h:e.Rel S M w v)(k:Keeps M w M' w'):e.Rel S M' w' v:=by
 cases e with
 | ifd t i g=>obtain⟨u,c,b⟩:=h;exact⟨u,c,b.keep k⟩
 | clo f i g=>obtain⟨u,c,b⟩:=h;exact⟨u,c,b.keep k⟩
 | clip d=>obtain⟨a,c,b⟩:=h;exact⟨a,c,bQ.keep b k⟩
theorem bQ.mono {d:D}{v:Value}{a:Nat->Prop}(h:bQ S M w d v)(j:∀b,a b->M b):bQ S a w d v:=fun c i=>h c fun b e g=>i b e fun f=>g (j b f)
theorem Dl.Rel.mono {a:Nat->Prop}{x:Dl D}{v:Value}(h:x.Rel S M w v)(c:∀b,a b->M b):x.Rel S a w v:=by
 cases x with
 | dat d=>exact bQ.mono h c
 | _=>exact h
theorem rF.mono {a:Nat->Prop}(e:∀b,a b->M b):∀{c:List (Dl D)} {d:List Value},rF S M w c d->rF S a w c d
 | [],[],_=>trivial
 | x::c,v::d,h=>⟨h.1.mono e,rF.mono e h.2⟩
theorem J8.mono {a:Nat->Prop}(e:∀b,a b->M b):∀{d:Bool} {c:List (Dl D)} {u:Value},J8 S M w d c u->J8 S a w d c u
 | false,[x],u,h=>Dl.Rel.mono h e
 | true,c,u,h=>by obtain⟨i,g,f⟩:=h;exact⟨i,g,f.mono e⟩
theorem Xt.Rel.mono {g:Nat->Prop}{e:Xt D}{v:Value}(h:e.Rel S M w v)(j:∀b,g b->M b):e.Rel S g w v:=by
 cases e with
 | ifd t l k=>obtain⟨u,i,c⟩:=h;exact⟨u,i,c.mono j⟩
 | clo f l k=>obtain⟨u,i,c⟩:=h;exact⟨u,i,c.mono j⟩
 | clip d=>obtain⟨a,i,c⟩:=h;exact⟨a,i,bQ.mono c j⟩
def aai (S:Sh D)(M:Nat->Prop)(w:World):Prop:=∀i d,S.MW i=some d->bQ S M w d (.slice (some ⟨i,0,none⟩) (S.len d) (S.len d))
theorem aai.keep (h:aai S M w)(k:Keeps M w M' w'):aai S M' w':=fun i d a=>(h i d a).keep k
theorem aai.mono {a:Nat->Prop}(h:aai S M w)(e:∀b,a b->M b):aai S a w:=fun i d c=>(h i d c).mono e
def More (g a:Nat->Option Value):Prop:=∀l v,g l=some v->a l=some v
theorem More.refl (g:Nat->Option Value):More g g:=fun _ _ h=>h
theorem More.map:∀{a:List Nat} {b:List Value},More g g'->a.map g=b.map some->a.map g'=b.map some
 | [],[],_,_=>rfl
 | c::a,v::b,m,h=>by
  simp only[MQ,Qc5]at h⊢;exact⟨m _ _ h.1,More.map m h.2⟩
 | [],_::_,_,h=>by simp at h
 | _::_,[],_,h=>by simp at h
theorem Lf.Rel.keep {x:Lf D}{v:Value}(h:x.Rel S M w g v)(k:Keeps M w M' w')(m:More g g'):x.Rel S M' w' g' v:=by
 cases x with
 | any=>trivial
 | val x=>exact h
 | bool b=>exact h
 | int k n=>exact h
 | str s=>exact h
 | ptr l o=>obtain⟨b,q,c⟩:=h;exact⟨b,m _ _ q,c⟩
 | dat d=>exact bQ.keep h k
 | elt d i j=>obtain⟨a,n,r,q,c⟩:=h;exact⟨a,n,r,q.keep k,c⟩
 | fn f y=>obtain⟨t,q,c⟩:=h;exact⟨t,q,More.map m c⟩
 | own l=>exact m _ _ h
 | opt l i j u=>obtain⟨b,n,r,q,c⟩:=h;exact⟨b,n,r,m _ _ q,c⟩
 | unk p=>exact h
 | part l i j u f=>obtain⟨a,n,r,q,c⟩:=h;exact⟨a,n,r,m _ _ q,c⟩
 | glb i=>exact h
 | Uo x=>exact h
 | xt e=>exact Xt.Rel.keep h k
theorem aN.keep:∀{a:List (Lf D)} {b:List Value},aN S M w g a b->Keeps M w M' w'->More g g'->aN S M' w' g' a b
 | [],[],_,_,_=>trivial
 | x::a,v::b,h,k,m=>⟨h.1.keep k m,aN.keep h.2 k m⟩
theorem aN.length:∀{b:List (Lf D)} {a:List Value},aN S M w g b a->b.length=a.length
 | [],[],_=>rfl
 | _::_,_::_,h=>by simp[aN.length h.2]
theorem aN.get:∀{a:List (Lf D)} {b:List Value} (i:Nat) {x:Lf D},aN S M w g a b->a[i]? =some x->∃v,b[i]? =some v/\x.Rel S M w g v
 | [],[],i,x,_,h=>by simp at h
 | y::a,v::b,0,x,h,e=>⟨v,rfl,by simp at e;exact e▸h.1⟩
 | y::a,v::b,i+1,x,h,e=>by simpa using aN.get i h.2 (by simpa using e)
theorem Sv.Rel.keep {x:Sv D}{v:Value}(h:x.Rel S M w g v)(k:Keeps M w M' w')(m:More g g'):x.Rel S M' w' g' v:=by
 cases x with
 | lf x=>exact Lf.Rel.keep h k m
 | agg c=>obtain⟨a,rfl,b⟩:=h;exact⟨a,rfl,b.keep k m⟩
theorem fQ.keep:∀{a:List (Sv D)} {b:List Value},fQ S M w g a b->Keeps M w M' w'->More g g'->fQ S M' w' g' a b
 | [],[],_,_,_=>trivial
 | x::a,v::b,h,k,m=>⟨h.1.keep k m,fQ.keep h.2 k m⟩
theorem fQ.get:∀{a:List (Sv D)} {b:List Value} (i:Nat) {x:Sv D},fQ S M w g a b->a[i]? =some x->∃v,b[i]? =some v/\x.Rel S M w g v
 | [],[],i,x,_,h=>by simp at h
 | y::a,v::b,0,x,h,e=>⟨v,rfl,by simp at e;exact e▸h.1⟩
 | y::a,v::b,i+1,x,h,e=>by simpa using fQ.get i h.2 (by simpa using e)
theorem fQ.length:∀{b:List (Sv D)} {a:List Value},fQ S M w g b a->b.length=a.length
 | [],[],_=>rfl
 | _::_,_::_,h=>by simp[fQ.length h.2]
theorem Sl.Rel.keep {x:Sl D}{v:Value}(h:x.Rel S M w g v)(k:Keeps M w M' w')(m:More g g'):x.Rel S M' w' g' v:=by
 cases x with
 | one x=>exact Sv.Rel.keep h k m
 | tup c=>obtain⟨a,rfl,b⟩:=h;exact⟨a,rfl,b.keep k m⟩
theorem bQ.cell {d:D}{a:Addr}{n z i j:Nat}(h:bQ S M w d (.slice (some a) n z))(Z:i < S.len d)(hj:j < S.size d):
  ∃u,w.cell? (a.add (i*S.size d+j))=some u/\(S.cell d i j).Rel S M w g u:=by
 classical
 let t:World:={w with heap:=(Array.range w.heap.size).map fun b=>if M b then Obj.map #[] 0 else(w.heap[b]?).getD (Obj.map #[] 0)}
 have C:∀b,b < w.heap.size->¬M b->t.heap[b]? =w.heap[b]? :=by
  grind
 have A:∀p:Addr,(t.cell? p).isSome=true->p.block < w.heap.size/\¬M p.block:=by
  intro p P;simp only[World.cell?,t]at P
  grind
 have q:∀w':World,(∀b,b < w.heap.size->¬M b->w'.heap[b]? =w.heap[b]?)->∃u,w'.cell? (a.add (i*S.size d+j))=some u/\Lf.plain (S.cell d i j) u/\∀r,S.cell d i j= .dat r->zL S w' r u:=by
  intro w' y;generalize hv:Value.slice (some a) n z=v at h;have G:=h w' y;cases G with
  | mp d m v B Y hz h=>omega
  | mk d X a' Q U I R F c N=>
   grind
 obtain⟨ux,E,_⟩:=q t C;obtain⟨O,B⟩:=A _ (by rw[E];rfl);obtain⟨u,J,c,V⟩:=q w (fun _ _ _=>rfl);refine⟨u,J,?_⟩;generalize hx:S.cell d i j=x at*;cases x with
 | val x=>exact c
 | bool b=>exact c
 | int k n=>exact c
 | str s=>exact c
 | dat r=>
  intro w' y;obtain⟨T,W,_,H⟩:=q w' y;have:T=u:=by
   have e:w'.cell? (a.add (i*S.size d+j))=w.cell? (a.add (i*S.size d+j)):=by
    simp only[World.cell?,y _ O B]
   grind
  grind
 | any=>exact c.elim
 | ptr l o=>exact c.elim
 | elt r i' j'=>exact c.elim
 | fn f L=>exact c.elim
 | own l=>exact c.elim
 | opt l i j K=>exact c.elim
 | unk p=>exact c.elim
 | part l i j K f=>exact c.elim
 | glb i=>exact c.elim
 | Uo x=>exact c
 | xt e=>exact c.elim
theorem bQ.slice {d:D}{v:Value}(h:bQ S M w d v)(o:0 < S.size d):∃a b,v= .slice a (S.len d) b/\S.len d<=b:=by
 have g:=h w (fun _ _ _=>rfl);cases g with
 | mp d m v p n j h=>omega
 | mk d k a b U i f c l e=>grind
theorem bQ.slice' {d:D}{v:Value}(h:bQ S M w d v)(o:S.mp d=none):∃a b,v= .slice a (S.len d) b/\S.len d<=b:=by
 have g:=h w (fun _ _ _=>rfl);cases g with
 | mp d m v p n j h=>grind
 | mk d k a b U i f c l e=>grind
theorem bQ.form {d:D}{v:Value}(h:bQ S M w d v):(∃a c,v= .slice a (S.len d) c)\/∃r,v= .map r:=by
 have i:=h w (fun _ _ _=>rfl);cases i with
 | mp d m v p o k h=>rcases h.2 with⟨h,_⟩ | ⟨b,_,_,h,_⟩<;>exact .inr ⟨_,h⟩
 | mk d l a c U j g e n f=>grind
theorem bQ.map {d:D}{v:Value}{m:Mp D}(h:bQ S M w d v)(q:S.mp d=some m):ap5 w m.agg m.kvs v:=by
 have f:=h w (fun _ _ _=>rfl);cases f with
 | mp d o v n p i h=>grind
 | mk d k a j U g e b l c=>grind
theorem bQ.ahn {d:D}{v:Value}(h:bQ S M w d v):S.len d<=9223372036854775807:=by
 have f:=h w (fun _ _ _=>rfl);cases f with
 | mp d m v o l n h=>omega
 | mk d j a i U g b c k e=>exact b
theorem bQ.yG {d:D}{a:Option Addr}{n b i:Nat}(h:bQ S M w d (.slice a n b))(r:i < S.len d)(u:0 < S.size d):∃j,a=some j:=by
 generalize x:Value.slice a n b=v at h;have e:=h w (fun _ _ _=>rfl);cases e with
 | mp d m v s q y h=>omega
 | mk d p t k U f l c o g=>
  grind
end
end Go.Vc
namespace Go.Vc
open Go.RowKit
def upd {a:Type}(f:Nat->a)(k:Nat)(v:a):Nat->a:=fun n=>if n=k then v else f n
theorem upd_same {a:Type}(f:Nat->a)(k:Nat)(v:a):upd f k v k=v:=by simp[upd]
theorem bI {a:Type}(f:Nat->a)(k n:Nat)(v:a)(h:n≠k):upd f k v n=f n:=by simp[upd,h]
def dB:Value->Option Nat
 | .pointer (some a)=>some a.block
 | .slice (some a) _ _=>some a.block
 | .map (some r)=>some r
 | _=>none
def isRef:Value->Bool
 | .pointer _ | .slice _ _ _ | .map _=>true
 | _=>false
structure Bs where
 w:World
 X:Nat->Prop
def Bs.Mine (B:Bs)(b:Nat):Prop:=B.w.heap.size<=b\/B.X b
structure zK (B:Bs)(w':World):Prop where
 os:w'.os=B.w.os
 tape:w'.tape=B.w.tape
 output:w'.output=B.w.output
 size:B.w.heap.size<=w'.heap.size
 block:∀k,k < B.w.heap.size->¬B.X k->w'.heap[k]? =B.w.heap[k]?
theorem zK.refl (B:Bs):zK B B.w:=⟨rfl,rfl,rfl,lH _,fun _ _ _=>rfl⟩
theorem zK.grow {B:Bs}{w b:World}(h:zK B w)(k:Below w.heap.size w b):zK B b:=
 ⟨k.os.trans h.os,k.tape.trans h.tape,k.output.trans h.output,zW h.size k.size,fun i a c=>(k.block i (Qbm a h.size)).trans (h.block i a c)⟩
def hot {D:Type}:Option (Bk D)->Bool
 | some (.cells _)=>true
 | some (.row _ _)=>true
 | some (.iter _ _)=>true
 | some (.map _)=>true
 | some (.tc _ _)=>true
 | _=>false
def azm (w:World)(b:Nat)(t:TypeId)(a:List Value):Prop:=
 ∃u0,w.heap[b]? =some (.cells (List.toArray (u0::a)) t (0,0))/\(u0= .pointer none\/u0= .pointer (some ⟨b,0,none⟩))
theorem azm.same {w a:World}{b:Nat}{t:TypeId}{c:List Value}(h:azm w b t c)(e:a.heap[b]? =w.heap[b]?):azm a b t c:=by
 obtain⟨u0,f,d⟩:=h;exact⟨u0,e.trans f,d⟩
def qN {D:Type}(S:Sh D)(M:Nat->Prop)(w:World)(g:Nat->Option Value)(B:Bs):Bk D->Value->Prop
 | .cells cs,v=>∃b a t,v= .pointer (some ⟨b,0,none⟩)/\B.Mine b/\w.heap[b]? =some (.cells (List.toArray a) t (0,0))/\aN S M w g cs a
 | .ve d,v=>bQ S M w d v
 | .iter s p,v=>s.length<=9223372036854775807/\∃b,v= .pointer (some ⟨b,0,none⟩)/\B.Mine b/\w.heap[b]? =some (.stringIter ⟨s.toArray⟩ p)
 | .map d,v=>∃m b c n,S.mp d=some m/\(∀p∈m.kvs,p.1.fits/\∀x∈p.2,x.fits)/\v= .map (some b)/\B.Mine b/\w.heap[b]? =some (.map c n)/\c.toList.map (fun e=>(e.key,e.val))=m.kvs.map fun p=>(p.1.val,pO m.agg p.2)
 | .tc t cs,v=>∃b a,v= .pointer (some ⟨b,0,none⟩)/\B.Mine b/\azm w b t a/\aN S M w g cs a
 | .row e d,v=>((∀b,dB v=some b->B.Mine b)/\S.len d<=9223372036854775807/\S.mp d=none)/\∃f,w.ownsRow 0 e (S.size d) v (S.len d) f/\
   ∀i j,i < S.len d->j < S.size d->∃u,f[i*S.size d+j]? =some u/\(S.cell d i j).iT=true/\(S.cell d i j).Rel S M w g u
def aJ {D:Type}(N:Nat->Prop)(a:Nat->Option (Bk D))(g:Nat->Option Value):Nat->Prop:=
 fun b=>N b\/∃l v,hot (a l)=true/\g l=some v/\dB v=some b
structure Hp {D:Type}(S:Sh D)(w0:Bs)(N:Nat->Prop)(blk:Nat->Option (Bk D))(g:Nat->Option Value)(al:Nat->Prop)(w:World):Prop where
 below:zK w0 w
 hN:∀b,N b->b < w0.w.heap.size/\¬w0.X b
 bY:∀l bk,blk l=some bk->∃v,g l=some v/\qN S (aJ N blk g) w g w0 bk v
 sep:∀l l' v v' b,hot (blk l)=true->hot (blk l')=true->g l=some v->g l'=some v'->dB v=some b->dB v'=some b->l=l'
 al:∀l v,g l=some v->al l
 refs:∀l v,g l=some v->isRef v=true
 gl:aai S (aJ N blk g) w
section
variable {D:Type}{S:Sh D}{M M' N:Nat->Prop}{w w':World}{w0:Bs}{g g':Nat->Option Value}{blk:Nat->Option (Bk D)}{al:Nat->Prop}{B:Bs}
theorem Nl {w:World}{b:Nat}{o:Obj}(h:w.heap[b]? =some o):b < w.heap.size:=by
 grind
theorem qN.lt {j:Bk D}{v:Value}{b:Nat}(h:qN S M w g B j v)(c:hot (some j)=true)(a:dB v=some b):b < w.heap.size/\B.Mine b:=by
 cases j with
 | cells cs=>
  obtain⟨i,k,t,rfl,f,c,_⟩:=h;simp only[dB,Og]at a
  grind
 | row e d=>
  obtain⟨l,u,⟨_,h⟩,_⟩:=h;rcases h with⟨rfl,_⟩ | ⟨g',o,q,rfl,f,c,_⟩
  ·simp[dB]at a
  ·have:=l.1 b a;simp only[dB,Og]at a
   grind
 | ve d=>simp[hot]at c
 | iter s p=>
  obtain⟨_,i,rfl,f,c⟩:=h;simp only[dB,Og]at a
  grind
 | map d=>
  obtain⟨m,i,r,n,_,_,rfl,f,c,_⟩:=h;simp only[dB,Og]at a
  grind
 | tc t cs=>
  obtain⟨i,k,rfl,f,⟨u0,c,_⟩,_⟩:=h;simp only[dB,Og]at a
  grind
theorem qN.isRef {c:Bk D}{v:Value}(h:qN S M w g B c v):isRef v=true:=by
 cases c with
 | cells cs=>obtain⟨b,i,t,rfl,_⟩:=h;rfl
 | row e d=>
  obtain⟨_,l,⟨_,h⟩,_⟩:=h;rcases h with⟨rfl,_⟩ | ⟨g',f,j,rfl,_⟩<;>rfl
 | ve d=>
  rcases bQ.form h with⟨a,f,rfl⟩ | ⟨r,rfl⟩<;>rfl
 | iter s p=>obtain⟨_,b,rfl,_⟩:=h;rfl
 | map d=>obtain⟨m,b,k,n,_,_,rfl,_⟩:=h;rfl
 | tc t cs=>obtain⟨b,i,rfl,_⟩:=h;rfl
theorem qN.keep {o:Bk D}{v:Value}(h:qN S M w g B o v)(k:Keeps M w M' w')(m:More g g')(f:hot (some o)=true->∀b,dB v=some b->w'.heap[b]? =w.heap[b]?):qN S M' w' g' B o v:=by
 cases o with
 | cells cs=>
  obtain⟨b,x,t,rfl,c,a,l⟩:=h;exact⟨b,x,t,rfl,c,(f rfl b rfl).trans a,l.keep k m⟩
 | row e d=>
  obtain⟨u,C,⟨r,h⟩,G⟩:=h;refine⟨u,C,⟨r,?_⟩,fun i j F H=> ?_⟩
  ·rcases h with h | ⟨g',z,y,rfl,c,a,q⟩
   ·exact .inl h
   ·exact .inr ⟨g',z,y,rfl,c,(f rfl g' rfl).trans a,q⟩
  grind [Lf.Rel.keep]
 | ve d=>exact bQ.keep h k
 | iter s p=>
  obtain⟨r,b,rfl,c,a⟩:=h;exact⟨r,b,rfl,c,(f rfl b rfl).trans a⟩
 | map d=>
  obtain⟨m,b,A,n,u,E,rfl,c,a,l⟩:=h;exact⟨m,b,A,n,u,E,rfl,c,(f rfl b rfl).trans a,l⟩
 | tc t cs=>
  obtain⟨b,x,rfl,c,a,l⟩:=h;exact⟨b,x,rfl,c,a.same (f rfl b rfl),l.keep k m⟩
theorem iI {x:Option (Bk D)}(h:hot x=true):∃a,x=some a/\hot (some a)=true:=by
 cases x with
 | none=>simp[hot]at h
 | some a=>grind
theorem Keeps.refl (M:Nat->Prop)(w:World):Keeps M w M w:=⟨lH _,fun _ _ h=>⟨h,rfl⟩⟩
theorem Hp.at (h:Hp S w0 N blk g al w){l:Nat}{v:Value}(c:hot (blk l)=true)(f:g l=some v):∃a,blk l=some a/\hot (some a)=true/\qN S (aJ N blk g) w g w0 a v:=by
 obtain⟨a,b,i⟩:=iI c;obtain⟨j,d,e⟩:=h.bY l a b
 grind
theorem Hp.mlt (h:Hp S w0 N blk g al w){b:Nat}(a:aJ N blk g b):b < w.heap.size:=by
 rcases a with a | ⟨l,v,e,d,f⟩
 ·exact Qbm (h.hN b a).1 h.below.size
 ·obtain⟨j,_,i,c⟩:=h.at e d;exact(c.lt i f).1
theorem Hp.grow (h:Hp S w0 N blk g al w)(a:Below w.heap.size w w'):Hp S w0 N blk g al w'/\Keeps (aJ N blk g) w (aJ N blk g) w':=by
 have d:Keeps (aJ N blk g) w (aJ N blk g) w':=⟨a.size,fun b f m=>⟨m,a.block b f⟩⟩;refine⟨⟨h.below.grow a,h.hN,fun l i j=> ?_,h.sep,h.al,h.refs,h.gl.keep d⟩,d⟩;obtain⟨v,n,c⟩:=h.bY l i j;exact⟨v,n,c.keep d (More.refl _) fun k b e=>a.block b (c.lt k e).1⟩
theorem Hp.add (h:Hp S w0 N blk g al w)(p:Below w.heap.size w w'){l:Nat}{bk:Bk D}{v:Value}(L:¬al l)(Y:∀b,dB v=some b->w.heap.size<=b)
  (V:∀y,Keeps (aJ N blk g) w y w'->(∀c,y c->aJ N blk g c\/dB v=some c)->qN S y w' (upd g l (some v)) w0 bk v):
  Hp S w0 N (upd blk l (some bk)) (upd g l (some v)) (fun n=>al n\/n=l) w'/\Keeps (aJ N blk g) w (aJ N (upd blk l (some bk)) (upd g l (some v))) w'/\More g (upd g l (some v)):=by
 have T:g l=none:=by
  cases R:g l with
  | none=>rfl
  | some u=>exact absurd (h.al l u R) L
 have U:blk l=none:=by
  cases Q:blk l with
  | none=>rfl
  | some o=>
   obtain⟨u,C,_⟩:=h.bY l o Q
   grind
 have E:More g (upd g l (some v)):=fun n u i=>by
  grind [bI]
 have z:Keeps (aJ N blk g) w (aJ N (upd blk l (some bk)) (upd g l (some v))) w':=by
  refine⟨p.size,fun b K t=>⟨?_,p.block b K⟩⟩;rintro(m | ⟨e,u,j,f,k⟩)
  ·exact t (.inl m)
  ·by_cases d:e=l
   ·grind [upd_same]
   ·rw[bI _ _ _ _ d]at j f;exact t (.inr ⟨e,u,j,f,k⟩)
 have W:∀c,aJ N (upd blk l (some bk)) (upd g l (some v)) c->aJ N blk g c\/dB v=some c:=by
  rintro c (m | ⟨e,u,j,f,k⟩)
  ·exact .inl (.inl m)
  ·by_cases d:e=l
   ·grind [upd_same]
   ·rw[bI _ _ _ _ d]at j f;exact .inl (.inr ⟨e,u,j,f,k⟩)
 refine⟨⟨h.below.grow p,h.hN,fun e o x=> ?_,?_,?_,?_,h.gl.keep z⟩,z,E⟩
 ·by_cases d:e=l
  ·grind [upd_same]
  ·rw[bI _ _ _ _ d]at x⊢;obtain⟨u,C,J⟩:=h.bY e o x;exact⟨u,C,J.keep z E fun M b F=>p.block b (J.lt M F).1⟩
 ·intro a b O P c H s r q I A;have X:∀n u c,n≠l->hot (upd blk l (some bk) n)=true->upd g l (some v) n=some u->dB u=some c->c < w.heap.size:=by
   intro n u c i j f k;rw[bI _ _ _ _ i]at j f;exact h.mlt (.inr ⟨n,u,j,f,k⟩)
  by_cases B:a=l
  ·grind [upd_same]
  ·by_cases G:b=l
   ·grind [upd_same]
   ·rw[bI _ _ _ _ B]at H r;rw[bI _ _ _ _ G]at s q;exact h.sep a b O P c H s r q I A
 ·intro n u i;by_cases d:n=l
  ·exact .inr d
  ·rw[bI _ _ _ _ d]at i;exact .inl (h.al n u i)
 ·intro n u i;by_cases d:n=l
  ·grind [qN.isRef,upd_same]
  ·rw[bI _ _ _ _ d]at i;exact h.refs n u i
theorem Hp.write (h:Hp S w0 N blk g al w){l b:Nat}{q bk':Bk D}{v:Value}(O:blk l=some q)(P:hot (some q)=true)(U:hot (some bk')=true)(y:g l=some v)(s:dB v=some b)
  (A:w'.os=w.os) (B:w'.tape=w.tape) (r:w'.output=w.output) (o:w'.heap.size=w.heap.size) (f:∀n,n≠b->w'.heap[n]? =w.heap[n]?)
  (W:Keeps (aJ N blk g) w (aJ N blk g) w'->qN S (aJ N blk g) w' g w0 bk' v):
  Hp S w0 N (upd blk l (some bk')) g al w'/\Keeps (aJ N blk g) w (aJ N (upd blk l (some bk')) g) w':=by
 have i:∀n,hot (upd blk l (some bk') n)=hot (blk n):=by
  grind [bI,upd_same]
 have t:aJ N (upd blk l (some bk')) g=aJ N blk g:=by
  funext c;simp only[aJ,i]
 have E:aJ N blk g b:= .inr ⟨l,v,by grind,y,s⟩;obtain⟨X,j,G⟩:=h.bY l q O;rw[y]at j;injection j with j
 subst j;have H:=(G.lt P s).2;have x:Keeps (aJ N blk g) w (aJ N blk g) w':=⟨Qcu o.symm,fun c _ p=>⟨p,f c (fun e=>p (e▸E))⟩⟩;refine⟨⟨⟨A.trans h.below.os,B.trans h.below.tape,r.trans h.below.output,o▸h.below.size,fun k L M=>(f k ?_).trans (h.below.block k L M)⟩,h.hN,?_,?_,h.al,h.refs,by rw[t];exact h.gl.keep x⟩,t▸x⟩
 ·rintro rfl;rcases H with K | K
  ·omega
  ·exact M K
 ·intro n J I;rw[t];by_cases C:n=l
  ·grind [upd_same]
  ·rw[bI _ _ _ _ C]at I;obtain⟨u,z,T⟩:=h.bY n J I;refine⟨u,z,T.keep x (More.refl _) fun V c m=>f c ?_⟩;rintro rfl;exact C (h.sep n l u v c qP qP z y m s)
 ·intro a c Q R d F m;rw[i]at F m;exact h.sep a c Q R d F m
theorem Hp.aJl (h:Hp S w0 N blk g al w)(l:Nat)(x:Option (Bk D))(B:hot x=false)(m:∀i,x=some i->∃v,g l=some v/\qN S (aJ N (upd blk l x) g) w g w0 i v):
  Hp S w0 N (upd blk l x) g al w/\Keeps (aJ N blk g) w (aJ N (upd blk l x) g) w:=by
 have e:∀n,hot (upd blk l x n)=true->hot (blk n)=true:=by
  grind [bI,upd_same]
 have o:Keeps (aJ N blk g) w (aJ N (upd blk l x) g) w:=by
  refine⟨lH _,fun b _ k=>⟨?_,rfl⟩⟩;rintro(f | ⟨n,u,z,s,t⟩)
  ·exact k (.inl f)
  ·exact k (.inr ⟨n,u,e n z,s,t⟩)
 refine⟨⟨h.below,h.hN,fun n i f=> ?_,fun a c p y d r q=>h.sep a c p y d (e a r) (e c q),h.al,h.refs,h.gl.keep o⟩,o⟩;by_cases j:n=l
 ·subst j;rw[upd_same]at f;exact m i f
 ·rw[bI _ _ _ _ j]at f;obtain⟨u,A,C⟩:=h.bY n i f
  grind [qN.keep,More.refl]
theorem Hp.move (h:Hp S w0 N blk g al w){l fr:Nat}{bk':Bk D}{v v':Value}(s:hot (blk l)=true)(q:g l=some v)(X:¬al fr)
  (T:w'.os=w.os) (U:w'.tape=w.tape) (J:w'.output=w.output) (E:w.heap.size<=w'.heap.size) (m:∀n,n < w.heap.size->dB v≠some n->w'.heap[n]? =w.heap[n]?)
  (W:∀b,dB v'=some b->dB v=some b\/w.heap.size<=b)
  (hok:∀G,Keeps (aJ N blk g) w G w'->(∀c,G c->aJ N blk g c\/dB v'=some c)->qN S G w' (upd g fr (some v')) w0 bk' v'):
  Hp S w0 N (upd (upd blk l none) fr (some bk')) (upd g fr (some v')) (fun n=>al n\/n=fr) w'/\Keeps (aJ N blk g) w (aJ N (upd (upd blk l none) fr (some bk')) (upd g fr (some v'))) w'/\More g (upd g fr (some v')):=by
 have hgl:g fr=none:=by
  cases q:g fr with
  | none=>rfl
  | some u=>exact absurd (h.al fr u q) X
 have R:More g (upd g fr (some v')):=fun n u d=>by
  grind [bI]
 have j:∀n,n≠fr->hot (upd (upd blk l none) fr (some bk') n)=true->n≠l/\hot (blk n)=true:=by
  intro n d f;rw[bI _ _ _ _ d]at f;by_cases i:n=l
  ·subst i;rw[upd_same]at f;simp[hot]at f
  ·rw[bI _ _ _ _ i]at f
   grind
 have hM':∀c,aJ N (upd (upd blk l none) fr (some bk')) (upd g fr (some v')) c->aJ N blk g c\/dB v'=some c:=by
  rintro c (hnb | ⟨K,u,f,p,x⟩)
  ·exact .inl (.inl hnb)
  ·by_cases i:K=fr
   ·grind [upd_same]
   ·have O:=(j K i f).2;rw[bI _ _ _ _ i]at p;exact .inl (.inr ⟨K,u,O,p,x⟩)
 have hmv:∀b,dB v=some b->aJ N blk g b:=fun b t=> .inr ⟨l,v,s,q,t⟩
 have M:Keeps (aJ N blk g) w (aJ N (upd (upd blk l none) fr (some bk')) (upd g fr (some v'))) w':=by
  refine⟨E,fun b hlt V=>⟨fun t=> ?_,m b hlt fun e=>V (hmv b e)⟩⟩
  grind
 have z_:∀b,dB v=some b->w0.Mine b:=fun b t=>by
  obtain⟨bk,_,H,I⟩:=h.at s q;exact(I.lt H t).2
 refine⟨⟨⟨T.trans h.below.os,U.trans h.below.tape,J.trans h.below.output,zW h.below.size E,fun k F hx=>(m k (Qbm F h.below.size) ?_).trans (h.below.block k F hx)⟩,h.hN,fun n Y d=> ?_,?_,?_,?_,h.gl.keep M⟩,M,R⟩
 ·intro e;rcases z_ k e with f | f
  ·omega
  ·exact hx f
 ·by_cases i:n=fr
  ·grind [upd_same]
  ·rw[bI _ _ _ _ i]at d⊢;have o:n≠l:=by rintro rfl;rw[upd_same]at d;cases d
   rw[bI _ _ _ _ o]at d;obtain⟨u,Q,UW⟩:=h.bY n Y d;refine⟨u,Q,UW.keep M R fun H b A=>m b (UW.lt H A).1 fun e=> ?_⟩;exact o (h.sep n l u v b qP s Q q A e)
 ·have old:∀n u c,n≠fr->hot (upd (upd blk l none) fr (some bk') n)=true->upd g fr (some v') n=some u->dB u=some c->dB v'=some c->False:=by
   intro n u c d f p x h4;obtain⟨o,f⟩:=j n d f;rw[bI _ _ _ _ d]at p;rcases W c h4 with h5 | h5
   ·exact o (h.sep n l u v c f s p q x h5)
   ·have:=h.mlt (.inr ⟨n,u,f,p,x⟩);omega
  intro a b va vb c L r B z Z P;by_cases y:a=fr
  ·grind [upd_same]
  ·by_cases C:b=fr
   ·grind [upd_same]
   ·have L:=(j a y L).2;have r:=(j b C r).2;rw[bI _ _ _ _ y]at B;rw[bI _ _ _ _ C]at z;exact h.sep a b va vb c L r B z Z P
 ·intro n u d;by_cases i:n=fr
  ·exact .inr i
  ·rw[bI _ _ _ _ i]at d;exact .inl (h.al n u d)
 ·intro n u d;by_cases i:n=fr
  ·grind [qN.isRef,upd_same]
  ·rw[bI _ _ _ _ i]at d;exact h.refs n u d
end
end Go.Vc
namespace Go.Vc
open Go.RowKit
structure Ty where
 kind:Nat
 agg:Bool
 size:Nat
 bytes:Nat
 zero:List Value
 ano:List (Nat×Nat×Bool)
 elem:Option TypeId
 eqs:List Nat
 lit:Bool
 arr:Option (TypeId×Nat)
 zag:Bool
 mp:Option (TypeId×TypeId)
def EN (P:Program)(t:TypeId):Bool:=
 match P.underlying t with
 | some (.struct _)=>true
 | some (.array _ _)=>true
 | _=>false
def qm:IntKind->Nat
 | .i8=>20
 | .i16=>21
 | .i32=>22
 | .i64=>23
 | .u8=>24
 | .u16=>25
 | .u32=>26
 | .u64=>27
def am_:Nat->Option IntKind
 | 20=>some .i8
 | 21=>some .i16
 | 22=>some .i32
 | 23=>some .i64
 | 24=>some .u8
 | 25=>some .u16
 | 26=>some .u32
 | 27=>some .u64
 | _=>none
@[simp] theorem aI9 (k:IntKind):(qm k=1)=False:=by cases k<;>simp[qm]
@[simp] theorem aI3 (k:IntKind):(qm k=3)=False:=by cases k<;>simp[qm]
@[simp] theorem aI2 (k:IntKind):(qm k=4)=False:=by cases k<;>simp[qm]
@[simp] theorem aJd (k:IntKind):(qm k=5)=False:=by cases k<;>simp[qm]
def kindOf:TypeDesc->Nat
 | .bool=>1
 | .int k=>qm k
 | .string=>3
 | .slice _=>4
 | .struct _=>5
 | .pointer _=>6
 | .func _ _ _=>7
 | _=>0
def cellsIn (P:Program)(t:TypeId):Nat:=if (P.underlying t).isSome then P.cellsOf t else 0
def I4 (P:Program):TypeDesc->List (Nat×Nat×Bool)
 | .struct a=>a.toList.map fun f=>(f.offset,cellsIn P f.type,EN P f.type)
 | _=>[]
def agk:TypeDesc->Option TypeId
 | .slice e=>some e
 | _=>none
def Qx (P:Program)(t:TypeId):Option Nat:=
 match P.underlying t with
 | some .bool=>some 1
 | some (.int _)=>some 2
 | some .string=>some 3
 | _=>none
def eqFields (P:Program):Nat->List Field->Option (List Nat)
 | _,[]=>some []
 | i,f::r=>
  match Qx P f.type,eqFields P (i+1) r with
  | some k,some ks=>if Nat.beq f.offset i && !(f.name== "_") && Nat.beq (cellsIn P f.type) 1 then some (k::ks)else none
  | _,_=>none
def abS (P:Program)(t:TypeId):TypeDesc->List Nat
 | .struct a=>if P.stoodInHeld t || P.eqGuardType P.depth t then[]else(match eqFields P 0 a.toList with
  | some ks=>ks
  | none=>[])
 | .array n e=>if P.eqGuardType P.depth t then[]else(match Qx P e,P.info? e with
  | some k,some i=>if Nat.beq i.size 1 then List.replicate n k else[]
  | _,_=>[])
 | _=>[]
def arz:TypeDesc->Option (TypeId×Nat)
 | .array n e=>some (e,n)
 | _=>none
def xw:Value->Bool
 | .agg _=>true
 | _=>false
def ahN:TypeDesc->Option (TypeId×TypeId)
 | .map k v=>some (k,v)
 | .pointer e=>some (e,e)
 | _=>none
def aG8 (P:Program)(t:TypeId):Option Ty:=
 match P.info? t,P.underlying t with
 | some i,some d=>
  match i.zero with
  | some z=>some ⟨kindOf d,EN P t,i.size,i.bytes,z.cells.toList,I4 P d,agk d,abS P t d,false,arz d,xw z,ahN d⟩
  | none=>none
 | _,_=>none
def TyOk (P:Program)(t:TypeId)(a:Ty):Prop:=aG8 P t=some {a with lit:=false}
def InR:IntKind->Int->Prop
 | .i8,n=> -128<=n/\n<=127
 | .i16,n=> -32768<=n/\n<=32767
 | .i32,n=> -2147483648<=n/\n<=2147483647
 | .i64,n=> -9223372036854775808<=n/\n<=9223372036854775807
 | .u8,n=>0<=n/\n<=255
 | .u16,n=>0<=n/\n<=65535
 | .u32,n=>0<=n/\n<=4294967295
 | .u64,n=>0<=n/\n<=18446744073709551615
theorem wrap_in {k:IntKind}{n:Int}(h:InR k n):k.wrap n=n:=by
 cases k<;>simp only[InR]at h<;>simp[IntKind.wrap,IntKind.bits,IntKind.signed]<;>omega
def wrp (k:IntKind)(n:Int):Int:=k.wrap n
theorem wrp_in {k:IntKind}{n:Int}(h:InR k n):wrp k n=n:=wrap_in h
def qE (k:IntKind)(x y:Int):Int:=k.wrap (BitVec.ofInt k.bits x &&& BitVec.ofInt k.bits y).toNat
def orI (k:IntKind)(x y:Int):Int:=k.wrap (BitVec.ofInt k.bits x ||| BitVec.ofInt k.bits y).toNat
def I7 (k:IntKind)(x y:Int):Int:=k.wrap (BitVec.ofInt k.bits x ^^^ BitVec.ofInt k.bits y).toNat
def aGP (k:IntKind)(x y:Int):Int:=k.wrap (BitVec.ofInt k.bits x &&& ~~~BitVec.ofInt k.bits y).toNat
def UN (k:IntKind)(x y:Int):Int:=k.wrap (x*2 ^ (min y.toNat k.bits))
def qM (k:IntKind)(x y:Int):Int:=x.fdiv (2 ^ (min y.toNat k.bits))
def Yl:IntKind->IntKind->Bool:=fun a b=>a==b
def Pv.beq:Pv->Pv->Bool
 | .bool a, .bool b=>a==b
 | .int k a, .int c b=>Yl k c && a==b
 | .str a, .str b=>a==b
 | _,_=>false
def Pv.kind:Pv->Nat
 | .bool _=>1
 | .int k _=>qm k
 | .str _=>3
def Pv.lf {D:Type}:Pv->Lf D
 | .bool b=> .bool b
 | .int k n=> .int k n
 | .str s=> .str s
def vW {V:Type}(k:Pv):List (Pv×V)->Option V
 | []=>none
 | p::r=>if Pv.beq k p.1 then some p.2 else vW k r
def TQ {V:Type}(k:Pv)(v:V):List (Pv×V)->List (Pv×V)
 | []=>[(k,v)]
 | p::r=>if Pv.beq k p.1 then(p.1,v)::r else p::TQ k v r
structure azl {D:Type}(S:Sh D)(m:Mp D):Prop where
 keys:∀p∈m.kvs,p.1.kind=m.kind
 has:∀k:Pv,k.kind=m.kind->m.has k=(vW k m.kvs).isSome
 get:∀k:Pv,k.kind=m.kind->m.get k=((vW k m.kvs).getD m.zero).map Pv.lf
 put:∀k vs,k.kind=m.kind->vs.map Pv.kind=m.zero.map Pv.kind->∃m',S.mp (m.put k vs)=some m'/\m'.kvs=TQ k vs m.kvs/\m'.agg=m.agg
 len:m.len=m.kvs.length
def nG:Option Prop->Prop
 | none=>True
 | some p=>p
structure DP where
 p:Prop
 b:Bool
 h:b=true->p
@[reducible] def dp (p:Prop) [d:Decidable p]:DP:=⟨p,decide p,xe⟩
@[reducible] def dq (p:Prop):DP:=⟨p,false,fun e=>nomatch e⟩
def kF:Option DP->Prop
 | none=>True
 | some q=>q.p
theorem AL {o:Option Prop}:kF (o.map dq) ↔ nG o:=by cases o<;>exact Iff.rfl
structure Out (D:Type) where
 pre:Option DP
 val:Sl D
 blks:List (Nat×Option (Bk D))
abbrev Ct (D:Type):=List (Sl D)->List (Bk D)->Option (Option DP×Sl D×List (Nat×Bk D)×List Nat)
def vk {D:Type}:Value->Lf D
 | .int k n=> .int k n
 | .string s=>if Nat.ble s.data.size 9223372036854775807 then .str s.data.toList else .val (.string s)
 | .nilIface=> .Uo none
 | v=> .val v
def aAD {D:Type}:Value->Sl D
 | .agg cs=> .one (.agg (cs.toList.map vk))
 | v=> .one (.lf (vk v))
def bOf {D:Type}:Sl D->Option Bool
 | .one (.lf (.bool b))=>some b
 | .one (.lf (.val (.bool b)))=>some b
 | _=>none
def Lf.norm {D:Type}:Lf D->Lf D
 | .val (.bool b)=> .bool b
 | x=>x
def Sv.norm {D:Type}:Sv D->Sv D
 | .lf x=> .lf x.norm
 | .agg a=> .agg (a.map Lf.norm)
def Sl.norm {D:Type}:Sl D->Sl D
 | .one x=> .one x.norm
 | .tup a=> .tup (a.map Sv.norm)
def aI {D:Type}(a:Nat->Sl D):Operand->Sl D
 | .tmp t=>a t
 | .const v=>aAD v
 | .func f=> .one (.lf (.fn f []))
 | .global i=> .one (.lf (.glb i))
def Sv.cells {D:Type}:Sv D->List (Lf D)
 | .lf x=>[x]
 | .agg a=>a
def putAt {D:Type}(cs:List (Lf D))(o:Nat)(a:List (Lf D)):List (Lf D):=cs.take o++(a++cs.drop (o+a.length))
def Lf.storable {D:Type}:Lf D->Bool
 | .any=>false
 | .val (.agg _)=>false
 | .val (.tuple _)=>false
 | _=>true
def Sv.whole {D:Type}:Sv D->Bool
 | .lf x=>x.storable
 | .agg _=>true
def zl {c:Type}:Option c->Option c->Option c
 | some a,_=>some a
 | none,b=>b
section
variable {D:Type}
def kN (a:Option DP)(x:Lf D):Option (Out D):=some ⟨a, .one (.lf x),[]⟩
def aH7 (c:BinOp)(k:IntKind)(a b:Int):Option (Out D):=
 match c with
 | .add=>kN none (.int k (wrp k (a+b)))
 | .sub=>kN none (.int k (wrp k (a - b)))
 | .mul=>kN none (.int k (wrp k (a*b)))
 | .and=>kN none (.int k (qE k a b))
 | .or=>kN none (.int k (orI k a b))
 | .xor=>kN none (.int k (I7 k a b))
 | .andNot=>kN none (.int k (aGP k a b))
 | .quo=>kN (some (dp (b≠0))) (.int k (wrp k (a.tdiv b)))
 | .rem=>kN (some (dp (b≠0))) (.int k (a.tmod b))
 | .eql=>kN none (.bool (a==b))
 | .neq=>kN none (.bool (a !=b))
 | .lss=>kN none (.bool (decide (a < b)))
 | .leq=>kN none (.bool (decide (a<=b)))
 | .gtr=>kN none (.bool (decide (b < a)))
 | .geq=>kN none (.bool (decide (b<=a)))
 | _=>none
def aJc (k:IntKind)(a b:Int):Option (Out D):=kN (some (dp (0<=b))) (.int k (UN k a b))
def aI7 (k:IntKind)(a b:Int):Option (Out D):=kN (some (dp (0<=b))) (.int k (qM k a b))
def aG9 (c:BinOp)(a b:List UInt8):Option (Out D):=
 match c with
 | .eql=>kN none (.bool (a==b))
 | .neq=>kN none (.bool (a !=b))
 | .lss=>kN none (.bool (Op.bytesLess a b))
 | .leq=>kN none (.bool (Op.bytesLess a b || a==b))
 | .gtr=>kN none (.bool (!(Op.bytesLess a b || a==b)))
 | .geq=>kN none (.bool (!Op.bytesLess a b))
 | .add=>kN (some (dp (a.length+b.length<=9223372036854775807))) (.str (a++b))
 | _=>none
def eq1 (k:Nat)(x y:Lf D):Option Bool:=
 match k with
 | 1=>(match x,y with
  | .bool a, .bool b=>some (a==b)
  | _,_=>none)
 | 2=>(match x,y with
  | .int k a, .int c b=>if Yl k c then some (a==b)else none
  | _,_=>none)
 | 3=>(match x,y with
  | .str a, .str b=>some (a==b)
  | _,_=>none)
 | _=>none
def rV:List Nat->List (Lf D)->List (Lf D)->Option Bool
 | [],[],[]=>some true
 | k::ks,x::a,y::b=>
  (match eq1 k x y,rV ks a b with
  | some e,some r=>some (e && r)
  | _,_=>none)
 | _,_,_=>none
def aiA (T:TypeId->Option Ty)(S:Sh D)(a:BinOp)(t:TypeId)(x y:Sl D):Option (Out D):=
 match T t with
 | none=>none
 | some c=>(match c.elem,x,y with
  | some _, .one (.lf (.dat d)), .one (.lf (.val (.slice none 0 0)))=>if Nat.blt 0 (S.size d)then(match a with
   | .eql=>kN none (.unk fun b=>b=true->S.len d=0)
   | .neq=>kN none (.unk fun b=>b=false->S.len d=0)
   | _=>none)else none
  | some _, .one (.lf (.val (.slice none 0 0))), .one (.lf (.val (.slice none 0 0)))=>(match a with
   | .eql=>kN none (.val (.bool true))
   | .neq=>kN none (.val (.bool false))
   | _=>none)
  | _,_,_=>none)
def aDm (T:TypeId->Option Ty)(op:BinOp)(t:TypeId)(x y:Sl D):Option (Out D):=
 match x,y with
 | .one (.lf (.int k a)), .one (.lf (.int e b))=>(match op with
  | .shl=>aJc k a b
  | .shr=>aI7 k a b
  | op=>if Yl k e then aH7 op k a b else none)
 | .one (.lf (.str a)), .one (.lf (.str b))=>aG9 op a b
 | .one (.agg d), .one (.agg f)=>
  (match T t with
  | some c=>(match c.eqs with
   | []=>none
   | ks=>(match rV ks (d.map Lf.norm) (f.map Lf.norm),op with
    | some r, .eql=>kN none (.bool r)
    | some r, .neq=>kN none (.bool (!r))
    | _,_=>none))
  | none=>none)
 | x,y=>
  match bOf x,bOf y with
  | some a,some b=>
   (match T t with
   | some c=>if c.kind==1 then(match op with
    | .eql=>kN none (.bool (a==b))
    | .neq=>kN none (.bool (a !=b))
    | _=>none)else none
   | none=>none)
  | _,_=>none
def xUn (a:UnOp)(x:Sl D):Option (Out D):=
 match a,x with
 | .not, .one (.lf (.bool b))=>kN none (.bool (!b))
 | .not, .one (.lf (.val (.bool b)))=>kN none (.val (.bool (!b)))
 | .not, .one (.lf (.unk p))=>kN none (.unk fun b=>p (!b))
 | .neg, .one (.lf (.int k n))=>kN none (.int k (wrp k (-n)))
 | .xor, .one (.lf (.int k n))=>kN none (.int k (I7 k (if k.signed then -1 else k.max) n))
 | _,_=>none
def yT (S:Sh D)(d:D)(i:Nat):Nat->Nat->List (Lf D)
 | _,0=>[]
 | j,n+1=>S.cell d i j::yT S d i (j+1) n
def LH (T:TypeId->Option Ty)(S:Sh D)(b:Nat->Option (Bk D))(t:TypeId)(x:Sl D):Option (Out D):=
 match T t with
 | none=>none
 | some a=>
  match x with
  | .one (.lf (.ptr l o))=>
   match b l with
   | some (.cells cs)=>
    if a.agg then(if Nat.ble (o+a.size) cs.length then some ⟨none, .one (.agg ((cs.drop o).take a.size)),[]⟩else none)
    else(match cs[o]? with
     | some y=>kN none y
     | none=>none)
   | _=>none
  | .one (.lf (.elt d i j))=>
   if a.agg then(if Nat.ble (j+a.size) (S.size d)then some ⟨none, .one (.agg (yT S d i j a.size)),[]⟩else none)
   else(if Nat.blt j (S.size d)then kN none (S.cell d i j)else none)
  | .one (.lf (.opt l i j c))=>
   match b l with
   | some (.row e d)=>
    if a.agg then(if Nat.ble (j+a.size) (S.size d) && Nat.beq c (S.size d)then some ⟨some (dp (i < S.len d)), .one (.agg (yT S d i j a.size)),[]⟩else none)
    else(if Nat.blt j (S.size d) && Nat.beq c (S.size d)then kN (some (dp (i < S.len d))) (S.cell d i j)else none)
   | _=>none
  | _=>none
def Ym (T:TypeId->Option Ty)(S:Sh D)(a:Nat->Option (Bk D))(t:TypeId)(x y:Sl D):Option (Out D):=
 match T t,x,y with
 | some b, .one (.lf (.ptr l o)), .one u=>
  match a l with
  | some (.cells cs)=>
   if Nat.beq u.cells.length b.size && Nat.ble (o+u.cells.length) cs.length && u.cells.all Lf.storable then some ⟨none, .one (.lf .any),[(l,some (.cells (putAt cs o u.cells)))]⟩else none
  | _=>none
 | some b, .one (.lf (.opt l i j f)), .one u=>
  match a l with
  | some (.row e d)=>
   if Nat.beq u.cells.length b.size && Nat.ble (j+u.cells.length) (S.size d) && Nat.beq f (S.size d) && u.cells.all Lf.storable then(match S.set d i j (u.cells.map Lf.norm)with
    | some c=>some ⟨some (dp (i < S.len d)), .one (.lf .any),[(l,some (.row e c))]⟩
    | none=>none)else none
  | _=>none
 | _,_,_=>none
def BD (T:TypeId->Option Ty)(t:TypeId)(x:Sl D)(f:Nat):Option (Out D):=
 match T t with
 | none=>none
 | some c=>
  match c.ano[f]?,x with
  | some (a,b,_), .one (.lf (.ptr l o))=>if Nat.beq b 0 then none else kN none (.ptr l (o+a))
  | some (a,b,_), .one (.lf (.elt d i j))=>if Nat.beq b 0 then none else kN none (.elt d i (j+a))
  | some (a,b,_), .one (.lf (.opt l i j z))=>if Nat.beq b 0 then none else kN none (.opt l i (j+a) z)
  | _,_=>none
def ajx (T:TypeId->Option Ty)(t:TypeId)(x:Sl D)(f:Nat):Option (Out D):=
 match T t with
 | none=>none
 | some c=>
  match c.ano[f]?,x with
  | some (a,b,d), .one (.agg cs)=>
   if Nat.beq b 0 then none else if d then(if Nat.ble (a+b) cs.length then some ⟨none, .one (.agg ((cs.drop a).take b)),[]⟩else none)
   else(match cs[a]? with
    | some y=>kN none y
    | none=>none)
  | _,_=>none
def agx (T:TypeId->Option Ty)(S:Sh D)(b:Nat->Option (Bk D))(t:TypeId)(x i:Sl D):Option (Out D):=
 match T t with
 | none=>none
 | some c=>
  match c.elem with
  | none=>none
  | some e=>
   match T e with
   | none=>none
   | some a=>
    match x,i with
    | .one (.lf (.dat d)), .one (.lf (.int _ n))=>if Nat.beq a.size (S.size d) && Nat.blt 0 a.size then kN (some (dp (0<=n/\n < S.len d))) (.elt d n.toNat 0)else none
    | .one (.lf (.own l)), .one (.lf (.int _ n))=>
     match b l with
     | some (.row _ d)=>if Nat.beq a.size (S.size d) && Nat.blt 0 a.size then kN (some (dp (0<=n/\n < S.len d))) (.opt l n.toNat 0 a.size)else none
     | some (.ve d)=>if Nat.beq a.size (S.size d) && Nat.blt 0 a.size then kN (some (dp (0<=n/\n < S.len d))) (.elt d n.toNat 0)else none
     | _=>none
    | _,_=>none
def S_ (x:Sl D)(i:Nat):Option (Out D):=
 match x with
 | .tup a=>(match a[i]? with
  | some y=>some ⟨none, .one y,[]⟩
  | none=>none)
 | _=>none
def Z_ (c:Ty)(a:Nat->Sl D):List (Nat×Operand)->List (Lf D)->Option (List (Lf D))
 | [],cs=>some cs
 | (f,x)::r,cs=>
  match c.ano[f]?,aI a x with
  | some (b,d,_), .one u=>if u.whole && Nat.beq u.cells.length d && Nat.ble (b+d) cs.length then Z_ c a r (putAt cs b u.cells)else none
  | _,_=>none
def aeO (T:TypeId->Option Ty)(b:Nat->Sl D)(t:TypeId)(parts:Array (Nat×Operand)):Option (Out D):=
 match T t with
 | some a=>
  if a.kind==5 && a.ano.all (fun f=> !Nat.beq f.2.1 0)then(match Z_ a b parts.toList (a.zero.map vk)with
   | some cs=>some ⟨none, .one (.agg cs),[]⟩
   | none=>none)else none
 | none=>none
def Hy (b:Nat)(a:Nat->Sl D):List (Nat×Operand)->List (Lf D)->Option (List (Lf D))
 | [],cs=>some cs
 | (i,x)::r,cs=>
  match aI a x with
  | .one u=>if u.whole && Nat.beq u.cells.length b && Nat.ble (i*b+b) cs.length then Hy b a r (putAt cs (i*b) u.cells)else none
  | _=>none
def aCo (T:TypeId->Option Ty)(S:Sh D)(c:Nat->Sl D)(f:Nat)(t:TypeId)(b:Nat)(parts:Array (Nat×Operand)):Option (Out D):=
 match T t with
 | none=>none
 | some g=>
  match g.elem with
  | none=>none
  | some e=>
   match T e with
   | none=>none
   | some a=>
    if Nat.ble (b*a.size) 16777216 && Nat.blt 0 a.size && Nat.beq a.zero.length a.size then(match Hy a.size c parts.toList ((List.range (b*a.size)).map fun k=>vk ((a.zero[k % a.size]?).getD (.bool false)))with
     | some cs=>(match S.make e b (cs.map Lf.norm)with
      | some d=>if g.lit || Nat.beq b 0 then some ⟨none, .one (.lf (.own f)),[(f,some (.row e d))]⟩else kN none (.dat d)
      | none=>none)
     | none=>none)else none
def asE (d:Nat->Sl D)(c a b:Operand):Option (Out D):=
 match aI d c with
 | .one (.lf (.val (.bool true)))=>some ⟨none,aI d a,[]⟩
 | .one (.lf (.val (.bool false)))=>some ⟨none,aI d b,[]⟩
 | .one (.lf (.bool t))=>
  match bOf (aI d a),bOf (aI d b)with
  | some x,some y=>kN none (.bool (bif t then x else y))
  | _,_=>none
 | _=>none
def aDK (S:Sh D)(T:TypeId->Option Ty)(b:Nat->Option (Bk D))(c:Array TypeId)(x:Sl D):Option (Out D):=
 match c[0]? with
 | none=>none
 | some t=>
  match T t with
  | none=>none
  | some a=>
   match x with
   | .one (.lf (.dat d))=>if a.kind==4 && Nat.blt 0 (S.size d)then kN none (.int .i64 (S.len d))else none
   | .one (.lf (.str s))=>if a.kind==3 then kN none (.int .i64 s.length)else none
   | .one (.lf (.own l))=>(match b l with
    | some (.row _ d)=>if a.kind==4 then kN none (.int .i64 (S.len d))else none
    | some (.ve d)=>if a.kind==4 && Nat.blt 0 (S.size d)then kN none (.int .i64 (S.len d))else none
    | _=>none)
   | .one (.lf (.val (.slice none 0 0)))=>if a.kind==4 then kN none (.int .i64 0)else none
   | _=>none
def avZ (b:Builtin)(x y:Sl D):Option (Out D):=
 match b,x,y with
 | .min, .one (.lf (.int k a)), .one (.lf (.int _ c))=>kN none (.int k (min a c))
 | .max, .one (.lf (.int k a)), .one (.lf (.int _ c))=>kN none (.int k (max a c))
 | _,_,_=>none
def Lf.refs:Lf D->List Nat
 | .ptr l _=>[l]
 | .own l=>[l]
 | .opt l _ _ _=>[l]
 | .part l _ _ _ _=>[l]
 | .fn _ a=>a
 | _=>[]
def Sv.refs:Sv D->List Nat
 | .lf x=>x.refs
 | .agg a=>a.flatMap Lf.refs
def Sl.refs:Sl D->List Nat
 | .one x=>x.refs
 | .tup a=>a.flatMap Sv.refs
def Bk.refs:Bk D->List Nat
 | .cells cs=>cs.flatMap Lf.refs
 | .tc _ cs=>cs.flatMap Lf.refs
 | _=>[]
def Lf.ren (f:Nat->Nat):Lf D->Lf D
 | .ptr l o=> .ptr (f l) o
 | .own l=> .own (f l)
 | .opt l i j a=> .opt (f l) i j a
 | .part l i j a h=> .part (f l) i j a h
 | .fn h b=> .fn h (b.map f)
 | x=>x
def Sv.ren (f:Nat->Nat):Sv D->Sv D
 | .lf x=> .lf (x.ren f)
 | .agg a=> .agg (a.map (Lf.ren f))
def Sl.ren (f:Nat->Nat):Sl D->Sl D
 | .one x=> .one (x.ren f)
 | .tup a=> .tup (a.map (Sv.ren f))
def Bk.ren (f:Nat->Nat):Bk D->Bk D
 | .cells cs=> .cells (cs.map (Lf.ren f))
 | .tc t cs=> .tc t (cs.map (Lf.ren f))
 | x=>x
def Lf.lC:Lf D->Bool
 | .dat _=>true
 | .elt _ _ _=>true
 | .xt _=>true
 | _=>false
def Sv.lC:Sv D->Bool
 | .lf x=>x.lC
 | .agg a=>a.any Lf.lC
def Sl.lC:Sl D->Bool
 | .one x=>x.lC
 | .tup a=>a.any Sv.lC
def Bk.lC:Bk D->Bool
 | .cells cs=>cs.any Lf.lC
 | .iter _ _=>false
 | .map _=>false
 | .tc _ cs=>cs.any Lf.lC
 | _=>true
def ql (l:Nat):List Nat->Bool
 | []=>false
 | x::r=>Nat.beq x l || ql l r
def mi:List Nat->List Nat->List Nat
 | ids,[]=>ids
 | ids,l::r=>mi (if ql l ids then ids else ids++[l]) r
def reach (a:Nat->Option (Bk D)):Nat->List Nat->List Nat
 | 0,ids=>ids
 | n+1,ids=>reach a n (mi ids (ids.flatMap fun l=>match a l with
  | some b=>b.refs
  | none=>[]))
def allIn (ids:List Nat):List Nat->Bool
 | []=>true
 | l::r=>ql l ids && allIn ids r
def wS (a:Nat->Option (Bk D)):List Nat->Option (List (Bk D))
 | []=>some []
 | l::r=>(match a l,wS a r with
  | some b,some c=>some (b::c)
  | _,_=>none)
def gZ:List Nat->Nat->Nat
 | [],_=>0
 | x::r,l=>if Nat.beq x l then 0 else gZ r l+1
def backTo (ids:List Nat)(a i:Nat):Nat:=if Nat.blt i ids.length then ids.getD i 0 else a+(i - ids.length)
def Lf.view (a:Nat->Option (Bk D)):Lf D->Lf D
 | .own l=>(match a l with
  | some (.row _ d)=> .dat d
  | some (.map d)=> .dat d
  | some (.ve d)=> .dat d
  | _=> .own l)
 | .part l i j c f=>(match a l with
  | some (.row _ d)=>(match f d with
   | some b=> .dat b
   | none=> .any)
  | some (.ve d)=>(match f d with
   | some b=> .dat b
   | none=> .any)
  | _=> .part l i j c f)
 | x=>x
def Sv.view (a:Nat->Option (Bk D)):Sv D->Sv D
 | .lf x=> .lf (x.view a)
 | .agg b=> .agg (b.map (Lf.view a))
def Sl.view (a:Nat->Option (Bk D)):Sl D->Sl D
 | .one x=> .one (x.view a)
 | .tup b=> .tup (b.map (Sv.view a))
def Lf.owns:Lf D->List Nat
 | .own l=>[l]
 | .part l _ _ _ _=>[l]
 | _=>[]
def Sv.owns:Sv D->List Nat
 | .lf x=>x.owns
 | .agg a=>a.flatMap Lf.owns
def Sl.owns:Sl D->List Nat
 | .one x=>x.owns
 | .tup a=>a.flatMap Sv.owns
def Ov (k:Nat):List (Nat×Bk D)->Bool
 | []=>true
 | (i,_)::r=>Nat.blt i (k+64) && Ov k r
def nodupB:List (Nat×Bk D)->Bool
 | []=>true
 | (i,_)::r=> !(r.any fun p=>Nat.beq p.1 i) && nodupB r
def jD:List (Nat×Bk D)->Nat->Option (Bk D)
 | [],_=>none
 | (k,v)::r,n=>if Nat.beq k n then some v else jD r n
def rwD:Option (Bk D)->Option D
 | some (.row _ d)=>some d
 | some (.map d)=>some d
 | _=>none
def jQ (a:Nat->Option (Bk D))(l:Nat):Option (Nat×Option (Bk D)):=
 match rwD (a l)with
 | some d=>some (l,some (.ve d))
 | none=>none
def aqz (a:List (Bk D))(i:Nat):List Nat:=
 match a[i]? with
 | some b=>b.refs
 | none=>[]
def aod (a:List (Bk D))(i:Nat):Bool:=
 match a[i]? with
 | some b=>b.lC
 | none=>false
def yC (b:List (Nat×Bk D))(a:List Nat)(c:List (Bk D))(i:Nat):Option (Bk D):=
 match jD b i with
 | some d=>some d
 | none=>if ql i a then c[i]? else none
def IX (g:Ct D)(c:Nat->Option (Bk D))(e:Nat)(args:List (Sl D))(f:List Nat):Option (Out D):=
 let ids:=reach c 3 (mi [] (args.flatMap Sl.refs))
 match wS c ids with
 | none=>none
 | some d=>
  if allIn ids (args.flatMap Sl.refs) && allIn ids (d.flatMap Bk.refs) && !(f.any fun l=>ql l ids)then
   (match g (args.map (Sl.ren (gZ ids))) (d.map (Bk.ren (gZ ids)))with
   | some (p,r,a,b)=>
    if Ov ids.length a && nodupB a && allIn (a.map (·.1)++b) (a.flatMap fun q=>q.2.refs) && allIn (a.map (·.1)++b) r.refs &&
      allIn (a.map (·.1)++b) (b.flatMap fun i=>aqz (d.map (Bk.ren (gZ ids))) i) && b.all (fun i=>Nat.blt i ids.length && !ql i (a.map (·.1)))then
     some ⟨p,r.ren (backTo ids e),((ids.filter fun l=> !ql (gZ ids l) b).map fun l=>(l,(jD a (gZ ids l)).map (Bk.ren (backTo ids e))))++(a.filter fun q=> !Nat.blt q.1 ids.length).map (fun q=>(backTo ids e q.1,some (q.2.ren (backTo ids e))))++
      (if r.lC || a.any (fun q=>q.2.lC) || b.any (fun i=>aod (d.map (Bk.ren (gZ ids))) i)then f.filterMap (jQ c)else[])⟩
    else none
   | none=>none)
  else none
def VZ (e:FuncId->Option (Ct D))(f:FuncId)(a:Nat->Option (Bk D))(args:List (Sl D))(c:Nat):Option (Out D):=
 match e f with
 | none=>none
 | some d=>
  let b:=args.map Sl.norm
  zl (IX d a c (b.map (Sl.view a)) (mi [] (b.flatMap Sl.owns))) (IX d a c b [])
def SV (a:Nat->Sl D):List Operand->Option (List Nat)
 | []=>some []
 | x::r=>(match aI a x,SV a r with
  | .one (.lf (.ptr l 0)),some b=>some (l::b)
  | _,_=>none)
def WJ (a:Nat->Option (Bk D)):Sl D->Option D
 | .one (.lf (.dat d))=>some d
 | .one (.lf (.own l))=>(match a l with
  | some (.row _ d)=>some d
  | some (.ve d)=>some d
  | _=>none)
 | _=>none
def bM (n bytes:Nat):Prop:=n<=1099511627776/\n*bytes<=140737488355328
instance {n b:Nat}:Decidable (bM n b):=inferInstanceAs (Decidable (_/\_))
def XJ (T:TypeId->Option Ty)(S:Sh D)(c:Nat->Option (Bk D))(b:Nat)(i:Array TypeId)(x y:Sl D):Option (Out D):=
 match i.toList with
 | [t,g]=>if Nat.beq t g then(match T t with
  | none=>none
  | some h=>(match h.elem with
   | none=>none
   | some e=>(match T e with
    | none=>none
    | some a=>(match WJ c y with
     | none=>none
     | some d2=>
      if Nat.beq a.size (S.size d2) && Nat.blt 0 a.size && Nat.beq a.zero.length a.size then(match x with
       | .one (.lf (.val (.slice none 0 0)))=>some ⟨some (dp (bM (S.len d2) a.bytes)), .one (.lf (.own b)),[(b,some (.row e d2))]⟩
       | .one (.lf (.own l))=>(match c l with
        | some (.row f d1)=>if Nat.beq e f then(match S.cat d1 d2 with
         | some d=>some ⟨some (dp (bM (S.len d1+S.len d2) a.bytes)), .one (.lf (.own b)),[(l,none),(b,some (.row e d))]⟩
         | none=>none)else none
        | _=>none)
       | _=>none)else none))))else none
 | _=>none
def asI (T:TypeId->Option Ty)(S:Sh D)(b:Nat)(t:TypeId)(x y:Sl D):Option (Out D):=
 match T t with
 | none=>none
 | some c=>(match c.elem with
  | none=>none
  | some e=>(match T e with
   | none=>none
   | some a=>(match x,y with
    | .one (.lf (.int _ n)), .one (.lf (.int _ m))=>if Nat.blt 0 a.size && Nat.beq a.zero.length a.size then(match S.zero e n.toNat (a.zero.map fun v=>(vk v).norm)with
     | some d=>some ⟨some (dp (n=m/\0<=n/\n*a.bytes<=281474976710656/\n<=1099511627776)), .one (.lf (.own b)),[(b,some (.row e d))]⟩
     | none=>none)else none
    | _,_=>none)))
def age (T:TypeId->Option Ty)(t:TypeId)(x i:Sl D):Option (Out D):=
 match T t with
 | none=>none
 | some a=>(match x,i with
  | .one (.lf (.str s)), .one (.lf (.int _ n))=>if a.kind==3 then kN (some (dp (0<=n/\n < s.length))) (.int .u8 (s.getD n.toNat 0).toNat)else none
  | _,_=>none)
def ap9 (T:TypeId->Option Ty)(src a:TypeId)(x:Sl D):Option (Out D):=
 match T src,T a,x with
 | some _,some b, .one (.lf (.int _ n))=>(match am_ b.kind with
  | some k=>kN none (.int k (wrp k n))
  | none=>none)
 | _,_,_=>none
def bnd (n:Nat):Option (Sl D)->Option Int
 | none=>some n
 | some (.one (.lf (.int _ i)))=>some i
 | some _=>none
def aft (T:TypeId->Option Ty)(S:Sh D)(f:Nat->Option (Bk D))(t:TypeId)(x:Sl D)(g c:Option (Sl D)):Option (Out D):=
 match T t with
 | none=>none
 | some b=>(match bnd 0 g with
  | none=>none
  | some l=>(match x with
   | .one (.lf (.str s))=>if b.kind==3 then(match bnd s.length c with
    | some h=>kN (some (dp (0<=l/\l<=h/\h<=s.length))) (.str ((s.take h.toNat).drop l.toNat))
    | none=>none)else none
   | .one (.lf (.dat d))=>(match b.elem with
    | none=>none
    | some e=>(match T e with
     | none=>none
     | some a=>if Nat.beq a.size (S.size d) && Nat.blt 0 a.size then(match bnd (S.len d) c with
      | some h=>(match S.sub d l.toNat h.toNat with
       | some i=>kN (some (dp (0<=l/\l<=h/\h<=S.len d))) (.dat i)
       | none=>none)
      | none=>none)else none))
   | .one (.lf (.own q))=>(match b.elem with
    | none=>none
    | some e=>(match T e with
     | none=>none
     | some a=>(match f q with
      | some (.row _ d)=>(match bnd (S.len d) c with
       | some h=>kN (some (dp (0<=l/\l<=h/\h<=S.len d))) (.part q l.toNat h.toNat a.size (VI S a.size l.toNat h.toNat))
       | none=>none)
      | _=>none)))
   | _=>none))
def arn (T:TypeId->Option Ty)(S:Sh D)(b:Nat->Option (Bk D))(h:Array TypeId)(x y:Sl D):Option (Out D):=
 match h.toList with
 | [t,f]=>if Nat.beq t f then(match T t with
  | none=>none
  | some g=>(match g.elem with
   | none=>none
   | some e=>(match T e with
    | none=>none
    | some a=>(match x,y with
     | .one (.lf (.own l)), .one (.lf (.dat d2))=>(match b l with
      | some (.row c d1)=>if Nat.beq e c && (Nat.beq a.size (S.size d1) && (Nat.beq a.size (S.size d2) && Nat.blt 0 a.size))then
       (match S.sub d2 0 (min (S.len d2) (S.len d1)),S.sub d1 (min (S.len d2) (S.len d1)) (S.len d1)with
       | some p,some q=>(match S.cat p q with
        | some d=>some ⟨none, .one (.lf (.int .i64 (min (S.len d2) (S.len d1):Nat))),[(l,some (.row e d))]⟩
        | none=>none)
       | _,_=>none)else none
      | _=>none)
     | _,_=>none))))else none
 | _=>none
def isCells:Option (Bk D)->Bool
 | some (.cells _)=>true
 | _=>false
def xOp (T:TypeId->Option Ty)(S:Sh D)(z:FuncId->Option (Ct D))(e:Nat->Sl D)(g:Nat->Option (Bk D))(k:Nat)(o:Op):Option (Out D):=
 match o with
 | .move x=>some ⟨none,aI e x,[]⟩
 | .assign x=>some ⟨none,aI e x,[]⟩
 | .pick c a b=>asE e c a b
 | .alloc t=>(match T t with
  | some q=>some ⟨none, .one (.lf (.ptr k 0)),[(k,some (.cells (q.zero.map vk)))]⟩
  | none=>none)
 | .box _ x=>(match aI e x with
  | .one u=>if u.whole then some ⟨none, .one (.lf (.ptr k 0)),[(k,some (.cells u.cells))]⟩else none
  | _=>none)
 | .build t parts=>aeO T e t parts
 | .buildSlice t n parts=>aCo T S e k t n parts
 | .load t x=>LH T S g t (aI e x)
 | .store t x y=>Ym T S g t (aI e x) (aI e y)
 | .nilCheck x=>(match aI e x with
  | .one (.lf (.ptr l o))=>kN none (.ptr l o)
  | .one (.lf (.elt d i j))=>kN none (.elt d i j)
  | .one (.lf (.opt l i j s))=>kN none (.opt l i j s)
  | .one (.lf (.fn f h))=>kN none (.fn f h)
  | _=>none)
 | .binOp m t x y _=>zl (aiA T S m t (aI e x) (aI e y)) (aDm T m t (aI e x) (aI e y))
 | .unOp m _ x=>xUn m (aI e x)
 | .fieldAddr t x f=>BD T t (aI e x) f
 | .field t x f=>ajx T t (aI e x) f
 | .indexAddr t x i=>agx T S g t (aI e x) (aI e i)
 | .extract x i=>S_ (aI e x) i
 | .call c=>(match c.callee with
  | .builtin .len=>(match c.args.toList with
   | [x]=>aDK S T g c.argTypes (aI e x)
   | _=>none)
  | .builtin .min=>(match c.args.toList with
   | [x,y]=>avZ .min (aI e x) (aI e y)
   | _=>none)
  | .builtin .max=>(match c.args.toList with
   | [x,y]=>avZ .max (aI e x) (aI e y)
   | _=>none)
  | .builtin .append=>(match c.args.toList with
   | [x,y]=>XJ T S g k c.argTypes (aI e x) (aI e y)
   | _=>none)
  | .builtin .copy=>(match c.args.toList with
   | [x,y]=>arn T S g c.argTypes (aI e x) (aI e y)
   | _=>none)
  | .value f=>(match aI e f with
   | .one (.lf (.fn f h))=>if h.all (fun l=>isCells (g l))then VZ z f g (c.args.toList.map (aI e)++h.map fun l=> .one (.lf (.ptr l 0))) k else none
   | _=>none)
  | _=>none)
 | .makeFunc (.func f) first h=>if first.isEmpty then(match SV e h.toList with
  | some w=>kN none (.fn f w)
  | none=>none)else none
 | .makeSlice t x y=>asI T S k t (aI e x) (aI e y)
 | .index t x i=>age T t (aI e x) (aI e i)
 | .convert src p x=>ap9 T src p (aI e x)
 | .slice t x v r none=>aft T S g t (aI e x) (v.map (aI e)) (r.map (aI e))
 | _=>none
end
end Go.Vc
