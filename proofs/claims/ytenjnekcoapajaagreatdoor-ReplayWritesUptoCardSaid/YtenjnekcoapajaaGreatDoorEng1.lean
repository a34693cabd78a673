/- Own engine: Vd1, Vd2, Vd3. -/
import Derived.WalkKit
import Derived.Deep.LoopGhost
import Derived.Orders
import Derived.IntWalk
import Derived.KernelRfl
set_option linter.unusedVariables false
set_option linter.unusedSimpArgs false
namespace Go.Vc
abbrev Qa:=@Nat.eq_of_beq_eq_true
abbrev iZ:=@Bool.and_eq_true
abbrev qA:=@Int.toNat_natCast
abbrev uX:=@List.length_append
abbrev pO:=@decide_eq_false
abbrev lL:=@cond_false
abbrev vO:=@List.mem_append
abbrev pJ:=@Nat.le_refl
abbrev wz:=@decide_eq_true
abbrev Dt:=@of_decide_eq_true
abbrev yw:=@List.mem_cons
abbrev Gv:=@List.take_length
abbrev Iq:=@List.length_take
abbrev JV:=@List.length_cons
abbrev Qan:=@List.eq_nil_of_length_eq_zero
abbrev Bc:=@Nat.zero_add
abbrev QZ:=@List.mem_singleton
abbrev Du:=@Nat.le_trans
abbrev Xh:=@decide_eq_true_eq
abbrev Qas:=@List.getElem?_eq_getElem
abbrev Qat:=@Nat.le_of_ble_eq_true
abbrev XM:=@Option.some.injEq
abbrev Yt:=@List.append_assoc
abbrev Gw:=@Nat.zero_le
abbrev Qax:=@List.mem_cons_of_mem
abbrev Z8:=@Bool.cond_eq_ite
abbrev Qp:=@List.map_cons
abbrev Qa0:=@Int.eq_ofNat_of_zero_le
abbrev Qa1:=@List.mem_flatMap
abbrev QH:=@List.mem_map
abbrev Qa3:=@List.take_append_drop
abbrev N8:=@Int.le_refl
abbrev Qa5:=@List.append_nil
abbrev Qa6:=@List.pairwise_cons
abbrev Qa7:=@List.length_nil
abbrev XE:=@Nat.add_zero
abbrev uU:=@if_neg
abbrev Qb:=@List.all_eq_true
abbrev Qba:=@List.mem_cons_self
abbrev Qbb:=@List.mem_filter
abbrev Qbc:=@List.getElem?_eq_some_iff
abbrev vJ:=@if_pos
abbrev Qbe:=@List.not_mem_nil
abbrev Qbf:=@Bool.not_eq_true'
abbrev Qbg:=@Nat.lt_of_lt_of_le
abbrev II:=@congrArg
abbrev Qbi:=@Bool.or_eq_true
abbrev Qbj:=@Option.isSome_iff_exists
abbrev Qbk:=@Prod.mk.injEq
abbrev Qbl:=@List.map_congr_left
abbrev Qbm:=@Option.map_some
abbrev Qbn:=@List.cons_append
abbrev Qbo:=@List.getElem?_append_right
abbrev Qbp:=@List.forall_mem_cons
abbrev Qbq:=@List.drop_eq_getElem_cons
abbrev Qbr:=@of_decide_eq_false
abbrev Qbs:=@List.any_eq_true
abbrev Qbt:=@Bool.false_eq_true
abbrev Qbu:=@List.mem_iff_getElem
abbrev Qbv:=@Bool.not_true
abbrev Qbw:=@beq_iff_eq
abbrev Qbx:=@List.length_map
abbrev Qby:=@Nat.mul_comm
abbrev Qbz:=@List.mem_of_getElem?
abbrev Qb0:=@List.append_eq_nil_iff
abbrev Qb1:=@List.getElem?_map
abbrev Qb2:=@List.take_of_length_le
abbrev Qb3:=@Option.map_eq_some_iff
abbrev Qb4:=@Option.map_none
abbrev Qb5:=@UInt8.toNat_inj
abbrev Qb6:=@List.pairwise_iff_getElem
abbrev Qb7:=@Eq.trans
abbrev Qb8:=@List.length_singleton
abbrev Qb9:=@List.mem_append_right
abbrev Qc:=@List.drop_length
abbrev Qca:=@List.length_drop
abbrev Qcb:=@List.map_toArray
abbrev Qcc:=@Bool.or_eq_false_iff
abbrev Qcd:=@List.mem_range
abbrev Qce:=@Nat.mul_le_mul_right
abbrev Qcf:=@List.getElem?_cons_zero
abbrev Qcg:=@List.take_add_one
abbrev Qch:=@List.getD_cons_succ
abbrev Qci:=@List.getD_cons_zero
abbrev Qcj:=@List.length_pos_iff
abbrev Qck:=@List.take_succ_cons
abbrev Qcl:=@Nat.two_pow_add_eq_or_of_lt
abbrev Qcm:=@List.all_cons
abbrev Qcn:=@Nat.lt_succ_self
abbrev Qco:=@List.filter_append
abbrev Qcp:=@Nat.blt_eq
abbrev Qcq:=@Nat.lt_of_le_of_lt
abbrev Qcr:=@Prod.ext
abbrev Qcs:=@Classical.choose_spec
abbrev Qct:=@List.map_append
abbrev Qcu:=@List.map_nil
abbrev Qcv:=@List.mem_append_left
abbrev Qcw:=@List.mem_of_mem_take
abbrev Qcx:=@Nat.pow_le_pow_right
abbrev Qcy:=@Nat.mul_le_mul_left
abbrev Qcz:=@beq_eq_false_iff_ne
abbrev Qc0:=@Bool.not_eq_true
abbrev Qc1:=@List.drop_left
abbrev Qc2:=@List.pairwise_singleton
abbrev Qc3:=@Nat.and_two_pow_sub_one_eq_mod
abbrev Qc4:=@Nat.mod_eq_of_lt
abbrev Qc5:=@List.map_map
abbrev Qc6:=@List.mem_filterMap
abbrev Qc7:=@Nat.mod_lt
abbrev Qc8:=@Nat.pow_succ
abbrev Qc9:=@Bool.eq_iff_iff
abbrev Qd:=@List.nil_append
abbrev Qda:=@List.any_cons
abbrev Qdb:=@Bool.and_eq_false_iff
abbrev Qdc:=@List.flatMap_cons
abbrev Qdd:=@List.take_sublist_take_left
abbrev Qde:=@List.take_left
abbrev Qdf:=@Nat.le_of_eq
abbrev Qdg:=@Option.getD_some
abbrev Qdh:=@Array.mapM_eq_mapM_toList
abbrev Qdi:=@List.getElem?_append_left
abbrev Qdj:=@List.filterMap_cons
abbrev Qdk:=@List.cons.injEq
abbrev Qdl:=@List.length_set
abbrev Qdm:=@Nat.min_eq_left
abbrev Qdn:=@Option.some.inj
abbrev Qdo:=@Nat.xor_lt_two_pow
abbrev Qdp:=@bne_iff_ne
abbrev Qdq:=@List.filter_cons_of_pos
abbrev Qdr:=@List.nodup_nil
abbrev Qds:=@List.take_zero
abbrev Qdt:=@Nat.add_comm
abbrev Qdu:=@Nat.lt_or_ge
abbrev Qdv:=@Nat.lt_trans
abbrev Qdw:=@Array.getElem?_modify
abbrev Qdx:=@List.concat_eq_append
abbrev Qdy:=@List.eq_nil_or_concat
abbrev Qdz:=@UInt8.lt_iff_toNat_lt
abbrev Qd0:=@Bool.false_or
abbrev Qd1:=@Bool.and_eq_true_iff
abbrev Qd2:=@Nat.eq_of_testBit_eq
abbrev Qd3:=@Nat.mul_one
abbrev Qd4:=@Array.length_toList
abbrev Qd5:=@List.getElem?_drop
abbrev Qd6:=@List.getElem?_take
abbrev Qd7:=@Option.toList_some
abbrev Qd8:=@List.map_id
abbrev Qd9:=@List.take_set
abbrev Qe:=@Nat.add_assoc
theorem aj{p:Prop}(h:p:=by omega):p:=h
theorem kM{p:Prop}(h:p:=by simp only[Dw];omega):p:=h
theorem dm{p:Prop}(h:p:=by grind):p:=h
theorem dH{p:Prop}(h:p:=by decide):p:=h
theorem jQ{p:Prop}(h:p:=by simp):p:=h
theorem vH{p:Prop}(h:p:=by simp;omega):p:=h
theorem qa2{p:Prop}(h:p:=by rintro rfl;exact hfr _ (pJ _) (by omega) (h.al _ _ hl)):p:=h
theorem qa4{p:Prop}(h:p:=by simpa using h):p:=h
theorem qbb{p:Prop}(h:p:=by simpa using hj):p:=h
theorem qbd{p:Prop}(h:p:=by simpa using lift (a1:=[]) b2 _ fun x hx=>by grind):p:=h
theorem qbe{p:Prop}(h:p:=by simp[Lf.refs]):p:=h
theorem qbi{p:Prop}(h:p:=by simp only[Iq];omega):p:=h
theorem qbo{p:Prop}(h:p:=by rw[hb];rfl):p:=h
theorem qbp{p:Prop}(h:p:=by simpa[slotsIn]using hw):p:=h
theorem qbq{p:Prop}(h:p:=by simp[execOp,ho,hc,asBool]):p:=h
theorem qbt{p:Prop}(h:p:=by simpa using h1):p:=h
theorem qbu{p:Prop}(h:p:=by simp[hl]):p:=h
theorem qbv{p:Prop}(h:p:=by rw[hsz];omega):p:=h
theorem qbw{p:Prop}(h:p:=by assumption):p:=h
theorem qbx{p:Prop}(h:p:=by simp_all):p:=h
theorem qby{p:Prop}(h:p:=by simpa using hx):p:=h
theorem qb0{p:Prop}(h:p:=by rw[e];rfl):p:=h
open Go.RowKit
inductive Pv where
 | bool (b:Bool)
 | int (k:IntKind) (n:Int)
 | str (s:List UInt8)
structure Ifc where
 t:TypeId
 agg:Bool
 xs:List Pv
def Pv.val:Pv->Value
 | .bool b=> .bool b
 | .int k n=> .int k n
 | .str s=> .string ⟨s.toArray⟩
def Ifc.inner (i:Ifc):Value:=
 match i.agg,i.xs with
 | false,[x]=>x.val
 | _,a=> .agg (a.map Pv.val).toArray
def ajT:Option Ifc->Value
 | none=> .nilIface
 | some i=> .iface i.t i.inner
def Pv.fits:Pv->Prop
 | .str s=>s.length<=9223372036854775807
 | _=>True
def aBt:Option Ifc->Prop
 | none=>True
 | some i=>∀p∈i.xs,p.fits
inductive Dl (D:Type):Type where
 | bool (b:Bool)
 | int (k:IntKind) (n:Int)
 | str (s:List UInt8)
 | dat (d:D)
 | axs
inductive Xt (D:Type):Type where
 | ifd (t:TypeId) (agg:Bool) (xs:List (Dl D))
 | clo (f:FuncId) (agg:Bool) (xs:List (Dl D))
 | clip (d:D)
inductive Lf (D:Type):Type where
 | any
 | val (v:Value)
 | bool (b:Bool)
 | int (k:IntKind) (n:Int)
 | str (s:List UInt8)
 | ptr (l off:Nat)
 | dat (d:D)
 | elt (d:D) (i j:Nat)
 | fn (f:FuncId) (caps:List Nat)
 | own (l:Nat)
 | opt (l i j sz:Nat)
 | unk (p:Bool->Prop)
 | part (l i j sz:Nat) (f:D->Option D)
 | glb (i:Nat)
 | Xw (v:Option Ifc)
 | xt (e:Xt D)
inductive Bk (D:Type):Type where
 | cells (cs:List (Lf D))
 | row (e:TypeId) (d:D)
 | wY (d:D)
 | iter (s:List UInt8) (pos:Nat)
 | map (d:D)
 | tc (t:TypeId) (cs:List (Lf D))
inductive Sv (D:Type):Type where
 | lf (x:Lf D)
 | agg (xs:List (Lf D))
inductive Sl (D:Type):Type where
 | one (x:Sv D)
 | Dh (xs:List (Sv D))
structure Mp (D:Type) where
 kind:Nat
 agg:Bool
 zero:List Pv
 kvs:List (Pv×List Pv)
 has:Pv->Bool
 get:Pv->List (Lf D)
 put:Pv->List Pv->D
 len:Nat
structure Sh (D:Type) where
 size:D->Nat
 len:D->Nat
 cell:D->Nat->Nat->Lf D
 make:TypeId->Nat->List (Lf D)->Option D
 zero:TypeId->Nat->List (Lf D)->Option D
 set:D->Nat->Nat->List (Lf D)->Option D
 cat:D->D->Option D
 sub:D->Nat->Nat->Option D
 MB:Nat->Option D
 text:TypeId->List UInt8->Option D
 mp:D->Option (Mp D):=fun _=>none
 run:Bool:=false
 aqM:TypeId->Option D:=fun _=>none
def qH (b:Bool)(a:List Pv):Value:=
 match b,a with
 | false,[x]=>x.val
 | _,a=> .agg (a.map Pv.val).toArray
def awM (w:World)(d:Bool)(a:List (Pv×List Pv))(v:Value):Prop:=
 (∀p∈a,p.1.fits/\∀x∈p.2,x.fits)/\((v= .map none/\a=[])\/
  ∃b c n,v= .map (some b)/\w.heap[b]? =some (.map c n)/\c.toList.map (fun e=>(e.key,e.val))=a.map fun p=>(p.1.val,qH d p.2))
def aab {D:Type}(S:Sh D)(a i j:Nat)(d:D):Option D:=if Nat.beq a (S.size d)then S.sub d i j else none
def Lf.plain {D:Type}:Lf D->Value->Prop
 | .val x,u=>u=x
 | .bool b,u=>u= .bool b
 | .int k n,u=>u= .int k n
 | .str s,u=>u= .string ⟨s.toArray⟩/\s.length<=9223372036854775807
 | .dat _,_=>True
 | .Xw v,u=>u=ajT v/\aBt v
 | _,_=>False
inductive CS {D:Type} (S:Sh D) (w:World):D->Value->Prop where
 | mp (d:D) (m:Mp D) (v:Value) (hm:S.mp d=some m) (hl:S.len d=0) (hz:S.size d=0) (h:awM w m.agg m.kvs v):CS S w d v
 | mk (d:D) (hno:S.mp d=none) (a:Option Addr) (cap:Nat) (U:Nat->Nat->Value) (hcap:S.len d<=cap) (hlen:S.len d<=9223372036854775807)
   (hcell:∀i j,i < S.len d->j < S.size d->∃ad,a=some ad/\w.cell? (ad.add (i*S.size d+j))=some (U i j))
   (hpl:∀i j,i < S.len d->j < S.size d->Lf.plain (S.cell d i j) (U i j))
   (hdat:∀i j d',i < S.len d->j < S.size d->S.cell d i j= .dat d'->CS S w d' (U i j)):CS S w d (.slice a (S.len d) cap)
def bW {D:Type}(S:Sh D)(M:Nat->Prop)(w:World)(d:D)(v:Value):Prop:=
 ∀w':World,(∀b,b < w.heap.size->¬M b->w'.heap[b]? =w.heap[b]?)->CS S w' d v
def Lf.jr {D:Type}:Lf D->Bool
 | .bool _ | .int _ _ | .str _ | .dat _ | .Xw _=>true
 | _=>false
def Dl.Rel {D:Type}(S:Sh D)(M:Nat->Prop)(w:World):Dl D->Value->Prop
 | .bool b,v=>v= .bool b
 | .int k n,v=>v= .int k n
 | .str s,v=>v= .string ⟨s.toArray⟩/\s.length<=9223372036854775807
 | .dat d,v=>bW S M w d v
 | .axs,v=>v= .slice none 0 0
def ul {D:Type}(S:Sh D)(M:Nat->Prop)(w:World):List (Dl D)->List Value->Prop
 | [],[]=>True
 | x::a,v::b=>x.Rel S M w v/\ul S M w a b
 | _,_=>False
def Ou {D:Type}(S:Sh D)(M:Nat->Prop)(w:World):Bool->List (Dl D)->Value->Prop
 | false,[x],u=>x.Rel S M w u
 | true,b,u=>∃a:List Value,u= .agg a.toArray/\ul S M w b a
 | _,_,_=>False
def Xt.Rel {D:Type}(S:Sh D)(M:Nat->Prop)(w:World):Xt D->Value->Prop
 | .ifd t c b,v=>∃u,v= .iface t u/\Ou S M w c b u
 | .clo f c b,v=>∃u,v= .func (.func f) #[u] #[]/\Ou S M w c b u
 | .clip d,v=>∃a,v= .slice a (S.len d) (S.len d)/\bW S M w d v
def Lf.Rel {D:Type}(S:Sh D)(M:Nat->Prop)(w:World)(g:Nat->Option Value):Lf D->Value->Prop
 | .any,_=>True
 | .val x,v=>v=x
 | .bool b,v=>v= .bool b
 | .int k n,v=>v= .int k n
 | .str s,v=>v= .string ⟨s.toArray⟩/\s.length<=9223372036854775807
 | .ptr l o,v=>∃b,g l=some (.pointer (some ⟨b,0,none⟩))/\v= .pointer (some ⟨b,o,none⟩)
 | .dat d,v=>bW S M w d v
 | .elt d i j,v=>∃a n c,bW S M w d (.slice (some a) n c)/\i < S.len d/\v= .pointer (some (a.add (i*S.size d+j)))
 | .fn f m,v=>∃q:List Value,v= .func (.func f) #[] q.toArray/\m.map g=q.map some
 | .own l,v=>g l=some v
 | .opt l i j h,v=>∃b n c,g l=some (.slice (some ⟨b,0,none⟩) n c)/\v= .pointer (some ⟨b,i*h+j,none⟩)
 | .unk p,v=>∃b,v= .bool b/\p b
 | .part l i j h f,v=>∃a n c,g l=some (.slice a n c)/\v=sliced a i j c h/\i<=j/\j<=n/\f=aab S h i j
 | .glb i,v=>v= .pointer (some ⟨i,0,none⟩)
 | .Xw x,v=>v=ajT x/\aBt x
 | .xt e,v=>e.Rel S M w v
def aW {D:Type}(S:Sh D)(M:Nat->Prop)(w:World)(g:Nat->Option Value):List (Lf D)->List Value->Prop
 | [],[]=>True
 | x::b,v::a=>x.Rel S M w g v/\aW S M w g b a
 | _,_=>False
def Sv.Rel {D:Type}(S:Sh D)(M:Nat->Prop)(w:World)(g:Nat->Option Value):Sv D->Value->Prop
 | .lf x,v=>x.Rel S M w g v
 | .agg b,v=>∃a:List Value,v= .agg a.toArray/\aW S M w g b a
def fP {D:Type}(S:Sh D)(M:Nat->Prop)(w:World)(g:Nat->Option Value):List (Sv D)->List Value->Prop
 | [],[]=>True
 | x::b,v::a=>x.Rel S M w g v/\fP S M w g b a
 | _,_=>False
def Sl.Rel {D:Type}(S:Sh D)(M:Nat->Prop)(w:World)(g:Nat->Option Value):Sl D->Value->Prop
 | .one x,v=>x.Rel S M w g v
 | .Dh b,v=>∃a:List Value,v= .tuple a.toArray/\fP S M w g b a
structure Keeps (M:Nat->Prop)(w:World)(M':Nat->Prop)(w':World):Prop where
 size:w.heap.size<=w'.heap.size
 same:∀b,b < w.heap.size->¬M b->¬M' b/\w'.heap[b]? =w.heap[b]?
section
variable {D:Type}{S:Sh D}{M M':Nat->Prop}{w w':World}{g g':Nat->Option Value}
theorem bW.keep {d:D}{v:Value}(h:bW S M w d v)(k:Keeps M w M' w'):bW S M' w' d v:=fun c f=>
 h c fun b a e=>(f b (Qbg a k.size) (k.same b a e).1).trans (k.same b a e).2
theorem Dl.Rel.keep {x:Dl D}{v:Value}(h:x.Rel S M w v)(k:Keeps M w M' w'):x.Rel S M' w' v:=by
 cases x with
 | dat d=>exact bW.keep h k
 | _=>exact h
theorem ul.keep:∀{b:List (Dl D)} {a:List Value},ul S M w b a->Keeps M w M' w'->ul S M' w' b a
 | [],[],_,_=>trivial
 | x::b,v::a,h,k=>⟨h.1.keep k,ul.keep h.2 k⟩
theorem Ou.keep:∀{b:Bool} {a:List (Dl D)} {u:Value},Ou S M w b a u->Keeps M w M' w'->Ou S M' w' b a u
 | false,[x],u,h,k=>Dl.Rel.keep h k
 | true,a,u,h,k=>by obtain⟨d,c,e⟩:=h;exact⟨d,c,e.keep k⟩
theorem Xt.Rel.keep {e:Xt D}{v:Value}(h:e.Rel S M w v)(k:Keeps M w M' w'):e.Rel S M' w' v:=by
 cases e with
 | ifd t i g=>obtain⟨u,b,c⟩:=h;exact⟨u,b,c.keep k⟩
 | clo f i g=>obtain⟨u,b,c⟩:=h;exact⟨u,b,c.keep k⟩
 | clip d=>obtain⟨a,b,c⟩:=h;exact⟨a,b,bW.keep c k⟩
theorem bW.mono {d:D}{v:Value}{a:Nat->Prop}(h:bW S M w d v)(i:∀b,a b->M b):bW S a w d v:=fun c f=>h c fun b j g=>f b j fun e=>g (i b e)
theorem Dl.Rel.mono {a:Nat->Prop}{x:Dl D}{v:Value}(h:x.Rel S M w v)(c:∀b,a b->M b):x.Rel S a w v:=by
 cases x with
 | dat d=>exact bW.mono h c
 | _=>exact h
theorem ul.mono {a:Nat->Prop}(e:∀b,a b->M b):∀{d:List (Dl D)} {c:List Value},ul S M w d c->ul S a w d c
 | [],[],_=>trivial
 | x::d,v::c,h=>⟨h.1.mono e,ul.mono e h.2⟩
theorem Ou.mono {a:Nat->Prop}(e:∀b,a b->M b):∀{d:Bool} {c:List (Dl D)} {u:Value},Ou S M w d c u->Ou S a w d c u
 | false,[x],u,h=>Dl.Rel.mono h e
 | true,c,u,h=>by obtain⟨g,f,i⟩:=h;exact⟨g,f,i.mono e⟩
theorem Xt.Rel.mono {g:Nat->Prop}{e:Xt D}{v:Value}(h:e.Rel S M w v)(j:∀b,g b->M b):e.Rel S g w v:=by
 cases e with
 | ifd t l k=>obtain⟨u,c,i⟩:=h;exact⟨u,c,i.mono j⟩
 | clo f l k=>obtain⟨u,c,i⟩:=h;exact⟨u,c,i.mono j⟩
 | clip d=>obtain⟨a,c,i⟩:=h;exact⟨a,c,bW.mono i j⟩
def ac4 (S:Sh D)(M:Nat->Prop)(w:World):Prop:=∀i d,S.MB i=some d->bW S M w d (.slice (some ⟨i,0,none⟩) (S.len d) (S.len d))
theorem ac4.keep (h:ac4 S M w)(k:Keeps M w M' w'):ac4 S M' w':=fun i d a=>(h i d a).keep k
theorem ac4.mono {a:Nat->Prop}(h:ac4 S M w)(e:∀b,a b->M b):ac4 S a w:=fun i d c=>(h i d c).mono e
def More (g a:Nat->Option Value):Prop:=∀l v,g l=some v->a l=some v
theorem More.refl (g:Nat->Option Value):More g g:=fun _ _ h=>h
theorem More.map:∀{a:List Nat} {b:List Value},More g g'->a.map g=b.map some->a.map g'=b.map some
 | [],[],_,_=>rfl
 | c::a,v::b,m,h=>by
  simp only[Qp,Qdk]at h⊢;exact⟨m _ _ h.1,More.map m h.2⟩
 | [],_::_,_,h=>by simp at h
 | _::_,[],_,h=>by simp at h
theorem Lf.Rel.keep {x:Lf D}{v:Value}(h:x.Rel S M w g v)(k:Keeps M w M' w')(m:More g g'):x.Rel S M' w' g' v:=by
 cases x with
 | any=>trivial
 | val x=>exact h
 | bool b=>exact h
 | int k n=>exact h
 | str s=>exact h
 | ptr l o=>obtain⟨b,c,q⟩:=h;exact⟨b,m _ _ c,q⟩
 | dat d=>exact bW.keep h k
 | elt d i j=>obtain⟨a,n,r,c,q⟩:=h;exact⟨a,n,r,c.keep k,q⟩
 | fn f u=>obtain⟨t,c,q⟩:=h;exact⟨t,c,More.map m q⟩
 | own l=>exact m _ _ h
 | opt l i j y=>obtain⟨b,n,r,c,q⟩:=h;exact⟨b,n,r,m _ _ c,q⟩
 | unk p=>exact h
 | part l i j y f=>obtain⟨a,n,r,c,q⟩:=h;exact⟨a,n,r,m _ _ c,q⟩
 | glb i=>exact h
 | Xw x=>exact h
 | xt e=>exact Xt.Rel.keep h k
theorem aW.keep:∀{b:List (Lf D)} {a:List Value},aW S M w g b a->Keeps M w M' w'->More g g'->aW S M' w' g' b a
 | [],[],_,_,_=>trivial
 | x::b,v::a,h,k,m=>⟨h.1.keep k m,aW.keep h.2 k m⟩
theorem aW.length:∀{a:List (Lf D)} {b:List Value},aW S M w g a b->a.length=b.length
 | [],[],_=>rfl
 | _::_,_::_,h=>by simp[aW.length h.2]
theorem aW.get:∀{b:List (Lf D)} {a:List Value} (i:Nat) {x:Lf D},aW S M w g b a->b[i]? =some x->∃v,a[i]? =some v/\x.Rel S M w g v
 | [],[],i,x,_,h=>by simp at h
 | y::b,v::a,0,x,h,e=>⟨v,rfl,by simp at e;exact e▸h.1⟩
 | y::b,v::a,i+1,x,h,e=>by simpa using aW.get i h.2 (by simpa using e)
theorem Sv.Rel.keep {x:Sv D}{v:Value}(h:x.Rel S M w g v)(k:Keeps M w M' w')(m:More g g'):x.Rel S M' w' g' v:=by
 cases x with
 | lf x=>exact Lf.Rel.keep h k m
 | agg c=>obtain⟨a,rfl,b⟩:=h;exact⟨a,rfl,b.keep k m⟩
theorem fP.keep:∀{b:List (Sv D)} {a:List Value},fP S M w g b a->Keeps M w M' w'->More g g'->fP S M' w' g' b a
 | [],[],_,_,_=>trivial
 | x::b,v::a,h,k,m=>⟨h.1.keep k m,fP.keep h.2 k m⟩
theorem fP.get:∀{b:List (Sv D)} {a:List Value} (i:Nat) {x:Sv D},fP S M w g b a->b[i]? =some x->∃v,a[i]? =some v/\x.Rel S M w g v
 | [],[],i,x,_,h=>by simp at h
 | y::b,v::a,0,x,h,e=>⟨v,rfl,by simp at e;exact e▸h.1⟩
 | y::b,v::a,i+1,x,h,e=>by simpa using fP.get i h.2 (by simpa using e)
theorem fP.length:∀{a:List (Sv D)} {b:List Value},fP S M w g a b->a.length=b.length
 | [],[],_=>rfl
 | _::_,_::_,h=>by simp[fP.length h.2]
theorem Sl.Rel.keep {x:Sl D}{v:Value}(h:x.Rel S M w g v)(k:Keeps M w M' w')(m:More g g'):x.Rel S M' w' g' v:=by
 cases x with
 | one x=>exact Sv.Rel.keep h k m
 | Dh c=>obtain⟨a,rfl,b⟩:=h;exact⟨a,rfl,b.keep k m⟩
theorem bW.cell {d:D}{a:Addr}{n z i j:Nat}(h:bW S M w d (.slice (some a) n z))(hi:i < S.len d)(hj:j < S.size d):
  ∃u,w.cell? (a.add (i*S.size d+j))=some u/\(S.cell d i j).Rel S M w g u:=by
 classical
 let r:World:={w with heap:=(Array.range w.heap.size).map fun b=>if M b then Obj.map #[] 0 else(w.heap[b]?).getD (Obj.map #[] 0)}
 have B:∀b,b < w.heap.size->¬M b->r.heap[b]? =w.heap[b]? :=by
  grind
 have A:∀p:Addr,(r.cell? p).isSome=true->p.block < w.heap.size/\¬M p.block:=by
  intro p L;simp only[World.cell?,r]at L
  grind
 have q:∀w':World,(∀b,b < w.heap.size->¬M b->w'.heap[b]? =w.heap[b]?)->∃u,w'.cell? (a.add (i*S.size d+j))=some u/\Lf.plain (S.cell d i j) u/\∀t,S.cell d i j= .dat t->CS S w' t u:=by
  intro w' y;generalize hv:Value.slice (some a) n z=v at h;have G:=h w' y;cases G with
  | mp d m v E hl Y h=>omega
  | mk d V a' J U P K F c N=>
   grind
 obtain⟨Z,C,_⟩:=q r B;obtain⟨Q,E⟩:=A _ (by rw[C];rfl);obtain⟨u,I,c,W⟩:=q w (fun _ _ _=>rfl);refine⟨u,I,?_⟩;generalize hx:S.cell d i j=x at*;cases x with
 | val x=>exact c
 | bool b=>exact c
 | int k n=>exact c
 | str s=>exact c
 | dat t=>
  intro w' y;obtain⟨R,X,_,H⟩:=q w' y;have:R=u:=by
   have e:w'.cell? (a.add (i*S.size d+j))=w.cell? (a.add (i*S.size d+j)):=by
    simp only[World.cell?,y _ Q E]
   grind
  grind
 | any=>exact c.elim
 | ptr l o=>exact c.elim
 | elt t i' j'=>exact c.elim
 | fn f T=>exact c.elim
 | own l=>exact c.elim
 | opt l i j O=>exact c.elim
 | unk p=>exact c.elim
 | part l i j O f=>exact c.elim
 | glb i=>exact c.elim
 | Xw x=>exact c
 | xt e=>exact c.elim
theorem bW.slice {d:D}{v:Value}(h:bW S M w d v)(p:0 < S.size d):∃a b,v= .slice a (S.len d) b/\S.len d<=b:=by
 have e:=h w (fun _ _ _=>rfl);cases e with
 | mp d m v n o k h=>omega
 | mk d j a b U i f c l g=>grind
theorem bW.slice' {d:D}{v:Value}(h:bW S M w d v)(p:S.mp d=none):∃a b,v= .slice a (S.len d) b/\S.len d<=b:=by
 have e:=h w (fun _ _ _=>rfl);cases e with
 | mp d m v n o k h=>grind
 | mk d j a b U i f c l g=>grind
theorem bW.form {d:D}{v:Value}(h:bW S M w d v):(∃a c,v= .slice a (S.len d) c)\/∃r,v= .map r:=by
 have f:=h w (fun _ _ _=>rfl);cases f with
 | mp d m v o p l h=>rcases h.2 with⟨h,_⟩ | ⟨b,_,_,h,_⟩<;>exact .inr ⟨_,h⟩
 | mk d k a c U j g e n i=>grind
theorem bW.map {d:D}{v:Value}{m:Mp D}(h:bW S M w d v)(o:S.mp d=some m):awM w m.agg m.kvs v:=by
 have c:=h w (fun _ _ _=>rfl);cases c with
 | mp d q v k p j h=>grind
 | mk d i a n U g e b l f=>grind
theorem bW.aks {d:D}{v:Value}(h:bW S M w d v):S.len d<=9223372036854775807:=by
 have e:=h w (fun _ _ _=>rfl);cases e with
 | mp d m v l n o h=>omega
 | mk d i a k U g b c j f=>exact b
theorem bW.AZ {d:D}{a:Option Addr}{n b i:Nat}(h:bW S M w d (.slice a n b))(x:i < S.len d)(u:0 < S.size d):∃l,a=some l:=by
 generalize t:Value.slice a n b=v at h;have e:=h w (fun _ _ _=>rfl);cases e with
 | mp d m v y r q h=>omega
 | mk d o s f U k g c p j=>
  grind
end
end Go.Vc
namespace Go.Vc
open Go.RowKit
def upd {a:Type}(f:Nat->a)(k:Nat)(v:a):Nat->a:=fun n=>if n=k then v else f n
theorem upd_same {a:Type}(f:Nat->a)(k:Nat)(v:a):upd f k v k=v:=by simp[upd]
theorem bM {a:Type}(f:Nat->a)(k n:Nat)(v:a)(h:n≠k):upd f k v n=f n:=by simp[upd,h]
def dE:Value->Option Nat
 | .pointer (some a)=>some a.block
 | .slice (some a) _ _=>some a.block
 | .map (some r)=>some r
 | _=>none
def isRef:Value->Bool
 | .pointer _ | .slice _ _ _ | .map _=>true
 | _=>false
structure Bs where
 w:World
 X:Nat->Prop
def Bs.Mine (B:Bs)(b:Nat):Prop:=B.w.heap.size<=b\/B.X b
structure xX (B:Bs)(w':World):Prop where
 os:w'.os=B.w.os
 tape:w'.tape=B.w.tape
 output:w'.output=B.w.output
 size:B.w.heap.size<=w'.heap.size
 block:∀k,k < B.w.heap.size->¬B.X k->w'.heap[k]? =B.w.heap[k]?
theorem xX.refl (B:Bs):xX B B.w:=⟨rfl,rfl,rfl,pJ _,fun _ _ _=>rfl⟩
theorem xX.grow {B:Bs}{w b:World}(h:xX B w)(k:Below w.heap.size w b):xX B b:=
 ⟨k.os.trans h.os,k.tape.trans h.tape,k.output.trans h.output,Du h.size k.size,fun i a c=>(k.block i (Qbg a h.size)).trans (h.block i a c)⟩
def hot {D:Type}:Option (Bk D)->Bool
 | some (.cells _)=>true
 | some (.row _ _)=>true
 | some (.iter _ _)=>true
 | some (.map _)=>true
 | some (.tc _ _)=>true
 | _=>false
def aA6 (w:World)(b:Nat)(t:TypeId)(a:List Value):Prop:=
 ∃u0,w.heap[b]? =some (.cells (List.toArray (u0::a)) t (0,0))/\(u0= .pointer none\/u0= .pointer (some ⟨b,0,none⟩))
theorem aA6.same {w c:World}{b:Nat}{t:TypeId}{a:List Value}(h:aA6 w b t a)(e:c.heap[b]? =w.heap[b]?):aA6 c b t a:=by
 obtain⟨u0,d,f⟩:=h;exact⟨u0,e.trans d,f⟩
def vk {D:Type}(S:Sh D)(M:Nat->Prop)(w:World)(g:Nat->Option Value)(B:Bs):Bk D->Value->Prop
 | .cells cs,v=>∃b a t,v= .pointer (some ⟨b,0,none⟩)/\B.Mine b/\w.heap[b]? =some (.cells (List.toArray a) t (0,0))/\aW S M w g cs a
 | .wY d,v=>bW S M w d v
 | .iter s p,v=>s.length<=9223372036854775807/\∃b,v= .pointer (some ⟨b,0,none⟩)/\B.Mine b/\w.heap[b]? =some (.stringIter ⟨s.toArray⟩ p)
 | .map d,v=>∃m b f n,S.mp d=some m/\(∀p∈m.kvs,p.1.fits/\∀x∈p.2,x.fits)/\v= .map (some b)/\B.Mine b/\w.heap[b]? =some (.map f n)/\f.toList.map (fun e=>(e.key,e.val))=m.kvs.map fun p=>(p.1.val,qH m.agg p.2)
 | .tc t cs,v=>∃b a,v= .pointer (some ⟨b,0,none⟩)/\B.Mine b/\aA6 w b t a/\aW S M w g cs a
 | .row e d,v=>((∀b,dE v=some b->B.Mine b)/\S.len d<=9223372036854775807/\S.mp d=none)/\∃c,w.ownsRow 0 e (S.size d) v (S.len d) c/\
   ∀i j,i < S.len d->j < S.size d->∃u,c[i*S.size d+j]? =some u/\(S.cell d i j).jr=true/\(S.cell d i j).Rel S M w g u
def aS {D:Type}(N:Nat->Prop)(a:Nat->Option (Bk D))(g:Nat->Option Value):Nat->Prop:=
 fun b=>N b\/∃l v,hot (a l)=true/\g l=some v/\dE v=some b
structure Hp {D:Type}(S:Sh D)(w0:Bs)(N:Nat->Prop)(blk:Nat->Option (Bk D))(g:Nat->Option Value)(al:Nat->Prop)(w:World):Prop where
 below:xX w0 w
 hN:∀b,N b->b < w0.w.heap.size/\¬w0.X b
 bY:∀l bk,blk l=some bk->∃v,g l=some v/\vk S (aS N blk g) w g w0 bk v
 sep:∀l l' v v' b,hot (blk l)=true->hot (blk l')=true->g l=some v->g l'=some v'->dE v=some b->dE v'=some b->l=l'
 al:∀l v,g l=some v->al l
 refs:∀l v,g l=some v->isRef v=true
 gl:ac4 S (aS N blk g) w
section
variable {D:Type}{S:Sh D}{M M' N:Nat->Prop}{w w':World}{w0:Bs}{g g':Nat->Option Value}{blk:Nat->Option (Bk D)}{al:Nat->Prop}{B:Bs}
theorem RJ {w:World}{b:Nat}{o:Obj}(h:w.heap[b]? =some o):b < w.heap.size:=by
 grind
theorem vk.lt {i:Bk D}{v:Value}{b:Nat}(h:vk S M w g B i v)(c:hot (some i)=true)(a:dE v=some b):b < w.heap.size/\B.Mine b:=by
 cases i with
 | cells cs=>
  obtain⟨j,k,t,rfl,f,c,_⟩:=h;simp only[dE,XM]at a
  grind
 | row e d=>
  obtain⟨l,r,⟨_,h⟩,_⟩:=h;rcases h with⟨rfl,_⟩ | ⟨g',q,o,rfl,f,c,_⟩
  ·simp[dE]at a
  ·have:=l.1 b a;simp only[dE,XM]at a
   grind
 | wY d=>simp[hot]at c
 | iter s p=>
  obtain⟨_,j,rfl,f,c⟩:=h;simp only[dE,XM]at a
  grind
 | map d=>
  obtain⟨m,j,u,n,_,_,rfl,f,c,_⟩:=h;simp only[dE,XM]at a
  grind
 | tc t cs=>
  obtain⟨j,k,rfl,f,⟨u0,c,_⟩,_⟩:=h;simp only[dE,XM]at a
  grind
theorem vk.isRef {c:Bk D}{v:Value}(h:vk S M w g B c v):isRef v=true:=by
 cases c with
 | cells cs=>obtain⟨b,i,t,rfl,_⟩:=h;rfl
 | row e d=>
  obtain⟨_,k,⟨_,h⟩,_⟩:=h;rcases h with⟨rfl,_⟩ | ⟨g',f,j,rfl,_⟩<;>rfl
 | wY d=>
  rcases bW.form h with⟨a,f,rfl⟩ | ⟨r,rfl⟩<;>rfl
 | iter s p=>obtain⟨_,b,rfl,_⟩:=h;rfl
 | map d=>obtain⟨m,b,l,n,_,_,rfl,_⟩:=h;rfl
 | tc t cs=>obtain⟨b,i,rfl,_⟩:=h;rfl
theorem vk.keep {o:Bk D}{v:Value}(h:vk S M w g B o v)(k:Keeps M w M' w')(m:More g g')(l:hot (some o)=true->∀b,dE v=some b->w'.heap[b]? =w.heap[b]?):vk S M' w' g' B o v:=by
 cases o with
 | cells cs=>
  obtain⟨b,r,t,rfl,a,c,f⟩:=h;exact⟨b,r,t,rfl,a,(l rfl b rfl).trans c,f.keep k m⟩
 | row e d=>
  obtain⟨x,E,⟨u,h⟩,G⟩:=h;refine⟨x,E,⟨u,?_⟩,fun i j F H=> ?_⟩
  ·rcases h with h | ⟨g',z,y,rfl,a,c,q⟩
   ·exact .inl h
   ·exact .inr ⟨g',z,y,rfl,a,(l rfl g' rfl).trans c,q⟩
  grind [Lf.Rel.keep]
 | wY d=>exact bW.keep h k
 | iter s p=>
  obtain⟨u,b,rfl,a,c⟩:=h;exact⟨u,b,rfl,a,(l rfl b rfl).trans c⟩
 | map d=>
  obtain⟨m,b,A,n,x,C,rfl,a,c,f⟩:=h;exact⟨m,b,A,n,x,C,rfl,a,(l rfl b rfl).trans c,f⟩
 | tc t cs=>
  obtain⟨b,r,rfl,a,c,f⟩:=h;exact⟨b,r,rfl,a,c.same (l rfl b rfl),f.keep k m⟩
theorem iM {x:Option (Bk D)}(h:hot x=true):∃a,x=some a/\hot (some a)=true:=by
 cases x with
 | none=>simp[hot]at h
 | some a=>grind
theorem Keeps.refl (M:Nat->Prop)(w:World):Keeps M w M w:=⟨pJ _,fun _ _ h=>⟨h,rfl⟩⟩
theorem Hp.at (h:Hp S w0 N blk g al w){l:Nat}{v:Value}(c:hot (blk l)=true)(j:g l=some v):∃a,blk l=some a/\hot (some a)=true/\vk S (aS N blk g) w g w0 a v:=by
 obtain⟨a,b,i⟩:=iM c;obtain⟨f,d,e⟩:=h.bY l a b
 grind
theorem Hp.mlt (h:Hp S w0 N blk g al w){b:Nat}(a:aS N blk g b):b < w.heap.size:=by
 rcases a with a | ⟨l,v,d,f,i⟩
 ·exact Qbg (h.hN b a).1 h.below.size
 ·obtain⟨j,_,e,c⟩:=h.at d f;exact(c.lt e i).1
theorem Hp.grow (h:Hp S w0 N blk g al w)(a:Below w.heap.size w w'):Hp S w0 N blk g al w'/\Keeps (aS N blk g) w (aS N blk g) w':=by
 have d:Keeps (aS N blk g) w (aS N blk g) w':=⟨a.size,fun b f n=>⟨n,a.block b f⟩⟩;refine⟨⟨h.below.grow a,h.hN,fun l i m=> ?_,h.sep,h.al,h.refs,h.gl.keep d⟩,d⟩;obtain⟨v,k,c⟩:=h.bY l i m;exact⟨v,k,c.keep d (More.refl _) fun j b e=>a.block b (c.lt j e).1⟩
theorem Hp.add (h:Hp S w0 N blk g al w)(p:Below w.heap.size w w'){l:Nat}{bk:Bk D}{v:Value}(M:¬al l)(Y:∀b,dE v=some b->w.heap.size<=b)
  (W:∀z,Keeps (aS N blk g) w z w'->(∀c,z c->aS N blk g c\/dE v=some c)->vk S z w' (upd g l (some v)) w0 bk v):
  Hp S w0 N (upd blk l (some bk)) (upd g l (some v)) (fun n=>al n\/n=l) w'/\Keeps (aS N blk g) w (aS N (upd blk l (some bk)) (upd g l (some v))) w'/\More g (upd g l (some v)):=by
 have T:g l=none:=by
  cases P:g l with
  | none=>rfl
  | some u=>exact absurd (h.al l u P) M
 have U:blk l=none:=by
  cases O:blk l with
  | none=>rfl
  | some o=>
   obtain⟨u,B,_⟩:=h.bY l o O
   grind
 have K:More g (upd g l (some v)):=fun n u i=>by
  grind [bM]
 have y:Keeps (aS N blk g) w (aS N (upd blk l (some bk)) (upd g l (some v))) w':=by
  refine⟨p.size,fun b E s=>⟨?_,p.block b E⟩⟩;rintro(k | ⟨j,u,e,f,m⟩)
  ·exact s (.inl k)
  ·by_cases d:j=l
   ·grind [upd_same]
   ·rw[bM _ _ _ _ d]at e f;exact s (.inr ⟨j,u,e,f,m⟩)
 have V:∀c,aS N (upd blk l (some bk)) (upd g l (some v)) c->aS N blk g c\/dE v=some c:=by
  rintro c (k | ⟨j,u,e,f,m⟩)
  ·exact .inl (.inl k)
  ·by_cases d:j=l
   ·grind [upd_same]
   ·rw[bM _ _ _ _ d]at e f;exact .inl (.inr ⟨j,u,e,f,m⟩)
 refine⟨⟨h.below.grow p,h.hN,fun j o q=> ?_,?_,?_,?_,h.gl.keep y⟩,y,K⟩
 ·by_cases d:j=l
  ·grind [upd_same]
  ·rw[bM _ _ _ _ d]at q⊢;obtain⟨u,B,G⟩:=h.bY j o q;exact⟨u,B,G.keep y K fun R b H=>p.block b (G.lt R H).1⟩
 ·intro a b Q L c I r x t F C;have X:∀n u c,n≠l->hot (upd blk l (some bk) n)=true->upd g l (some v) n=some u->dE u=some c->c < w.heap.size:=by
   intro n u c i e f m;rw[bM _ _ _ _ i]at e f;exact h.mlt (.inr ⟨n,u,e,f,m⟩)
  by_cases J:a=l
  ·grind [upd_same]
  ·by_cases A:b=l
   ·grind [upd_same]
   ·rw[bM _ _ _ _ J]at I x;rw[bM _ _ _ _ A]at r t;exact h.sep a b Q L c I r x t F C
 ·intro n u i;by_cases d:n=l
  ·exact .inr d
  ·rw[bM _ _ _ _ d]at i;exact .inl (h.al n u i)
 ·intro n u i;by_cases d:n=l
  ·grind [vk.isRef,upd_same]
  ·rw[bM _ _ _ _ d]at i;exact h.refs n u i
theorem Hp.write (h:Hp S w0 N blk g al w){l b:Nat}{q bk':Bk D}{v:Value}(O:blk l=some q)(T:hot (some q)=true)(U:hot (some bk')=true)(s:g l=some v)(t:dE v=some b)
  (z:w'.os=w.os) (B:w'.tape=w.tape) (y:w'.output=w.output) (o:w'.heap.size=w.heap.size) (f:∀n,n≠b->w'.heap[n]? =w.heap[n]?)
  (W:Keeps (aS N blk g) w (aS N blk g) w'->vk S (aS N blk g) w' g w0 bk' v):
  Hp S w0 N (upd blk l (some bk')) g al w'/\Keeps (aS N blk g) w (aS N (upd blk l (some bk')) g) w':=by
 have i:∀n,hot (upd blk l (some bk') n)=hot (blk n):=by
  grind [bM,upd_same]
 have x:aS N (upd blk l (some bk')) g=aS N blk g:=by
  funext c;simp only[aS,i]
 have F:aS N blk g b:= .inr ⟨l,v,by grind,s,t⟩;obtain⟨X,j,M⟩:=h.bY l q O;rw[s]at j;injection j with j
 subst j;have J:=(M.lt T t).2;have r:Keeps (aS N blk g) w (aS N blk g) w':=⟨Qdf o.symm,fun c _ p=>⟨p,f c (fun e=>p (e▸F))⟩⟩;refine⟨⟨⟨z.trans h.below.os,B.trans h.below.tape,y.trans h.below.output,o▸h.below.size,fun k I G=>(f k ?_).trans (h.below.block k I G)⟩,h.hN,?_,?_,h.al,h.refs,by rw[x];exact h.gl.keep r⟩,x▸r⟩
 ·rintro rfl;rcases J with C | C
  ·omega
  ·exact G C
 ·intro n H K;rw[x];by_cases A:n=l
  ·grind [upd_same]
  ·rw[bM _ _ _ _ A]at K;obtain⟨u,E,P⟩:=h.bY n H K;refine⟨u,E,P.keep r (More.refl _) fun V c m=>f c ?_⟩;rintro rfl;exact A (h.sep n l u v c dm dm E s m t)
 ·intro a c Q R d L m;rw[i]at L m;exact h.sep a c Q R d L m
theorem Hp.aJo (h:Hp S w0 N blk g al w)(l:Nat)(x:Option (Bk D))(B:hot x=false)(k:∀i,x=some i->∃v,g l=some v/\vk S (aS N (upd blk l x) g) w g w0 i v):
  Hp S w0 N (upd blk l x) g al w/\Keeps (aS N blk g) w (aS N (upd blk l x) g) w:=by
 have e:∀n,hot (upd blk l x n)=true->hot (blk n)=true:=by
  grind [bM,upd_same]
 have m:Keeps (aS N blk g) w (aS N (upd blk l x) g) w:=by
  refine⟨pJ _,fun b _ o=>⟨?_,rfl⟩⟩;rintro(f | ⟨n,u,p,q,s⟩)
  ·exact o (.inl f)
  ·exact o (.inr ⟨n,u,e n p,q,s⟩)
 refine⟨⟨h.below,h.hN,fun n i f=> ?_,fun a c r t d z y=>h.sep a c r t d (e a z) (e c y),h.al,h.refs,h.gl.keep m⟩,m⟩;by_cases j:n=l
 ·subst j;rw[upd_same]at f;exact k i f
 ·rw[bM _ _ _ _ j]at f;obtain⟨u,A,C⟩:=h.bY n i f
  grind [vk.keep,More.refl]
theorem Hp.move (h:Hp S w0 N blk g al w){l fr:Nat}{bk':Bk D}{v v':Value}(s:hot (blk l)=true)(q:g l=some v)(aa:¬al fr)
  (P:w'.os=w.os) (Q:w'.tape=w.tape) (M:w'.output=w.output) (z:w.heap.size<=w'.heap.size) (m:∀n,n < w.heap.size->dE v≠some n->w'.heap[n]? =w.heap[n]?)
  (ab:∀b,dE v'=some b->dE v=some b\/w.heap.size<=b)
  (hok:∀H,Keeps (aS N blk g) w H w'->(∀c,H c->aS N blk g c\/dE v'=some c)->vk S H w' (upd g fr (some v')) w0 bk' v'):
  Hp S w0 N (upd (upd blk l none) fr (some bk')) (upd g fr (some v')) (fun n=>al n\/n=fr) w'/\Keeps (aS N blk g) w (aS N (upd (upd blk l none) fr (some bk')) (upd g fr (some v'))) w'/\More g (upd g fr (some v')):=by
 have hgl:g fr=none:=by
  cases q:g fr with
  | none=>rfl
  | some u=>exact absurd (h.al fr u q) aa
 have hm:More g (upd g fr (some v')):=fun n u d=>by
  grind [bM]
 have j:∀n,n≠fr->hot (upd (upd blk l none) fr (some bk') n)=true->n≠l/\hot (blk n)=true:=by
  intro n d f;rw[bM _ _ _ _ d]at f;by_cases i:n=l
  ·subst i;rw[upd_same]at f;simp[hot]at f
  ·rw[bM _ _ _ _ i]at f
   grind
 have hM':∀c,aS N (upd (upd blk l none) fr (some bk')) (upd g fr (some v')) c->aS N blk g c\/dE v'=some c:=by
  rintro c (V | ⟨L,u,f,p,t⟩)
  ·exact .inl (.inl V)
  ·by_cases i:L=fr
   ·grind [upd_same]
   ·have h1':=(j L i f).2;rw[bM _ _ _ _ i]at p;exact .inl (.inr ⟨L,u,h1',p,t⟩)
 have ac:∀b,dE v=some b->aS N blk g b:=fun b x=> .inr ⟨l,v,s,q,x⟩
 have G:Keeps (aS N blk g) w (aS N (upd (upd blk l none) fr (some bk')) (upd g fr (some v'))) w':=by
  refine⟨z,fun b U W=>⟨fun x=> ?_,m b U fun e=>W (ac b e)⟩⟩
  grind
 have MC:∀b,dE v=some b->w0.Mine b:=fun b x=>by
  obtain⟨bk,_,J,I⟩:=h.at s q;exact(I.lt J x).2
 refine⟨⟨⟨P.trans h.below.os,Q.trans h.below.tape,M.trans h.below.output,Du h.below.size z,fun k B X=>(m k (Qbg B h.below.size) ?_).trans (h.below.block k B X)⟩,h.hN,fun n Y d=> ?_,?_,?_,?_,h.gl.keep G⟩,G,hm⟩
 ·intro e;rcases MC k e with f | f
  ·omega
  ·exact X f
 ·by_cases i:n=fr
  ·grind [upd_same]
  ·rw[bM _ _ _ _ i]at d⊢;have o:n≠l:=by rintro rfl;rw[upd_same]at d;cases d
   rw[bM _ _ _ _ o]at d;obtain⟨u,R,X4⟩:=h.bY n Y d;refine⟨u,R,X4.keep G hm fun J b E=>m b (X4.lt J E).1 fun e=> ?_⟩;exact o (h.sep n l u v b dm s R q E e)
 ·have old:∀n u c,n≠fr->hot (upd (upd blk l none) fr (some bk') n)=true->upd g fr (some v') n=some u->dE u=some c->dE v'=some c->False:=by
   intro n u c d f p t h4;obtain⟨o,f⟩:=j n d f;rw[bM _ _ _ _ d]at p;rcases ab c h4 with O | O
   ·exact o (h.sep n l u v c f s p q t O)
   ·have:=h.mlt (.inr ⟨n,u,f,p,t⟩);omega
  intro a b va vb c K r C A Z T;by_cases F:a=fr
  ·grind [upd_same]
  ·by_cases y:b=fr
   ·grind [upd_same]
   ·have K:=(j a F K).2;have r:=(j b y r).2;rw[bM _ _ _ _ F]at C;rw[bM _ _ _ _ y]at A;exact h.sep a b va vb c K r C A Z T
 ·intro n u d;by_cases i:n=fr
  ·exact .inr i
  ·rw[bM _ _ _ _ i]at d;exact .inl (h.al n u d)
 ·intro n u d;by_cases i:n=fr
  ·grind [vk.isRef,upd_same]
  ·rw[bM _ _ _ _ i]at d;exact h.refs n u d
end
end Go.Vc
namespace Go.Vc
open Go.RowKit
structure Ty where
 kind:Nat
 agg:Bool
 size:Nat
 bytes:Nat
 zero:List Value
 aqN:List (Nat×Nat×Bool)
 elem:Option TypeId
 eqs:List Nat
 lit:Bool
 arr:Option (TypeId×Nat)
 zag:Bool
 mp:Option (TypeId×TypeId)
def Hy (P:Program)(t:TypeId):Bool:=
 match P.underlying t with
 | some (.struct _)=>true
 | some (.array _ _)=>true
 | _=>false
def rD:IntKind->Nat
 | .i8=>20
 | .i16=>21
 | .i32=>22
 | .i64=>23
 | .u8=>24
 | .u16=>25
 | .u32=>26
 | .u64=>27
def aAl:Nat->Option IntKind
 | 20=>some .i8
 | 21=>some .i16
 | 22=>some .i32
 | 23=>some .i64
 | 24=>some .u8
 | 25=>some .u16
 | 26=>some .u32
 | 27=>some .u64
 | _=>none
@[simp] theorem aI0 (k:IntKind):(rD k=1)=False:=by cases k<;>simp[rD]
@[simp] theorem aIW (k:IntKind):(rD k=3)=False:=by cases k<;>simp[rD]
@[simp] theorem aJh (k:IntKind):(rD k=4)=False:=by cases k<;>simp[rD]
@[simp] theorem aJe (k:IntKind):(rD k=5)=False:=by cases k<;>simp[rD]
def kindOf:TypeDesc->Nat
 | .bool=>1
 | .int k=>rD k
 | .string=>3
 | .slice _=>4
 | .struct _=>5
 | .pointer _=>6
 | .func _ _ _=>7
 | _=>0
def cellsIn (P:Program)(t:TypeId):Nat:=if (P.underlying t).isSome then P.cellsOf t else 0
def ND (P:Program):TypeDesc->List (Nat×Nat×Bool)
 | .struct a=>a.toList.map fun f=>(f.offset,cellsIn P f.type,Hy P f.type)
 | _=>[]
def aju:TypeDesc->Option TypeId
 | .slice e=>some e
 | _=>none
def Tc (P:Program)(t:TypeId):Option Nat:=
 match P.underlying t with
 | some .bool=>some 1
 | some (.int _)=>some 2
 | some .string=>some 3
 | _=>none
def eqFields (P:Program):Nat->List Field->Option (List Nat)
 | _,[]=>some []
 | i,f::r=>
  match Tc P f.type,eqFields P (i+1) r with
  | some k,some ks=>if Nat.beq f.offset i && !(f.name== "_") && Nat.beq (cellsIn P f.type) 1 then some (k::ks)else none
  | _,_=>none
def agr (P:Program)(t:TypeId):TypeDesc->List Nat
 | .struct a=>if P.stoodInHeld t || P.eqGuardType P.depth t then[]else(match eqFields P 0 a.toList with
  | some ks=>ks
  | none=>[])
 | .array n e=>if P.eqGuardType P.depth t then[]else(match Tc P e,P.info? e with
  | some k,some i=>if Nat.beq i.size 1 then List.replicate n k else[]
  | _,_=>[])
 | _=>[]
def atH:TypeDesc->Option (TypeId×Nat)
 | .array n e=>some (e,n)
 | _=>none
def En:Value->Bool
 | .agg _=>true
 | _=>false
def akN:TypeDesc->Option (TypeId×TypeId)
 | .map k v=>some (k,v)
 | .pointer e=>some (e,e)
 | _=>none
def apL (P:Program)(t:TypeId):Option Ty:=
 match P.info? t,P.underlying t with
 | some i,some d=>
  match i.zero with
  | some z=>some ⟨kindOf d,Hy P t,i.size,i.bytes,z.cells.toList,ND P d,aju d,agr P t d,false,atH d,En z,akN d⟩
  | none=>none
 | _,_=>none
def TyOk (P:Program)(t:TypeId)(a:Ty):Prop:=apL P t=some {a with lit:=false}
def Dw:IntKind->Int->Prop
 | .i8,n=> -128<=n/\n<=127
 | .i16,n=> -32768<=n/\n<=32767
 | .i32,n=> -2147483648<=n/\n<=2147483647
 | .i64,n=> -9223372036854775808<=n/\n<=9223372036854775807
 | .u8,n=>0<=n/\n<=255
 | .u16,n=>0<=n/\n<=65535
 | .u32,n=>0<=n/\n<=4294967295
 | .u64,n=>0<=n/\n<=18446744073709551615
theorem wrap_in {k:IntKind}{n:Int}(h:Dw k n):k.wrap n=n:=by
 cases k<;>simp only[Dw]at h<;>simp[IntKind.wrap,IntKind.bits,IntKind.signed]<;>omega
def aQ (k:IntKind)(n:Int):Int:=k.wrap n
theorem bn {k:IntKind}{n:Int}(h:Dw k n):aQ k n=n:=wrap_in h
def nT (k:IntKind)(x y:Int):Int:=k.wrap (BitVec.ofInt k.bits x &&& BitVec.ofInt k.bits y).toNat
def orI (k:IntKind)(x y:Int):Int:=k.wrap (BitVec.ofInt k.bits x ||| BitVec.ofInt k.bits y).toNat
def mJ (k:IntKind)(x y:Int):Int:=k.wrap (BitVec.ofInt k.bits x ^^^ BitVec.ofInt k.bits y).toNat
def aGI (k:IntKind)(x y:Int):Int:=k.wrap (BitVec.ofInt k.bits x &&& ~~~BitVec.ofInt k.bits y).toNat
def Tv (k:IntKind)(x y:Int):Int:=k.wrap (x*2 ^ (min y.toNat k.bits))
def lN (k:IntKind)(x y:Int):Int:=x.fdiv (2 ^ (min y.toNat k.bits))
def kEq:IntKind->IntKind->Bool:=fun a b=>a==b
def Pv.beq:Pv->Pv->Bool
 | .bool a, .bool b=>a==b
 | .int k a, .int c b=>kEq k c && a==b
 | .str a, .str b=>a==b
 | _,_=>false
def Pv.kind:Pv->Nat
 | .bool _=>1
 | .int k _=>rD k
 | .str _=>3
def Pv.lf {D:Type}:Pv->Lf D
 | .bool b=> .bool b
 | .int k n=> .int k n
 | .str s=> .str s
def zh {V:Type}(k:Pv):List (Pv×V)->Option V
 | []=>none
 | p::r=>if Pv.beq k p.1 then some p.2 else zh k r
def KE {V:Type}(k:Pv)(v:V):List (Pv×V)->List (Pv×V)
 | []=>[(k,v)]
 | p::r=>if Pv.beq k p.1 then(p.1,v)::r else p::KE k v r
structure aA5 {D:Type}(S:Sh D)(m:Mp D):Prop where
 keys:∀p∈m.kvs,p.1.kind=m.kind
 has:∀k:Pv,k.kind=m.kind->m.has k=(zh k m.kvs).isSome
 get:∀k:Pv,k.kind=m.kind->m.get k=((zh k m.kvs).getD m.zero).map Pv.lf
 put:∀k vs,k.kind=m.kind->vs.map Pv.kind=m.zero.map Pv.kind->∃m',S.mp (m.put k vs)=some m'/\m'.kvs=KE k vs m.kvs/\m'.agg=m.agg
 len:m.len=m.kvs.length
def rq:Option Prop->Prop
 | none=>True
 | some p=>p
structure DP where
 p:Prop
 b:Bool
 h:b=true->p
@[reducible] def dp (p:Prop) [d:Decidable p]:DP:=⟨p,decide p,Dt⟩
@[reducible] def dq (p:Prop):DP:=⟨p,false,fun e=>nomatch e⟩
def lG:Option DP->Prop
 | none=>True
 | some q=>q.p
theorem Eb {o:Option Prop}:lG (o.map dq) ↔ rq o:=by cases o<;>exact Iff.rfl
structure Out (D:Type) where
 pre:Option DP
 val:Sl D
 blks:List (Nat×Option (Bk D))
abbrev Ct (D:Type):=List (Sl D)->List (Bk D)->Option (Option DP×Sl D×List (Nat×Bk D)×List Nat)
def Jr {D:Type}:Value->Lf D
 | .int k n=> .int k n
 | .string s=>if Nat.ble s.data.size 9223372036854775807 then .str s.data.toList else .val (.string s)
 | .nilIface=> .Xw none
 | v=> .val v
def aCz {D:Type}:Value->Sl D
 | .agg cs=> .one (.agg (cs.toList.map Jr))
 | v=> .one (.lf (Jr v))
def bOf {D:Type}:Sl D->Option Bool
 | .one (.lf (.bool b))=>some b
 | .one (.lf (.val (.bool b)))=>some b
 | _=>none
def Lf.norm {D:Type}:Lf D->Lf D
 | .val (.bool b)=> .bool b
 | x=>x
def Sv.norm {D:Type}:Sv D->Sv D
 | .lf x=> .lf x.norm
 | .agg a=> .agg (a.map Lf.norm)
def Sl.norm {D:Type}:Sl D->Sl D
 | .one x=> .one x.norm
 | .Dh a=> .Dh (a.map Sv.norm)
def aP {D:Type}(a:Nat->Sl D):Operand->Sl D
 | .tmp t=>a t
 | .const v=>aCz v
 | .func f=> .one (.lf (.fn f []))
 | .global i=> .one (.lf (.glb i))
def Sv.cells {D:Type}:Sv D->List (Lf D)
 | .lf x=>[x]
 | .agg a=>a
def putAt {D:Type}(cs:List (Lf D))(o:Nat)(a:List (Lf D)):List (Lf D):=cs.take o++(a++cs.drop (o+a.length))
def Lf.storable {D:Type}:Lf D->Bool
 | .any=>false
 | .val (.agg _)=>false
 | .val (.tuple _)=>false
 | _=>true
def Sv.whole {D:Type}:Sv D->Bool
 | .lf x=>x.storable
 | .agg _=>true
def BR {c:Type}:Option c->Option c->Option c
 | some a,_=>some a
 | none,b=>b
section
variable {D:Type}
def lF (a:Option DP)(x:Lf D):Option (Out D):=some ⟨a, .one (.lf x),[]⟩
def aG2 (c:BinOp)(k:IntKind)(a b:Int):Option (Out D):=
 match c with
 | .add=>lF none (.int k (aQ k (a+b)))
 | .sub=>lF none (.int k (aQ k (a - b)))
 | .mul=>lF none (.int k (aQ k (a*b)))
 | .and=>lF none (.int k (nT k a b))
 | .or=>lF none (.int k (orI k a b))
 | .xor=>lF none (.int k (mJ k a b))
 | .andNot=>lF none (.int k (aGI k a b))
 | .quo=>lF (some (dp (b≠0))) (.int k (aQ k (a.tdiv b)))
 | .rem=>lF (some (dp (b≠0))) (.int k (a.tmod b))
 | .eql=>lF none (.bool (a==b))
 | .neq=>lF none (.bool (a !=b))
 | .lss=>lF none (.bool (decide (a < b)))
 | .leq=>lF none (.bool (decide (a<=b)))
 | .gtr=>lF none (.bool (decide (b < a)))
 | .geq=>lF none (.bool (decide (b<=a)))
 | _=>none
def aI4 (k:IntKind)(a b:Int):Option (Out D):=lF (some (dp (0<=b))) (.int k (Tv k a b))
def aIX (k:IntKind)(a b:Int):Option (Out D):=lF (some (dp (0<=b))) (.int k (lN k a b))
def aHF (c:BinOp)(a b:List UInt8):Option (Out D):=
 match c with
 | .eql=>lF none (.bool (a==b))
 | .neq=>lF none (.bool (a !=b))
 | .lss=>lF none (.bool (Op.bytesLess a b))
 | .leq=>lF none (.bool (Op.bytesLess a b || a==b))
 | .gtr=>lF none (.bool (!(Op.bytesLess a b || a==b)))
 | .geq=>lF none (.bool (!Op.bytesLess a b))
 | .add=>lF (some (dp (a.length+b.length<=9223372036854775807))) (.str (a++b))
 | _=>none
def eq1 (k:Nat)(x y:Lf D):Option Bool:=
 match k with
 | 1=>(match x,y with
  | .bool a, .bool b=>some (a==b)
  | _,_=>none)
 | 2=>(match x,y with
  | .int k a, .int c b=>if kEq k c then some (a==b)else none
  | _,_=>none)
 | 3=>(match x,y with
  | .str a, .str b=>some (a==b)
  | _,_=>none)
 | _=>none
def uQ:List Nat->List (Lf D)->List (Lf D)->Option Bool
 | [],[],[]=>some true
 | k::ks,x::a,y::b=>
  (match eq1 k x y,uQ ks a b with
  | some e,some r=>some (e && r)
  | _,_=>none)
 | _,_,_=>none
def amm (T:TypeId->Option Ty)(S:Sh D)(a:BinOp)(t:TypeId)(x y:Sl D):Option (Out D):=
 match T t with
 | none=>none
 | some c=>(match c.elem,x,y with
  | some _, .one (.lf (.dat d)), .one (.lf (.val (.slice none 0 0)))=>if Nat.blt 0 (S.size d)then(match a with
   | .eql=>lF none (.unk fun b=>b=true->S.len d=0)
   | .neq=>lF none (.unk fun b=>b=false->S.len d=0)
   | _=>none)else none
  | some _, .one (.lf (.val (.slice none 0 0))), .one (.lf (.val (.slice none 0 0)))=>(match a with
   | .eql=>lF none (.val (.bool true))
   | .neq=>lF none (.val (.bool false))
   | _=>none)
  | _,_,_=>none)
def aEF (T:TypeId->Option Ty)(op:BinOp)(t:TypeId)(x y:Sl D):Option (Out D):=
 match x,y with
 | .one (.lf (.int k a)), .one (.lf (.int d b))=>(match op with
  | .shl=>aI4 k a b
  | .shr=>aIX k a b
  | op=>if kEq k d then aG2 op k a b else none)
 | .one (.lf (.str a)), .one (.lf (.str b))=>aHF op a b
 | .one (.agg e), .one (.agg f)=>
  (match T t with
  | some c=>(match c.eqs with
   | []=>none
   | ks=>(match uQ ks (e.map Lf.norm) (f.map Lf.norm),op with
    | some r, .eql=>lF none (.bool r)
    | some r, .neq=>lF none (.bool (!r))
    | _,_=>none))
  | none=>none)
 | x,y=>
  match bOf x,bOf y with
  | some a,some b=>
   (match T t with
   | some c=>if c.kind==1 then(match op with
    | .eql=>lF none (.bool (a==b))
    | .neq=>lF none (.bool (a !=b))
    | _=>none)else none
   | none=>none)
  | _,_=>none
def xUn (a:UnOp)(x:Sl D):Option (Out D):=
 match a,x with
 | .not, .one (.lf (.bool b))=>lF none (.bool (!b))
 | .not, .one (.lf (.val (.bool b)))=>lF none (.val (.bool (!b)))
 | .not, .one (.lf (.unk p))=>lF none (.unk fun b=>p (!b))
 | .neg, .one (.lf (.int k n))=>lF none (.int k (aQ k (-n)))
 | .xor, .one (.lf (.int k n))=>lF none (.int k (mJ k (if k.signed then -1 else k.max) n))
 | _,_=>none
def BP (S:Sh D)(d:D)(i:Nat):Nat->Nat->List (Lf D)
 | _,0=>[]
 | j,n+1=>S.cell d i j::BP S d i (j+1) n
def PL (T:TypeId->Option Ty)(S:Sh D)(b:Nat->Option (Bk D))(t:TypeId)(x:Sl D):Option (Out D):=
 match T t with
 | none=>none
 | some a=>
  match x with
  | .one (.lf (.ptr l o))=>
   match b l with
   | some (.cells cs)=>
    if a.agg then(if Nat.ble (o+a.size) cs.length then some ⟨none, .one (.agg ((cs.drop o).take a.size)),[]⟩else none)
    else(match cs[o]? with
     | some y=>lF none y
     | none=>none)
   | _=>none
  | .one (.lf (.elt d i j))=>
   if a.agg then(if Nat.ble (j+a.size) (S.size d)then some ⟨none, .one (.agg (BP S d i j a.size)),[]⟩else none)
   else(if Nat.blt j (S.size d)then lF none (S.cell d i j)else none)
  | .one (.lf (.opt l i j c))=>
   match b l with
   | some (.row e d)=>
    if a.agg then(if Nat.ble (j+a.size) (S.size d) && Nat.beq c (S.size d)then some ⟨some (dp (i < S.len d)), .one (.agg (BP S d i j a.size)),[]⟩else none)
    else(if Nat.blt j (S.size d) && Nat.beq c (S.size d)then lF (some (dp (i < S.len d))) (S.cell d i j)else none)
   | _=>none
  | _=>none
def acN (T:TypeId->Option Ty)(S:Sh D)(a:Nat->Option (Bk D))(t:TypeId)(x y:Sl D):Option (Out D):=
 match T t,x,y with
 | some b, .one (.lf (.ptr l o)), .one u=>
  match a l with
  | some (.cells cs)=>
   if Nat.beq u.cells.length b.size && Nat.ble (o+u.cells.length) cs.length && u.cells.all Lf.storable then some ⟨none, .one (.lf .any),[(l,some (.cells (putAt cs o u.cells)))]⟩else none
  | _=>none
 | some b, .one (.lf (.opt l i j c)), .one u=>
  match a l with
  | some (.row e d)=>
   if Nat.beq u.cells.length b.size && Nat.ble (j+u.cells.length) (S.size d) && Nat.beq c (S.size d) && u.cells.all Lf.storable then(match S.set d i j (u.cells.map Lf.norm)with
    | some f=>some ⟨some (dp (i < S.len d)), .one (.lf .any),[(l,some (.row e f))]⟩
    | none=>none)else none
  | _=>none
 | _,_,_=>none
def abK (T:TypeId->Option Ty)(t:TypeId)(x:Sl D)(f:Nat):Option (Out D):=
 match T t with
 | none=>none
 | some c=>
  match c.aqN[f]?,x with
  | some (a,b,_), .one (.lf (.ptr l o))=>if Nat.beq b 0 then none else lF none (.ptr l (o+a))
  | some (a,b,_), .one (.lf (.elt d i j))=>if Nat.beq b 0 then none else lF none (.elt d i (j+a))
  | some (a,b,_), .one (.lf (.opt l i j z))=>if Nat.beq b 0 then none else lF none (.opt l i (j+a) z)
  | _,_=>none
def amF (T:TypeId->Option Ty)(t:TypeId)(x:Sl D)(f:Nat):Option (Out D):=
 match T t with
 | none=>none
 | some d=>
  match d.aqN[f]?,x with
  | some (a,b,c), .one (.agg cs)=>
   if Nat.beq b 0 then none else if c then(if Nat.ble (a+b) cs.length then some ⟨none, .one (.agg ((cs.drop a).take b)),[]⟩else none)
   else(match cs[a]? with
    | some y=>lF none y
    | none=>none)
  | _,_=>none
def ahs (T:TypeId->Option Ty)(S:Sh D)(b:Nat->Option (Bk D))(t:TypeId)(x i:Sl D):Option (Out D):=
 match T t with
 | none=>none
 | some c=>
  match c.elem with
  | none=>none
  | some e=>
   match T e with
   | none=>none
   | some a=>
    match x,i with
    | .one (.lf (.dat d)), .one (.lf (.int _ n))=>if Nat.beq a.size (S.size d) && Nat.blt 0 a.size then lF (some (dp (0<=n/\n < S.len d))) (.elt d n.toNat 0)else none
    | .one (.lf (.own l)), .one (.lf (.int _ n))=>
     match b l with
     | some (.row _ d)=>if Nat.beq a.size (S.size d) && Nat.blt 0 a.size then lF (some (dp (0<=n/\n < S.len d))) (.opt l n.toNat 0 a.size)else none
     | some (.wY d)=>if Nat.beq a.size (S.size d) && Nat.blt 0 a.size then lF (some (dp (0<=n/\n < S.len d))) (.elt d n.toNat 0)else none
     | _=>none
    | _,_=>none
def VF (x:Sl D)(i:Nat):Option (Out D):=
 match x with
 | .Dh a=>(match a[i]? with
  | some y=>some ⟨none, .one y,[]⟩
  | none=>none)
 | _=>none
def acB (d:Ty)(a:Nat->Sl D):List (Nat×Operand)->List (Lf D)->Option (List (Lf D))
 | [],cs=>some cs
 | (f,x)::r,cs=>
  match d.aqN[f]?,aP a x with
  | some (b,c,_), .one u=>if u.whole && Nat.beq u.cells.length c && Nat.ble (b+c) cs.length then acB d a r (putAt cs b u.cells)else none
  | _,_=>none
def ajj (T:TypeId->Option Ty)(b:Nat->Sl D)(t:TypeId)(parts:Array (Nat×Operand)):Option (Out D):=
 match T t with
 | some a=>
  if a.kind==5 && a.aqN.all (fun f=> !Nat.beq f.2.1 0)then(match acB a b parts.toList (a.zero.map Jr)with
   | some cs=>some ⟨none, .one (.agg cs),[]⟩
   | none=>none)else none
 | none=>none
def La (b:Nat)(a:Nat->Sl D):List (Nat×Operand)->List (Lf D)->Option (List (Lf D))
 | [],cs=>some cs
 | (i,x)::r,cs=>
  match aP a x with
  | .one u=>if u.whole && Nat.beq u.cells.length b && Nat.ble (i*b+b) cs.length then La b a r (putAt cs (i*b) u.cells)else none
  | _=>none
def aDF (T:TypeId->Option Ty)(S:Sh D)(c:Nat->Sl D)(f:Nat)(t:TypeId)(b:Nat)(parts:Array (Nat×Operand)):Option (Out D):=
 match T t with
 | none=>none
 | some g=>
  match g.elem with
  | none=>none
  | some e=>
   match T e with
   | none=>none
   | some a=>
    if Nat.ble (b*a.size) 16777216 && Nat.blt 0 a.size && Nat.beq a.zero.length a.size then(match La a.size c parts.toList ((List.range (b*a.size)).map fun k=>Jr ((a.zero[k % a.size]?).getD (.bool false)))with
     | some cs=>(match S.make e b (cs.map Lf.norm)with
      | some d=>if g.lit || Nat.beq b 0 then some ⟨none, .one (.lf (.own f)),[(f,some (.row e d))]⟩else lF none (.dat d)
      | none=>none)
     | none=>none)else none
def avU (d:Nat->Sl D)(c a b:Operand):Option (Out D):=
 match aP d c with
 | .one (.lf (.val (.bool true)))=>some ⟨none,aP d a,[]⟩
 | .one (.lf (.val (.bool false)))=>some ⟨none,aP d b,[]⟩
 | .one (.lf (.bool t))=>
  match bOf (aP d a),bOf (aP d b)with
  | some x,some y=>lF none (.bool (bif t then x else y))
  | _,_=>none
 | _=>none
def aFO (S:Sh D)(T:TypeId->Option Ty)(b:Nat->Option (Bk D))(c:Array TypeId)(x:Sl D):Option (Out D):=
 match c[0]? with
 | none=>none
 | some t=>
  match T t with
  | none=>none
  | some a=>
   match x with
   | .one (.lf (.dat d))=>if a.kind==4 && Nat.blt 0 (S.size d)then lF none (.int .i64 (S.len d))else none
   | .one (.lf (.str s))=>if a.kind==3 then lF none (.int .i64 s.length)else none
   | .one (.lf (.own l))=>(match b l with
    | some (.row _ d)=>if a.kind==4 then lF none (.int .i64 (S.len d))else none
    | some (.wY d)=>if a.kind==4 && Nat.blt 0 (S.size d)then lF none (.int .i64 (S.len d))else none
    | _=>none)
   | .one (.lf (.val (.slice none 0 0)))=>if a.kind==4 then lF none (.int .i64 0)else none
   | _=>none
def aAy (b:Builtin)(x y:Sl D):Option (Out D):=
 match b,x,y with
 | .min, .one (.lf (.int k a)), .one (.lf (.int _ c))=>lF none (.int k (min a c))
 | .max, .one (.lf (.int k a)), .one (.lf (.int _ c))=>lF none (.int k (max a c))
 | _,_,_=>none
def Lf.refs:Lf D->List Nat
 | .ptr l _=>[l]
 | .own l=>[l]
 | .opt l _ _ _=>[l]
 | .part l _ _ _ _=>[l]
 | .fn _ a=>a
 | _=>[]
def Sv.refs:Sv D->List Nat
 | .lf x=>x.refs
 | .agg a=>a.flatMap Lf.refs
def Sl.refs:Sl D->List Nat
 | .one x=>x.refs
 | .Dh a=>a.flatMap Sv.refs
def Bk.refs:Bk D->List Nat
 | .cells cs=>cs.flatMap Lf.refs
 | .tc _ cs=>cs.flatMap Lf.refs
 | _=>[]
def Lf.ren (f:Nat->Nat):Lf D->Lf D
 | .ptr l o=> .ptr (f l) o
 | .own l=> .own (f l)
 | .opt l i j b=> .opt (f l) i j b
 | .part l i j b h=> .part (f l) i j b h
 | .fn h a=> .fn h (a.map f)
 | x=>x
def Sv.ren (f:Nat->Nat):Sv D->Sv D
 | .lf x=> .lf (x.ren f)
 | .agg a=> .agg (a.map (Lf.ren f))
def Sl.ren (f:Nat->Nat):Sl D->Sl D
 | .one x=> .one (x.ren f)
 | .Dh a=> .Dh (a.map (Sv.ren f))
def Bk.ren (f:Nat->Nat):Bk D->Bk D
 | .cells cs=> .cells (cs.map (Lf.ren f))
 | .tc t cs=> .tc t (cs.map (Lf.ren f))
 | x=>x
def Lf.lJ:Lf D->Bool
 | .dat _=>true
 | .elt _ _ _=>true
 | .xt _=>true
 | _=>false
def Sv.lJ:Sv D->Bool
 | .lf x=>x.lJ
 | .agg a=>a.any Lf.lJ
def Sl.lJ:Sl D->Bool
 | .one x=>x.lJ
 | .Dh a=>a.any Sv.lJ
def Bk.lJ:Bk D->Bool
 | .cells cs=>cs.any Lf.lJ
 | .iter _ _=>false
 | .map _=>false
 | .tc _ cs=>cs.any Lf.lJ
 | _=>true
def rP (l:Nat):List Nat->Bool
 | []=>false
 | x::r=>Nat.beq x l || rP l r
def mZ:List Nat->List Nat->List Nat
 | ids,[]=>ids
 | ids,l::r=>mZ (if rP l ids then ids else ids++[l]) r
def reach (a:Nat->Option (Bk D)):Nat->List Nat->List Nat
 | 0,ids=>ids
 | n+1,ids=>reach a n (mZ ids (ids.flatMap fun l=>match a l with
  | some b=>b.refs
  | none=>[]))
def allIn (ids:List Nat):List Nat->Bool
 | []=>true
 | l::r=>rP l ids && allIn ids r
def zy (a:Nat->Option (Bk D)):List Nat->Option (List (Bk D))
 | []=>some []
 | l::r=>(match a l,zy a r with
  | some b,some c=>some (b::c)
  | _,_=>none)
def g_:List Nat->Nat->Nat
 | [],_=>0
 | x::r,l=>if Nat.beq x l then 0 else g_ r l+1
def backTo (ids:List Nat)(a i:Nat):Nat:=if Nat.blt i ids.length then ids.getD i 0 else a+(i - ids.length)
def Lf.view (a:Nat->Option (Bk D)):Lf D->Lf D
 | .own l=>(match a l with
  | some (.row _ d)=> .dat d
  | some (.map d)=> .dat d
  | some (.wY d)=> .dat d
  | _=> .own l)
 | .part l i j c f=>(match a l with
  | some (.row _ d)=>(match f d with
   | some b=> .dat b
   | none=> .any)
  | some (.wY d)=>(match f d with
   | some b=> .dat b
   | none=> .any)
  | _=> .part l i j c f)
 | x=>x
def Sv.view (a:Nat->Option (Bk D)):Sv D->Sv D
 | .lf x=> .lf (x.view a)
 | .agg b=> .agg (b.map (Lf.view a))
def Sl.view (a:Nat->Option (Bk D)):Sl D->Sl D
 | .one x=> .one (x.view a)
 | .Dh b=> .Dh (b.map (Sv.view a))
def Lf.owns:Lf D->List Nat
 | .own l=>[l]
 | .part l _ _ _ _=>[l]
 | _=>[]
def Sv.owns:Sv D->List Nat
 | .lf x=>x.owns
 | .agg a=>a.flatMap Lf.owns
def Sl.owns:Sl D->List Nat
 | .one x=>x.owns
 | .Dh a=>a.flatMap Sv.owns
def QV (k:Nat):List (Nat×Bk D)->Bool
 | []=>true
 | (i,_)::r=>Nat.blt i (k+64) && QV k r
def nodupB:List (Nat×Bk D)->Bool
 | []=>true
 | (i,_)::r=> !(r.any fun p=>Nat.beq p.1 i) && nodupB r
def jM:List (Nat×Bk D)->Nat->Option (Bk D)
 | [],_=>none
 | (k,v)::r,n=>if Nat.beq k n then some v else jM r n
def rwD:Option (Bk D)->Option D
 | some (.row _ d)=>some d
 | some (.map d)=>some d
 | _=>none
def jY (a:Nat->Option (Bk D))(l:Nat):Option (Nat×Option (Bk D)):=
 match rwD (a l)with
 | some d=>some (l,some (.wY d))
 | none=>none
def ath (a:List (Bk D))(i:Nat):List Nat:=
 match a[i]? with
 | some b=>b.refs
 | none=>[]
def aw1 (a:List (Bk D))(i:Nat):Bool:=
 match a[i]? with
 | some b=>b.lJ
 | none=>false
def yf (b:List (Nat×Bk D))(a:List Nat)(c:List (Bk D))(i:Nat):Option (Bk D):=
 match jM b i with
 | some d=>some d
 | none=>if rP i a then c[i]? else none
def MP (g:Ct D)(c:Nat->Option (Bk D))(d:Nat)(args:List (Sl D))(f:List Nat):Option (Out D):=
 let ids:=reach c 3 (mZ [] (args.flatMap Sl.refs))
 match zy c ids with
 | none=>none
 | some e=>
  if allIn ids (args.flatMap Sl.refs) && allIn ids (e.flatMap Bk.refs) && !(f.any fun l=>rP l ids)then
   (match g (args.map (Sl.ren (g_ ids))) (e.map (Bk.ren (g_ ids)))with
   | some (p,r,a,b)=>
    if QV ids.length a && nodupB a && allIn (a.map (·.1)++b) (a.flatMap fun q=>q.2.refs) && allIn (a.map (·.1)++b) r.refs &&
      allIn (a.map (·.1)++b) (b.flatMap fun i=>ath (e.map (Bk.ren (g_ ids))) i) && b.all (fun i=>Nat.blt i ids.length && !rP i (a.map (·.1)))then
     some ⟨p,r.ren (backTo ids d),((ids.filter fun l=> !rP (g_ ids l) b).map fun l=>(l,(jM a (g_ ids l)).map (Bk.ren (backTo ids d))))++(a.filter fun q=> !Nat.blt q.1 ids.length).map (fun q=>(backTo ids d q.1,some (q.2.ren (backTo ids d))))++
      (if r.lJ || a.any (fun q=>q.2.lJ) || b.any (fun i=>aw1 (e.map (Bk.ren (g_ ids))) i)then f.filterMap (jY c)else[])⟩
    else none
   | none=>none)
  else none
def Zj (e:FuncId->Option (Ct D))(f:FuncId)(a:Nat->Option (Bk D))(args:List (Sl D))(c:Nat):Option (Out D):=
 match e f with
 | none=>none
 | some d=>
  let b:=args.map Sl.norm
  BR (MP d a c (b.map (Sl.view a)) (mZ [] (b.flatMap Sl.owns))) (MP d a c b [])
def Uj (a:Nat->Sl D):List Operand->Option (List Nat)
 | []=>some []
 | x::r=>(match aP a x,Uj a r with
  | .one (.lf (.ptr l 0)),some b=>some (l::b)
  | _,_=>none)
def Y6 (a:Nat->Option (Bk D)):Sl D->Option D
 | .one (.lf (.dat d))=>some d
 | .one (.lf (.own l))=>(match a l with
  | some (.row _ d)=>some d
  | some (.wY d)=>some d
  | _=>none)
 | _=>none
def bG (n bytes:Nat):Prop:=n<=1099511627776/\n*bytes<=140737488355328
instance {n b:Nat}:Decidable (bG n b):=inferInstanceAs (Decidable (_/\_))
def aaC (T:TypeId->Option Ty)(S:Sh D)(c:Nat->Option (Bk D))(b:Nat)(g:Array TypeId)(x y:Sl D):Option (Out D):=
 match g.toList with
 | [t,f]=>if Nat.beq t f then(match T t with
  | none=>none
  | some i=>(match i.elem with
   | none=>none
   | some e=>(match T e with
    | none=>none
    | some a=>(match Y6 c y with
     | none=>none
     | some d2=>
      if Nat.beq a.size (S.size d2) && Nat.blt 0 a.size && Nat.beq a.zero.length a.size then(match x with
       | .one (.lf (.val (.slice none 0 0)))=>some ⟨some (dp (bG (S.len d2) a.bytes)), .one (.lf (.own b)),[(b,some (.row e d2))]⟩
       | .one (.lf (.own l))=>(match c l with
        | some (.row h d1)=>if Nat.beq e h then(match S.cat d1 d2 with
         | some d=>some ⟨some (dp (bG (S.len d1+S.len d2) a.bytes)), .one (.lf (.own b)),[(l,none),(b,some (.row e d))]⟩
         | none=>none)else none
        | _=>none)
       | _=>none)else none))))else none
 | _=>none
def avd (T:TypeId->Option Ty)(S:Sh D)(b:Nat)(t:TypeId)(x y:Sl D):Option (Out D):=
 match T t with
 | none=>none
 | some c=>(match c.elem with
  | none=>none
  | some e=>(match T e with
   | none=>none
   | some a=>(match x,y with
    | .one (.lf (.int _ n)), .one (.lf (.int _ m))=>if Nat.blt 0 a.size && Nat.beq a.zero.length a.size then(match S.zero e n.toNat (a.zero.map fun v=>(Jr v).norm)with
     | some d=>some ⟨some (dp (n=m/\0<=n/\n*a.bytes<=281474976710656/\n<=1099511627776)), .one (.lf (.own b)),[(b,some (.row e d))]⟩
     | none=>none)else none
    | _,_=>none)))
def aiU (T:TypeId->Option Ty)(t:TypeId)(x i:Sl D):Option (Out D):=
 match T t with
 | none=>none
 | some a=>(match x,i with
  | .one (.lf (.str s)), .one (.lf (.int _ n))=>if a.kind==3 then lF (some (dp (0<=n/\n < s.length))) (.int .u8 (s.getD n.toNat 0).toNat)else none
  | _,_=>none)
def auE (T:TypeId->Option Ty)(src a:TypeId)(x:Sl D):Option (Out D):=
 match T src,T a,x with
 | some _,some b, .one (.lf (.int _ n))=>(match aAl b.kind with
  | some k=>lF none (.int k (aQ k n))
  | none=>none)
 | _,_,_=>none
def bnd (n:Nat):Option (Sl D)->Option Int
 | none=>some n
 | some (.one (.lf (.int _ i)))=>some i
 | some _=>none
def ajI (T:TypeId->Option Ty)(S:Sh D)(f:Nat->Option (Bk D))(t:TypeId)(x:Sl D)(g b:Option (Sl D)):Option (Out D):=
 match T t with
 | none=>none
 | some c=>(match bnd 0 g with
  | none=>none
  | some l=>(match x with
   | .one (.lf (.str s))=>if c.kind==3 then(match bnd s.length b with
    | some h=>lF (some (dp (0<=l/\l<=h/\h<=s.length))) (.str ((s.take h.toNat).drop l.toNat))
    | none=>none)else none
   | .one (.lf (.dat d))=>(match c.elem with
    | none=>none
    | some e=>(match T e with
     | none=>none
     | some a=>if Nat.beq a.size (S.size d) && Nat.blt 0 a.size then(match bnd (S.len d) b with
      | some h=>(match S.sub d l.toNat h.toNat with
       | some i=>lF (some (dp (0<=l/\l<=h/\h<=S.len d))) (.dat i)
       | none=>none)
      | none=>none)else none))
   | .one (.lf (.own q))=>(match c.elem with
    | none=>none
    | some e=>(match T e with
     | none=>none
     | some a=>(match f q with
      | some (.row _ d)=>(match bnd (S.len d) b with
       | some h=>lF (some (dp (0<=l/\l<=h/\h<=S.len d))) (.part q l.toNat h.toNat a.size (aab S a.size l.toNat h.toNat))
       | none=>none)
      | _=>none)))
   | _=>none))
def isCells:Option (Bk D)->Bool
 | some (.cells _)=>true
 | _=>false
def xOp (T:TypeId->Option Ty)(S:Sh D)(s:FuncId->Option (Ct D))(e:Nat->Sl D)(h:Nat->Option (Bk D))(k:Nat)(o:Op):Option (Out D):=
 match o with
 | .move x=>some ⟨none,aP e x,[]⟩
 | .assign x=>some ⟨none,aP e x,[]⟩
 | .pick c a b=>avU e c a b
 | .alloc t=>(match T t with
  | some r=>some ⟨none, .one (.lf (.ptr k 0)),[(k,some (.cells (r.zero.map Jr)))]⟩
  | none=>none)
 | .box _ x=>(match aP e x with
  | .one u=>if u.whole then some ⟨none, .one (.lf (.ptr k 0)),[(k,some (.cells u.cells))]⟩else none
  | _=>none)
 | .build t parts=>ajj T e t parts
 | .buildSlice t n parts=>aDF T S e k t n parts
 | .load t x=>PL T S h t (aP e x)
 | .store t x y=>acN T S h t (aP e x) (aP e y)
 | .nilCheck x=>(match aP e x with
  | .one (.lf (.ptr l o))=>lF none (.ptr l o)
  | .one (.lf (.elt d i j))=>lF none (.elt d i j)
  | .one (.lf (.opt l i j w))=>lF none (.opt l i j w)
  | .one (.lf (.fn f g))=>lF none (.fn f g)
  | _=>none)
 | .binOp m t x y _=>BR (amm T S m t (aP e x) (aP e y)) (aEF T m t (aP e x) (aP e y))
 | .unOp m _ x=>xUn m (aP e x)
 | .fieldAddr t x f=>abK T t (aP e x) f
 | .field t x f=>amF T t (aP e x) f
 | .indexAddr t x i=>ahs T S h t (aP e x) (aP e i)
 | .extract x i=>VF (aP e x) i
 | .call c=>(match c.callee with
  | .builtin .len=>(match c.args.toList with
   | [x]=>aFO S T h c.argTypes (aP e x)
   | _=>none)
  | .builtin .min=>(match c.args.toList with
   | [x,y]=>aAy .min (aP e x) (aP e y)
   | _=>none)
  | .builtin .max=>(match c.args.toList with
   | [x,y]=>aAy .max (aP e x) (aP e y)
   | _=>none)
  | .builtin .append=>(match c.args.toList with
   | [x,y]=>aaC T S h k c.argTypes (aP e x) (aP e y)
   | _=>none)
  | .value f=>(match aP e f with
   | .one (.lf (.fn f g))=>if g.all (fun l=>isCells (h l))then Zj s f h (c.args.toList.map (aP e)++g.map fun l=> .one (.lf (.ptr l 0))) k else none
   | _=>none)
  | _=>none)
 | .makeFunc (.func f) first g=>if first.isEmpty then(match Uj e g.toList with
  | some v=>lF none (.fn f v)
  | none=>none)else none
 | .makeSlice t x y=>avd T S k t (aP e x) (aP e y)
 | .index t x i=>aiU T t (aP e x) (aP e i)
 | .convert src p x=>auE T src p (aP e x)
 | .slice t x q z none=>ajI T S h t (aP e x) (q.map (aP e)) (z.map (aP e))
 | _=>none
end
end Go.Vc
