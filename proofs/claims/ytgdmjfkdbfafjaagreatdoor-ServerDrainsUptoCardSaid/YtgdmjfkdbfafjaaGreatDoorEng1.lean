/- Own engine: Vd1, Vd2, Vd3. -/
import Derived.WalkKit
import Derived.Deep.LoopGhost
import Derived.Orders
import Derived.IntWalk
import Derived.KernelRfl
set_option linter.unusedVariables false
set_option linter.unusedSimpArgs false
namespace Go.Vc
abbrev Qa:=@Nat.eq_of_beq_eq_true
abbrev kW:=@Bool.and_eq_true
abbrev um:=@List.length_append
abbrev qM:=@decide_eq_false
abbrev nO:=@Nat.le_refl
abbrev rY:=@decide_eq_true
abbrev mX:=@cond_false
abbrev xw:=@Int.toNat_natCast
abbrev yG:=@List.length_cons
abbrev zA:=@List.mem_flatMap
abbrev yH:=@List.mem_append
abbrev Eh:=@of_decide_eq_true
abbrev CJ:=@List.length_nil
abbrev ve:=@Nat.zero_le
abbrev Ko:=@List.mem_singleton
abbrev yI:=@Nat.le_trans
abbrev Kr:=@List.take_length
abbrev uu:=@cond_true
abbrev P7:=@Option.some.injEq
abbrev EC:=@List.mem_cons
abbrev Dw:=@Nat.zero_add
abbrev Zh:=@Nat.mul_le_mul_right
abbrev QA:=@List.length_take
abbrev X6:=@decide_eq_true_eq
abbrev Kq:=@List.map_cons
abbrev Qay:=@List.getElem?_eq_getElem
abbrev Zc:=@List.not_mem_nil
abbrev YJ:=@Option.map_some
abbrev MN:=@List.mem_map
abbrev Qa2:=@List.all_eq_true
abbrev Qa3:=@Nat.le_of_ble_eq_true
abbrev MS:=@Int.le_refl
abbrev UX:=@Nat.add_zero
abbrev Qa6:=@Bool.cond_eq_ite
abbrev Qa7:=@Bool.not_eq_true'
abbrev Qa8:=@Bool.false_eq_true
abbrev Qa9:=@Bool.or_eq_true
abbrev Qb:=@List.drop_eq_getElem_cons
abbrev Qba:=@List.getElem?_eq_some_iff
abbrev Qbb:=@List.map_congr_left
abbrev Qbc:=@List.append_assoc
abbrev Qbd:=@List.getElem?_append_right
abbrev yc:=@if_neg
abbrev Qbf:=@Array.length_toList
abbrev Qbg:=@Prod.mk.injEq
abbrev yY:=@if_pos
abbrev Qbi:=@List.any_eq_true
abbrev Qbj:=@List.mem_filter
abbrev Qbk:=@List.take_succ_eq_append_getElem
abbrev Qbl:=@Nat.add_mul
abbrev Qbm:=@Bool.not_true
abbrev Qbn:=@List.filter_append
abbrev Qbo:=@List.length_set
abbrev Qbp:=@List.cons_append
abbrev Qbq:=@List.getElem?_map
abbrev Qbr:=@Bool.eq_iff_iff
abbrev Qbs:=@List.length_drop
abbrev Qbt:=@Option.isSome_iff_exists
abbrev Qbu:=@beq_eq_false_iff_ne
abbrev Qbv:=@List.length_filter_le
abbrev Qbw:=@List.length_singleton
abbrev Qbx:=@List.mem_append_left
abbrev Qby:=@List.mem_of_getElem?
abbrev Qbz:=@of_decide_eq_false
abbrev Qb0:=@List.length_map
abbrev XQ:=@congrArg
abbrev Qb2:=@List.getD_cons_succ
abbrev Qb3:=@List.getD_cons_zero
abbrev Qb4:=@List.mem_append_right
abbrev Qb5:=@Nat.lt_of_lt_of_le
abbrev Qb6:=@beq_iff_eq
abbrev Qb7:=@List.filter_cons
abbrev Qb8:=@List.map_toArray
abbrev Qb9:=@List.mem_cons_of_mem
abbrev Qc:=@List.any_eq_false
abbrev Qca:=@List.mem_range
abbrev Qcb:=@Option.map_eq_some_iff
abbrev Qcc:=@Option.map_none
abbrev Qcd:=@Classical.choose_spec
abbrev Qce:=@List.take_append_of_le_length
abbrev Qcf:=@List.flatMap_cons
abbrev Qcg:=@List.getElem?_cons_zero
abbrev Qch:=@List.nil_append
abbrev Qci:=@Array.toList_append
abbrev Qcj:=@List.map_nil
abbrev Qck:=@List.take_of_length_le
abbrev Qcl:=@Nat.mul_comm
abbrev Qcm:=@Nat.mod_eq_of_lt
abbrev Qcn:=@Eq.trans
abbrev Qco:=@List.getElem?_drop
abbrev Qcp:=@List.getElem?_take
abbrev Qcq:=@List.length_replicate
abbrev Qcr:=@List.take_append_drop
abbrev Qcs:=@List.mem_or_eq_of_mem_set
abbrev Qct:=@Option.some.inj
abbrev Qcu:=@Bool.true_and
abbrev Qcv:=@Nat.blt_eq
abbrev Qcw:=@Nat.mod_lt
abbrev Qcx:=@List.take_succ_cons
abbrev Qcy:=@Int.eq_ofNat_of_zero_le
abbrev Qcz:=@Nat.lt_succ_self
abbrev Qc0:=@beq_self_eq_true
abbrev Qc1:=@List.eq_nil_of_length_eq_zero
abbrev Qc2:=@List.append_eq_nil_iff
abbrev Qc3:=@List.map_map
abbrev Qc4:=@List.append_nil
abbrev Qc5:=@List.cons.injEq
abbrev Qc6:=@UInt8.toNat_inj
abbrev Qc7:=@List.all_cons
abbrev Qc8:=@List.any_cons
abbrev Qc9:=@Array.size_append
abbrev Qd:=@List.take_sublist
abbrev Qda:=@List.take_sublist_take_left
abbrev Qdb:=@Array.getElem?_eq_some_iff
abbrev Qdc:=@List.take_left
abbrev Qdd:=@bne_iff_ne
abbrev Qde:=@List.flatMap_map
abbrev Qdf:=@Nat.le_of_eq
abbrev Qdg:=@Option.getD_some
abbrev Qdh:=@Array.mapM_eq_mapM_toList
abbrev Qdi:=@List.getElem?_append_left
abbrev Qdj:=@List.drop_set_of_lt
abbrev Qdk:=@List.filter_eq_self
abbrev Qdl:=@List.getElem_of_mem
abbrev Qdm:=@Nat.mul_le_mul_left
abbrev Qdn:=@Bool.false_or
abbrev Qdo:=@List.filter_nil
abbrev Qdp:=@List.mem_filterMap
abbrev Qdq:=@List.Sublist.refl
abbrev Qdr:=@UInt8.toNat_lt
abbrev Qds:=@Array.getElem?_modify
abbrev Qdt:=@List.set_append_right
abbrev Qdu:=@Nat.div_lt_iff_lt_mul
abbrev Qdv:=@Bool.not_eq_true
abbrev Qdw:=@List.getElem_mem
abbrev Qdx:=@List.getElem?_of_mem
abbrev Qdy:=@List.mem_iff_getElem
abbrev Qdz:=@Nat.mul_one
abbrev Qd0:=@Nat.pow_le_pow_right
abbrev Qd1:=@Nat.mul_add_mod
abbrev Qd2:=@Nat.add_le_add_left
abbrev Qd3:=@List.nodup_nil
abbrev Qd4:=@List.take_zero
abbrev Qd5:=@Nat.eq_zero_or_pos
abbrev Qd6:=@Nat.lt_of_le_of_lt
abbrev Qd7:=@Nat.le_succ
abbrev Qd8:=@Nat.sub_mul
abbrev Qd9:=@List.take_set
abbrev Qe:=@Nat.add_assoc
abbrev Qea:=@or_false
theorem au{p:Prop}(h:p:=by omega):p:=h
theorem pY{p:Prop}(h:p:=by simp[Op.operands]):p:=h
theorem tZ{p:Prop}(h:p:=by simp only[CO];omega):p:=h
theorem mi{p:Prop}(h:p:=by decide):p:=h
theorem qb{p:Prop}(h:p:=by simp):p:=h
theorem rf{p:Prop}(h:p:=by grind):p:=h
theorem qbi{p:Prop}(h:p:=by rw[he];simp[Sl.refs,Sv.refs,Lf.refs]):p:=h
theorem qbl{p:Prop}(h:p:=by rintro rfl;exact hfr _ (nO _) (by omega) (h.al _ _ hl)):p:=h
theorem qbq{p:Prop}(h:p:=by simp[Sl.refs,Sv.refs,Lf.refs]):p:=h
theorem qbr{p:Prop}(h:p:=by rw[hmr];exact zA.2 ⟨_,hx,hlx⟩):p:=h
theorem qbt{p:Prop}(h:p:=by simpa using h):p:=h
theorem qbu{p:Prop}(h:p:=by rw[QA];omega):p:=h
theorem qb6{p:Prop}(h:p:=by simp;omega):p:=h
theorem qb7{p:Prop}(h:p:=by simp[Lf.refs]):p:=h
theorem qb8{p:Prop}(h:p:=by subst hv6;simp only[um,QA,Qcq];omega):p:=h
theorem qb9{p:Prop}(h:p:=by simpa using hj):p:=h
theorem qcb{p:Prop}(h:p:=by simpa using lift (a1:=[]) b2 _ fun x hx=>by grind):p:=h
theorem qcg{p:Prop}(h:p:=by rw[hx];simp):p:=h
theorem qch{p:Prop}(h:p:=by simp only[Op.operands,MN];grind):p:=h
theorem qci{p:Prop}(h:p:=by rw[hmr];exact zA.2 ⟨.tmp t,qP.1 ht,hl⟩):p:=h
theorem qck{p:Prop}(h:p:=by rw[hb];rfl):p:=h
theorem qcl{p:Prop}(h:p:=by simpa[zq]using hw):p:=h
theorem qcn{p:Prop}(h:p:=by simp[execOp,ho,hc,asBool]):p:=h
theorem qcp{p:Prop}(h:p:=by simp[hl]):p:=h
theorem qcs{p:Prop}(h:p:=by rw[hsz];omega):p:=h
theorem qcu{p:Prop}(h:p:=by simpa using hx):p:=h
theorem qcv{p:Prop}(h:p:=by simpa using h1):p:=h
theorem qcx{p:Prop}(h:p:=by rw[e];rfl):p:=h
theorem qcy{p:Prop}(h:p:=by simp[hy]):p:=h
open Go.RowKit
inductive Pv where
 | bool (b:Bool)
 | int (k:IntKind) (n:Int)
 | str (s:List UInt8)
structure nY where
 t:TypeId
 agg:Bool
 xs:List Pv
def Pv.val:Pv->Value
 | .bool b=> .bool b
 | .int k n=> .int k n
 | .str s=> .string ⟨s.toArray⟩
def nY.inner (i:nY):Value:=
 match i.agg,i.xs with
 | false,[x]=>x.val
 | _,a=> .agg (a.map Pv.val).toArray
def D_:Option nY->Value
 | none=> .nilIface
 | some i=> .iface i.t i.inner
def Pv.fits:Pv->Prop
 | .str s=>s.length<=9223372036854775807
 | _=>True
def au_:Option nY->Prop
 | none=>True
 | some i=>∀p∈i.xs,p.fits
inductive Dl (D:Type):Type where
 | bool (b:Bool)
 | int (k:IntKind) (n:Int)
 | str (s:List UInt8)
 | dat (d:D)
 | aJq
inductive Xt (D:Type):Type where
 | ifd (t:TypeId) (agg:Bool) (xs:List (Dl D))
 | clo (f:FuncId) (agg:Bool) (xs:List (Dl D))
 | clip (d:D)
inductive Lf (D:Type):Type where
 | any
 | val (v:Value)
 | bool (b:Bool)
 | int (k:IntKind) (n:Int)
 | str (s:List UInt8)
 | ptr (l off:Nat)
 | dat (d:D)
 | elt (d:D) (i j:Nat)
 | fn (f:FuncId) (caps:List Nat)
 | own (l:Nat)
 | opt (l i j sz:Nat)
 | unk (p:Bool->Prop)
 | part (l i j sz:Nat) (f:D->Option D)
 | glb (i:Nat)
 | Ze (v:Option nY)
 | xt (e:Xt D)
inductive Bk (D:Type):Type where
 | cells (cs:List (Lf D))
 | row (e:TypeId) (d:D)
 | xZ (d:D)
 | iter (s:List UInt8) (pos:Nat)
 | map (d:D)
 | tc (t:TypeId) (cs:List (Lf D))
inductive Sv (D:Type):Type where
 | lf (x:Lf D)
 | agg (xs:List (Lf D))
inductive Sl (D:Type):Type where
 | one (x:Sv D)
 | x8 (xs:List (Sv D))
structure Mp (D:Type) where
 kind:Nat
 agg:Bool
 zero:List Pv
 kvs:List (Pv×List Pv)
 has:Pv->Bool
 get:Pv->List (Lf D)
 put:Pv->List Pv->D
 len:Nat
structure Sh (D:Type) where
 size:D->Nat
 len:D->Nat
 cell:D->Nat->Nat->Lf D
 make:TypeId->Nat->List (Lf D)->Option D
 zero:TypeId->Nat->List (Lf D)->Option D
 set:D->Nat->Nat->List (Lf D)->Option D
 cat:D->D->Option D
 sub:D->Nat->Nat->Option D
 SX:Nat->Option D
 text:TypeId->List UInt8->Option D
 mp:D->Option (Mp D):=fun _=>none
 run:Bool:=false
 azD:TypeId->Option D:=fun _=>none
def ui (b:Bool)(a:List Pv):Value:=
 match b,a with
 | false,[x]=>x.val
 | _,a=> .agg (a.map Pv.val).toArray
def axP (w:World)(c:Bool)(a:List (Pv×List Pv))(v:Value):Prop:=
 (∀p∈a,p.1.fits/\∀x∈p.2,x.fits)/\((v= .map none/\a=[])\/
  ∃b d n,v= .map (some b)/\w.heap[b]? =some (.map d n)/\d.toList.map (fun e=>(e.key,e.val))=a.map fun p=>(p.1.val,ui c p.2))
def aa_ {D:Type}(S:Sh D)(a i j:Nat)(d:D):Option D:=if Nat.beq a (S.size d)then S.sub d i j else none
def Lf.plain {D:Type}:Lf D->Value->Prop
 | .val x,u=>u=x
 | .bool b,u=>u= .bool b
 | .int k n,u=>u= .int k n
 | .str s,u=>u= .string ⟨s.toArray⟩/\s.length<=9223372036854775807
 | .dat _,_=>True
 | .Ze v,u=>u=D_ v/\au_ v
 | _,_=>False
inductive Cf {D:Type} (S:Sh D) (w:World):D->Value->Prop where
 | mp (d:D) (m:Mp D) (v:Value) (hm:S.mp d=some m) (hl:S.len d=0) (hz:S.size d=0) (h:axP w m.agg m.kvs v):Cf S w d v
 | mk (d:D) (hno:S.mp d=none) (a:Option Addr) (cap:Nat) (U:Nat->Nat->Value) (hcap:S.len d<=cap) (hlen:S.len d<=9223372036854775807)
   (hcell:∀i j,i < S.len d->j < S.size d->∃ad,a=some ad/\w.cell? (ad.add (i*S.size d+j))=some (U i j))
   (hpl:∀i j,i < S.len d->j < S.size d->Lf.plain (S.cell d i j) (U i j))
   (hdat:∀i j d',i < S.len d->j < S.size d->S.cell d i j= .dat d'->Cf S w d' (U i j)):Cf S w d (.slice a (S.len d) cap)
def dN {D:Type}(S:Sh D)(M:Nat->Prop)(w:World)(d:D)(v:Value):Prop:=
 ∀w':World,(∀b,b < w.heap.size->¬M b->w'.heap[b]? =w.heap[b]?)->Cf S w' d v
def Lf.kF {D:Type}:Lf D->Bool
 | .bool _ | .int _ _ | .str _ | .dat _ | .Ze _=>true
 | _=>false
def Dl.Rel {D:Type}(S:Sh D)(M:Nat->Prop)(w:World):Dl D->Value->Prop
 | .bool b,v=>v= .bool b
 | .int k n,v=>v= .int k n
 | .str s,v=>v= .string ⟨s.toArray⟩/\s.length<=9223372036854775807
 | .dat d,v=>dN S M w d v
 | .aJq,v=>v= .slice none 0 0
def vW {D:Type}(S:Sh D)(M:Nat->Prop)(w:World):List (Dl D)->List Value->Prop
 | [],[]=>True
 | x::b,v::a=>x.Rel S M w v/\vW S M w b a
 | _,_=>False
def Qm {D:Type}(S:Sh D)(M:Nat->Prop)(w:World):Bool->List (Dl D)->Value->Prop
 | false,[x],u=>x.Rel S M w u
 | true,b,u=>∃a:List Value,u= .agg a.toArray/\vW S M w b a
 | _,_,_=>False
def Xt.Rel {D:Type}(S:Sh D)(M:Nat->Prop)(w:World):Xt D->Value->Prop
 | .ifd t b c,v=>∃u,v= .iface t u/\Qm S M w b c u
 | .clo f b c,v=>∃u,v= .func (.func f) #[u] #[]/\Qm S M w b c u
 | .clip d,v=>∃a,v= .slice a (S.len d) (S.len d)/\dN S M w d v
def Lf.Rel {D:Type}(S:Sh D)(M:Nat->Prop)(w:World)(g:Nat->Option Value):Lf D->Value->Prop
 | .any,_=>True
 | .val x,v=>v=x
 | .bool b,v=>v= .bool b
 | .int k n,v=>v= .int k n
 | .str s,v=>v= .string ⟨s.toArray⟩/\s.length<=9223372036854775807
 | .ptr l o,v=>∃b,g l=some (.pointer (some ⟨b,0,none⟩))/\v= .pointer (some ⟨b,o,none⟩)
 | .dat d,v=>dN S M w d v
 | .elt d i j,v=>∃a n c,dN S M w d (.slice (some a) n c)/\i < S.len d/\v= .pointer (some (a.add (i*S.size d+j)))
 | .fn f m,v=>∃q:List Value,v= .func (.func f) #[] q.toArray/\m.map g=q.map some
 | .own l,v=>g l=some v
 | .opt l i j h,v=>∃b n c,g l=some (.slice (some ⟨b,0,none⟩) n c)/\v= .pointer (some ⟨b,i*h+j,none⟩)
 | .unk p,v=>∃b,v= .bool b/\p b
 | .part l i j h f,v=>∃a n c,g l=some (.slice a n c)/\v=sliced a i j c h/\i<=j/\j<=n/\f=aa_ S h i j
 | .glb i,v=>v= .pointer (some ⟨i,0,none⟩)
 | .Ze x,v=>v=D_ x/\au_ x
 | .xt e,v=>e.Rel S M w v
def bu {D:Type}(S:Sh D)(M:Nat->Prop)(w:World)(g:Nat->Option Value):List (Lf D)->List Value->Prop
 | [],[]=>True
 | x::a,v::b=>x.Rel S M w g v/\bu S M w g a b
 | _,_=>False
def Sv.Rel {D:Type}(S:Sh D)(M:Nat->Prop)(w:World)(g:Nat->Option Value):Sv D->Value->Prop
 | .lf x,v=>x.Rel S M w g v
 | .agg b,v=>∃a:List Value,v= .agg a.toArray/\bu S M w g b a
def jh {D:Type}(S:Sh D)(M:Nat->Prop)(w:World)(g:Nat->Option Value):List (Sv D)->List Value->Prop
 | [],[]=>True
 | x::a,v::b=>x.Rel S M w g v/\jh S M w g a b
 | _,_=>False
def Sl.Rel {D:Type}(S:Sh D)(M:Nat->Prop)(w:World)(g:Nat->Option Value):Sl D->Value->Prop
 | .one x,v=>x.Rel S M w g v
 | .x8 b,v=>∃a:List Value,v= .tuple a.toArray/\jh S M w g b a
structure Keeps (M:Nat->Prop)(w:World)(M':Nat->Prop)(w':World):Prop where
 size:w.heap.size<=w'.heap.size
 same:∀b,b < w.heap.size->¬M b->¬M' b/\w'.heap[b]? =w.heap[b]?
section
variable {D:Type}{S:Sh D}{M M':Nat->Prop}{w w':World}{g g':Nat->Option Value}
theorem dN.keep {d:D}{v:Value}(h:dN S M w d v)(k:Keeps M w M' w'):dN S M' w' d v:=fun c f=>
 h c fun b a e=>(f b (Qb5 a k.size) (k.same b a e).1).trans (k.same b a e).2
theorem Dl.Rel.keep {x:Dl D}{v:Value}(h:x.Rel S M w v)(k:Keeps M w M' w'):x.Rel S M' w' v:=by
 cases x with
 | dat d=>exact dN.keep h k
 | _=>exact h
theorem vW.keep:∀{a:List (Dl D)} {b:List Value},vW S M w a b->Keeps M w M' w'->vW S M' w' a b
 | [],[],_,_=>trivial
 | x::a,v::b,h,k=>⟨h.1.keep k,vW.keep h.2 k⟩
theorem Qm.keep:∀{b:Bool} {a:List (Dl D)} {u:Value},Qm S M w b a u->Keeps M w M' w'->Qm S M' w' b a u
 | false,[x],u,h,k=>Dl.Rel.keep h k
 | true,a,u,h,k=>by obtain⟨d,c,e⟩:=h;exact⟨d,c,e.keep k⟩
theorem Xt.Rel.keep {e:Xt D}{v:Value}(h:e.Rel S M w v)(k:Keeps M w M' w'):e.Rel S M' w' v:=by
 cases e with
 | ifd t g i=>obtain⟨u,b,c⟩:=h;exact⟨u,b,c.keep k⟩
 | clo f g i=>obtain⟨u,b,c⟩:=h;exact⟨u,b,c.keep k⟩
 | clip d=>obtain⟨a,b,c⟩:=h;exact⟨a,b,dN.keep c k⟩
theorem dN.mono {d:D}{v:Value}{a:Nat->Prop}(h:dN S M w d v)(i:∀b,a b->M b):dN S a w d v:=fun c j=>h c fun b g e=>j b g fun f=>e (i b f)
theorem Dl.Rel.mono {a:Nat->Prop}{x:Dl D}{v:Value}(h:x.Rel S M w v)(c:∀b,a b->M b):x.Rel S a w v:=by
 cases x with
 | dat d=>exact dN.mono h c
 | _=>exact h
theorem vW.mono {a:Nat->Prop}(e:∀b,a b->M b):∀{c:List (Dl D)} {d:List Value},vW S M w c d->vW S a w c d
 | [],[],_=>trivial
 | x::c,v::d,h=>⟨h.1.mono e,vW.mono e h.2⟩
theorem Qm.mono {a:Nat->Prop}(e:∀b,a b->M b):∀{d:Bool} {c:List (Dl D)} {u:Value},Qm S M w d c u->Qm S a w d c u
 | false,[x],u,h=>Dl.Rel.mono h e
 | true,c,u,h=>by obtain⟨g,f,i⟩:=h;exact⟨g,f,i.mono e⟩
theorem Xt.Rel.mono {g:Nat->Prop}{e:Xt D}{v:Value}(h:e.Rel S M w v)(j:∀b,g b->M b):e.Rel S g w v:=by
 cases e with
 | ifd t k l=>obtain⟨u,c,i⟩:=h;exact⟨u,c,i.mono j⟩
 | clo f k l=>obtain⟨u,c,i⟩:=h;exact⟨u,c,i.mono j⟩
 | clip d=>obtain⟨a,c,i⟩:=h;exact⟨a,c,dN.mono i j⟩
def ae9 (S:Sh D)(M:Nat->Prop)(w:World):Prop:=∀i d,S.SX i=some d->dN S M w d (.slice (some ⟨i,0,none⟩) (S.len d) (S.len d))
theorem ae9.keep (h:ae9 S M w)(k:Keeps M w M' w'):ae9 S M' w':=fun i d a=>(h i d a).keep k
theorem ae9.mono {a:Nat->Prop}(h:ae9 S M w)(c:∀b,a b->M b):ae9 S a w:=fun i d e=>(h i d e).mono c
def More (g a:Nat->Option Value):Prop:=∀l v,g l=some v->a l=some v
theorem More.refl (g:Nat->Option Value):More g g:=fun _ _ h=>h
theorem More.map:∀{a:List Nat} {b:List Value},More g g'->a.map g=b.map some->a.map g'=b.map some
 | [],[],_,_=>rfl
 | c::a,v::b,m,h=>by
  simp only[Kq,Qc5]at h⊢;exact⟨m _ _ h.1,More.map m h.2⟩
 | [],_::_,_,h=>by simp at h
 | _::_,[],_,h=>by simp at h
theorem Lf.Rel.keep {x:Lf D}{v:Value}(h:x.Rel S M w g v)(k:Keeps M w M' w')(m:More g g'):x.Rel S M' w' g' v:=by
 cases x with
 | any=>trivial
 | val x=>exact h
 | bool b=>exact h
 | int k n=>exact h
 | str s=>exact h
 | ptr l o=>obtain⟨b,c,q⟩:=h;exact⟨b,m _ _ c,q⟩
 | dat d=>exact dN.keep h k
 | elt d i j=>obtain⟨a,n,r,c,q⟩:=h;exact⟨a,n,r,c.keep k,q⟩
 | fn f u=>obtain⟨y,c,q⟩:=h;exact⟨y,c,More.map m q⟩
 | own l=>exact m _ _ h
 | opt l i j t=>obtain⟨b,n,r,c,q⟩:=h;exact⟨b,n,r,m _ _ c,q⟩
 | unk p=>exact h
 | part l i j t f=>obtain⟨a,n,r,c,q⟩:=h;exact⟨a,n,r,m _ _ c,q⟩
 | glb i=>exact h
 | Ze x=>exact h
 | xt e=>exact Xt.Rel.keep h k
theorem bu.keep:∀{a:List (Lf D)} {b:List Value},bu S M w g a b->Keeps M w M' w'->More g g'->bu S M' w' g' a b
 | [],[],_,_,_=>trivial
 | x::a,v::b,h,k,m=>⟨h.1.keep k m,bu.keep h.2 k m⟩
theorem bu.length:∀{b:List (Lf D)} {a:List Value},bu S M w g b a->b.length=a.length
 | [],[],_=>rfl
 | _::_,_::_,h=>by simp[bu.length h.2]
theorem bu.get:∀{a:List (Lf D)} {b:List Value} (i:Nat) {x:Lf D},bu S M w g a b->a[i]? =some x->∃v,b[i]? =some v/\x.Rel S M w g v
 | [],[],i,x,_,h=>by simp at h
 | y::a,v::b,0,x,h,e=>⟨v,rfl,by simp at e;exact e▸h.1⟩
 | y::a,v::b,i+1,x,h,e=>by simpa using bu.get i h.2 (by simpa using e)
theorem Sv.Rel.keep {x:Sv D}{v:Value}(h:x.Rel S M w g v)(k:Keeps M w M' w')(m:More g g'):x.Rel S M' w' g' v:=by
 cases x with
 | lf x=>exact Lf.Rel.keep h k m
 | agg c=>obtain⟨a,rfl,b⟩:=h;exact⟨a,rfl,b.keep k m⟩
theorem jh.keep:∀{a:List (Sv D)} {b:List Value},jh S M w g a b->Keeps M w M' w'->More g g'->jh S M' w' g' a b
 | [],[],_,_,_=>trivial
 | x::a,v::b,h,k,m=>⟨h.1.keep k m,jh.keep h.2 k m⟩
theorem jh.get:∀{a:List (Sv D)} {b:List Value} (i:Nat) {x:Sv D},jh S M w g a b->a[i]? =some x->∃v,b[i]? =some v/\x.Rel S M w g v
 | [],[],i,x,_,h=>by simp at h
 | y::a,v::b,0,x,h,e=>⟨v,rfl,by simp at e;exact e▸h.1⟩
 | y::a,v::b,i+1,x,h,e=>by simpa using jh.get i h.2 (by simpa using e)
theorem jh.length:∀{b:List (Sv D)} {a:List Value},jh S M w g b a->b.length=a.length
 | [],[],_=>rfl
 | _::_,_::_,h=>by simp[jh.length h.2]
theorem Sl.Rel.keep {x:Sl D}{v:Value}(h:x.Rel S M w g v)(k:Keeps M w M' w')(m:More g g'):x.Rel S M' w' g' v:=by
 cases x with
 | one x=>exact Sv.Rel.keep h k m
 | x8 c=>obtain⟨a,rfl,b⟩:=h;exact⟨a,rfl,b.keep k m⟩
theorem dN.cell {d:D}{a:Addr}{n z i j:Nat}(h:dN S M w d (.slice (some a) n z))(hi:i < S.len d)(hj:j < S.size d):
  ∃u,w.cell? (a.add (i*S.size d+j))=some u/\(S.cell d i j).Rel S M w g u:=by
 classical
 let t:World:={w with heap:=(Array.range w.heap.size).map fun b=>if M b then Obj.map #[] 0 else(w.heap[b]?).getD (Obj.map #[] 0)}
 have C:∀b,b < w.heap.size->¬M b->t.heap[b]? =w.heap[b]? :=by
  grind
 have A:∀p:Addr,(t.cell? p).isSome=true->p.block < w.heap.size/\¬M p.block:=by
  intro p Q;simp only[World.cell?,t]at Q
  grind
 have q:∀w':World,(∀b,b < w.heap.size->¬M b->w'.heap[b]? =w.heap[b]?)->∃u,w'.cell? (a.add (i*S.size d+j))=some u/\Lf.plain (S.cell d i j) u/\∀y,S.cell d i j= .dat y->Cf S w' y u:=by
  intro w' r;generalize hv:Value.slice (some a) n z=v at h;have R:=h w' r;cases R with
  | mp d m v B hl Z h=>omega
  | mk d X a' O U H I F c P=>
   grind
 obtain⟨ux,E,_⟩:=q t C;obtain⟨N,B⟩:=A _ (by rw[E];rfl);obtain⟨u,G,c,V⟩:=q w (fun _ _ _=>rfl);refine⟨u,G,?_⟩;generalize hx:S.cell d i j=x at*;cases x with
 | val x=>exact c
 | bool b=>exact c
 | int k n=>exact c
 | str s=>exact c
 | dat y=>
  intro w' r;obtain⟨J,W,_,T⟩:=q w' r;have:J=u:=by
   have e:w'.cell? (a.add (i*S.size d+j))=w.cell? (a.add (i*S.size d+j)):=by
    simp only[World.cell?,r _ N B]
   grind
  grind
 | any=>exact c.elim
 | ptr l o=>exact c.elim
 | elt y Y j'=>exact c.elim
 | fn f L=>exact c.elim
 | own l=>exact c.elim
 | opt l i j K=>exact c.elim
 | unk p=>exact c.elim
 | part l i j K f=>exact c.elim
 | glb i=>exact c.elim
 | Ze x=>exact c
 | xt e=>exact c.elim
theorem dN.slice {d:D}{v:Value}(h:dN S M w d v)(o:0 < S.size d):∃a b,v= .slice a (S.len d) b/\S.len d<=b:=by
 have i:=h w (fun _ _ _=>rfl);cases i with
 | mp d m v p n k h=>omega
 | mk d j a b U g e c l f=>grind
theorem dN.slice' {d:D}{v:Value}(h:dN S M w d v)(o:S.mp d=none):∃a b,v= .slice a (S.len d) b/\S.len d<=b:=by
 have i:=h w (fun _ _ _=>rfl);cases i with
 | mp d m v p n k h=>grind
 | mk d j a b U g e c l f=>grind
theorem dN.form {d:D}{v:Value}(h:dN S M w d v):(∃a c,v= .slice a (S.len d) c)\/∃r,v= .map r:=by
 have j:=h w (fun _ _ _=>rfl);cases j with
 | mp d m v p o l h=>rcases h.2 with⟨h,_⟩ | ⟨b,_,_,h,_⟩<;>exact .inr ⟨_,h⟩
 | mk d k a c U i f e n g=>grind
theorem dN.map {d:D}{v:Value}{m:Mp D}(h:dN S M w d v)(q:S.mp d=some m):axP w m.agg m.kvs v:=by
 have g:=h w (fun _ _ _=>rfl);cases g with
 | mp d p v l o j h=>grind
 | mk d i a k U f c b n e=>grind
theorem dN.alY {d:D}{v:Value}(h:dN S M w d v):S.len d<=9223372036854775807:=by
 have g:=h w (fun _ _ _=>rfl);cases g with
 | mp d m v o l n h=>omega
 | mk d i a j U f b c k e=>exact b
theorem dN.Cm {d:D}{a:Option Addr}{n b i:Nat}(h:dN S M w d (.slice a n b))(y:i < S.len d)(r:0 < S.size d):∃f,a=some f:=by
 generalize t:Value.slice a n b=v at h;have l:=h w (fun _ _ _=>rfl);cases l with
 | mp d m v q x s h=>omega
 | mk d p u k U e g c o j=>
  grind
end
end Go.Vc
namespace Go.Vc
open Go.RowKit
def upd {a:Type}(f:Nat->a)(k:Nat)(v:a):Nat->a:=fun n=>if n=k then v else f n
theorem upd_same {a:Type}(f:Nat->a)(k:Nat)(v:a):upd f k v k=v:=by simp[upd]
theorem df {a:Type}(f:Nat->a)(k n:Nat)(v:a)(h:n≠k):upd f k v n=f n:=by simp[upd,h]
def fJ:Value->Option Nat
 | .pointer (some a)=>some a.block
 | .slice (some a) _ _=>some a.block
 | .map (some r)=>some r
 | _=>none
def isRef:Value->Bool
 | .pointer _ | .slice _ _ _ | .map _=>true
 | _=>false
structure Bs where
 w:World
 X:Nat->Prop
def Bs.Mine (B:Bs)(b:Nat):Prop:=B.w.heap.size<=b\/B.X b
structure Gg (B:Bs)(w':World):Prop where
 os:w'.os=B.w.os
 tape:w'.tape=B.w.tape
 output:w'.output=B.w.output
 size:B.w.heap.size<=w'.heap.size
 block:∀k,k < B.w.heap.size->¬B.X k->w'.heap[k]? =B.w.heap[k]?
theorem Gg.refl (B:Bs):Gg B B.w:=⟨rfl,rfl,rfl,nO _,fun _ _ _=>rfl⟩
theorem Gg.grow {B:Bs}{w a:World}(h:Gg B w)(k:Below w.heap.size w a):Gg B a:=
 ⟨k.os.trans h.os,k.tape.trans h.tape,k.output.trans h.output,yI h.size k.size,fun i b c=>(k.block i (Qb5 b h.size)).trans (h.block i b c)⟩
def hot {D:Type}:Option (Bk D)->Bool
 | some (.cells _)=>true
 | some (.row _ _)=>true
 | some (.iter _ _)=>true
 | some (.map _)=>true
 | some (.tc _ _)=>true
 | _=>false
def aDS (w:World)(b:Nat)(t:TypeId)(a:List Value):Prop:=
 ∃u0,w.heap[b]? =some (.cells (List.toArray (u0::a)) t (0,0))/\(u0= .pointer none\/u0= .pointer (some ⟨b,0,none⟩))
theorem aDS.same {w a:World}{b:Nat}{t:TypeId}{c:List Value}(h:aDS w b t c)(e:a.heap[b]? =w.heap[b]?):aDS a b t c:=by
 obtain⟨u0,d,f⟩:=h;exact⟨u0,e.trans d,f⟩
def zi {D:Type}(S:Sh D)(M:Nat->Prop)(w:World)(g:Nat->Option Value)(B:Bs):Bk D->Value->Prop
 | .cells cs,v=>∃b a t,v= .pointer (some ⟨b,0,none⟩)/\B.Mine b/\w.heap[b]? =some (.cells (List.toArray a) t (0,0))/\bu S M w g cs a
 | .xZ d,v=>dN S M w d v
 | .iter s p,v=>s.length<=9223372036854775807/\∃b,v= .pointer (some ⟨b,0,none⟩)/\B.Mine b/\w.heap[b]? =some (.stringIter ⟨s.toArray⟩ p)
 | .map d,v=>∃m b c n,S.mp d=some m/\(∀p∈m.kvs,p.1.fits/\∀x∈p.2,x.fits)/\v= .map (some b)/\B.Mine b/\w.heap[b]? =some (.map c n)/\c.toList.map (fun e=>(e.key,e.val))=m.kvs.map fun p=>(p.1.val,ui m.agg p.2)
 | .tc t cs,v=>∃b a,v= .pointer (some ⟨b,0,none⟩)/\B.Mine b/\aDS w b t a/\bu S M w g cs a
 | .row e d,v=>((∀b,fJ v=some b->B.Mine b)/\S.len d<=9223372036854775807/\S.mp d=none)/\∃f,w.ownsRow 0 e (S.size d) v (S.len d) f/\
   ∀i j,i < S.len d->j < S.size d->∃u,f[i*S.size d+j]? =some u/\(S.cell d i j).kF=true/\(S.cell d i j).Rel S M w g u
def bi {D:Type}(N:Nat->Prop)(a:Nat->Option (Bk D))(g:Nat->Option Value):Nat->Prop:=
 fun b=>N b\/∃l v,hot (a l)=true/\g l=some v/\fJ v=some b
structure Hp {D:Type}(S:Sh D)(w0:Bs)(N:Nat->Prop)(blk:Nat->Option (Bk D))(g:Nat->Option Value)(al:Nat->Prop)(w:World):Prop where
 below:Gg w0 w
 hN:∀b,N b->b < w0.w.heap.size/\¬w0.X b
 dW:∀l bk,blk l=some bk->∃v,g l=some v/\zi S (bi N blk g) w g w0 bk v
 sep:∀l l' v v' b,hot (blk l)=true->hot (blk l')=true->g l=some v->g l'=some v'->fJ v=some b->fJ v'=some b->l=l'
 al:∀l v,g l=some v->al l
 refs:∀l v,g l=some v->isRef v=true
 gl:ae9 S (bi N blk g) w
section
variable {D:Type}{S:Sh D}{M M' N:Nat->Prop}{w w':World}{w0:Bs}{g g':Nat->Option Value}{blk:Nat->Option (Bk D)}{al:Nat->Prop}{B:Bs}
theorem G5 {w:World}{b:Nat}{o:Obj}(h:w.heap[b]? =some o):b < w.heap.size:=by
 grind
theorem zi.lt {i:Bk D}{v:Value}{b:Nat}(h:zi S M w g B i v)(c:hot (some i)=true)(a:fJ v=some b):b < w.heap.size/\B.Mine b:=by
 cases i with
 | cells cs=>
  obtain⟨j,l,t,rfl,f,c,_⟩:=h;simp only[fJ,P7]at a
  grind
 | row e d=>
  obtain⟨k,u,⟨_,h⟩,_⟩:=h;rcases h with⟨rfl,_⟩ | ⟨g',q,o,rfl,f,c,_⟩
  ·simp[fJ]at a
  ·have:=k.1 b a;simp only[fJ,P7]at a
   grind
 | xZ d=>simp[hot]at c
 | iter s p=>
  obtain⟨_,j,rfl,f,c⟩:=h;simp only[fJ,P7]at a
  grind
 | map d=>
  obtain⟨m,j,r,n,_,_,rfl,f,c,_⟩:=h;simp only[fJ,P7]at a
  grind
 | tc t cs=>
  obtain⟨j,l,rfl,f,⟨u0,c,_⟩,_⟩:=h;simp only[fJ,P7]at a
  grind
theorem zi.isRef {c:Bk D}{v:Value}(h:zi S M w g B c v):isRef v=true:=by
 cases c with
 | cells cs=>obtain⟨b,i,t,rfl,_⟩:=h;rfl
 | row e d=>
  obtain⟨_,l,⟨_,h⟩,_⟩:=h;rcases h with⟨rfl,_⟩ | ⟨g',f,j,rfl,_⟩<;>rfl
 | xZ d=>
  rcases dN.form h with⟨a,f,rfl⟩ | ⟨r,rfl⟩<;>rfl
 | iter s p=>obtain⟨_,b,rfl,_⟩:=h;rfl
 | map d=>obtain⟨m,b,k,n,_,_,rfl,_⟩:=h;rfl
 | tc t cs=>obtain⟨b,i,rfl,_⟩:=h;rfl
theorem zi.keep {o:Bk D}{v:Value}(h:zi S M w g B o v)(k:Keeps M w M' w')(m:More g g')(f:hot (some o)=true->∀b,fJ v=some b->w'.heap[b]? =w.heap[b]?):zi S M' w' g' B o v:=by
 cases o with
 | cells cs=>
  obtain⟨b,x,t,rfl,c,a,l⟩:=h;exact⟨b,x,t,rfl,c,(f rfl b rfl).trans a,l.keep k m⟩
 | row e d=>
  obtain⟨r,F,⟨y,h⟩,J⟩:=h;refine⟨r,F,⟨y,?_⟩,fun i j K G=> ?_⟩
  ·rcases h with h | ⟨g',z,A,rfl,c,a,q⟩
   ·exact .inl h
   ·exact .inr ⟨g',z,A,rfl,c,(f rfl g' rfl).trans a,q⟩
  ·obtain⟨u,I,L,H⟩:=J i j K G;exact⟨u,I,L,H.keep k m⟩
 | xZ d=>exact dN.keep h k
 | iter s p=>
  obtain⟨y,b,rfl,c,a⟩:=h;exact⟨y,b,rfl,c,(f rfl b rfl).trans a⟩
 | map d=>
  obtain⟨m,b,E,n,r,C,rfl,c,a,l⟩:=h;exact⟨m,b,E,n,r,C,rfl,c,(f rfl b rfl).trans a,l⟩
 | tc t cs=>
  obtain⟨b,x,rfl,c,a,l⟩:=h;exact⟨b,x,rfl,c,a.same (f rfl b rfl),l.keep k m⟩
theorem lg {x:Option (Bk D)}(h:hot x=true):∃a,x=some a/\hot (some a)=true:=by
 cases x with
 | none=>simp[hot]at h
 | some a=>grind
theorem Keeps.refl (M:Nat->Prop)(w:World):Keeps M w M w:=⟨nO _,fun _ _ h=>⟨h,rfl⟩⟩
theorem Hp.at (h:Hp S w0 N blk g al w){l:Nat}{v:Value}(c:hot (blk l)=true)(j:g l=some v):∃a,blk l=some a/\hot (some a)=true/\zi S (bi N blk g) w g w0 a v:=by
 obtain⟨a,b,f⟩:=lg c;obtain⟨i,e,d⟩:=h.dW l a b
 grind
theorem Hp.mlt (h:Hp S w0 N blk g al w){b:Nat}(a:bi N blk g b):b < w.heap.size:=by
 rcases a with a | ⟨l,v,e,i,d⟩
 ·exact Qb5 (h.hN b a).1 h.below.size
 ·obtain⟨j,_,f,c⟩:=h.at e i;exact(c.lt f d).1
theorem Hp.grow (h:Hp S w0 N blk g al w)(a:Below w.heap.size w w'):Hp S w0 N blk g al w'/\Keeps (bi N blk g) w (bi N blk g) w':=by
 have d:Keeps (bi N blk g) w (bi N blk g) w':=⟨a.size,fun b e m=>⟨m,a.block b e⟩⟩;refine⟨⟨h.below.grow a,h.hN,fun l j i=> ?_,h.sep,h.al,h.refs,h.gl.keep d⟩,d⟩;obtain⟨v,n,c⟩:=h.dW l j i;exact⟨v,n,c.keep d (More.refl _) fun k b f=>a.block b (c.lt k f).1⟩
theorem Hp.add (h:Hp S w0 N blk g al w)(z:Below w.heap.size w w'){l:Nat}{bk:Bk D}{v:Value}(T:¬al l)(Y:∀b,fJ v=some b->w.heap.size<=b)
  (E:∀I,Keeps (bi N blk g) w I w'->(∀c,I c->bi N blk g c\/fJ v=some c)->zi S I w' (upd g l (some v)) w0 bk v):
  Hp S w0 N (upd blk l (some bk)) (upd g l (some v)) (fun n=>al n\/n=l) w'/\Keeps (bi N blk g) w (bi N (upd blk l (some bk)) (upd g l (some v))) w'/\More g (upd g l (some v)):=by
 have X:g l=none:=by
  cases V:g l with
  | none=>rfl
  | some u=>exact absurd (h.al l u V) T
 have W:blk l=none:=by
  cases U:blk l with
  | none=>rfl
  | some s=>
   obtain⟨u,J,_⟩:=h.dW l s U
   grind
 have K:More g (upd g l (some v)):=fun n u e=>by
  rw[df _ _ _ _ rf];exact e
 have r:Keeps (bi N blk g) w (bi N (upd blk l (some bk)) (upd g l (some v))) w':=by
  refine⟨z.size,fun b O G=>⟨?_,z.block b O⟩⟩;rintro(q | ⟨k,u,f,i,t⟩)
  ·exact G (.inl q)
  ·by_cases d:k=l
   ·subst d;rw[upd_same]at i
    grind
   ·rw[df _ _ _ _ d]at f i;exact G (.inr ⟨k,u,f,i,t⟩)
 have A:∀c,bi N (upd blk l (some bk)) (upd g l (some v)) c->bi N blk g c\/fJ v=some c:=by
  rintro c (q | ⟨k,u,f,i,t⟩)
  ·exact .inl (.inl q)
  ·by_cases d:k=l
   ·subst d;rw[upd_same]at i
    grind
   ·rw[df _ _ _ _ d]at f i;exact .inl (.inr ⟨k,u,f,i,t⟩)
 refine⟨⟨h.below.grow z,h.hN,fun k s j=> ?_,?_,?_,?_,h.gl.keep r⟩,r,K⟩
 ·by_cases d:k=l
  ·subst d;rw[upd_same]at j;injection j with j
   subst j;exact⟨v,upd_same _ _ _,E _ r A⟩
  ·rw[df _ _ _ _ d]at j⊢;obtain⟨u,J,P⟩:=h.dW k s j;exact⟨u,J,P.keep r K fun R b M=>z.block b (P.lt R M).1⟩
 ·intro a b Q L c H y o p C B;have F:∀n u c,n≠l->hot (upd blk l (some bk) n)=true->upd g l (some v) n=some u->fJ u=some c->c < w.heap.size:=by
   intro n u c e f i t;rw[df _ _ _ _ e]at f i;exact h.mlt (.inr ⟨n,u,f,i,t⟩)
  by_cases m:a=l
  ·by_cases x:b=l
   ·rw[m,x]
   ·have f:=F b L c x y p B;subst m;rw[upd_same]at o
    grind
  ·by_cases x:b=l
   ·have f:=F a Q c m H o C;subst x;rw[upd_same]at p
    grind
   ·rw[df _ _ _ _ m]at H o;rw[df _ _ _ _ x]at y p;exact h.sep a b Q L c H y o p C B
 ·intro n u e;by_cases d:n=l
  ·exact .inr d
  ·rw[df _ _ _ _ d]at e;exact .inl (h.al n u e)
 ·intro n u e;by_cases d:n=l
  ·subst d;rw[upd_same]at e;injection e with e
   subst e;exact(E _ r A).isRef
  ·rw[df _ _ _ _ d]at e;exact h.refs n u e
theorem Hp.write (h:Hp S w0 N blk g al w){l b:Nat}{y bk':Bk D}{v:Value}(K:blk l=some y)(I:hot (some y)=true)(C:hot (some bk')=true)(A:g l=some v)(x:fJ v=some b)
  (H:w'.os=w.os) (E:w'.tape=w.tape) (z:w'.output=w.output) (q:w'.heap.size=w.heap.size) (f:∀n,n≠b->w'.heap[n]? =w.heap[n]?)
  (W:Keeps (bi N blk g) w (bi N blk g) w'->zi S (bi N blk g) w' g w0 bk' v):
  Hp S w0 N (upd blk l (some bk')) g al w'/\Keeps (bi N blk g) w (bi N (upd blk l (some bk')) g) w':=by
 have j:∀n,hot (upd blk l (some bk') n)=hot (blk n):=by
  intro n;by_cases m:n=l
  ·subst m;simp[upd_same,K,I,C]
  ·rw[df _ _ _ _ m]
 have r:bi N (upd blk l (some bk')) g=bi N blk g:=by
  funext c;simp only[bi,j]
 have Q:bi N blk g b:= .inr ⟨l,v,by grind,A,x⟩;obtain⟨X,i,L⟩:=h.dW l y K;rw[A]at i;injection i with i
 subst i;have J:=(L.lt I x).2;have s:Keeps (bi N blk g) w (bi N blk g) w':=⟨Qdf q.symm,fun c _ p=>⟨p,f c (fun e=>p (e▸Q))⟩⟩;refine⟨⟨⟨H.trans h.below.os,E.trans h.below.tape,z.trans h.below.output,q▸h.below.size,fun k P M=>(f k ?_).trans (h.below.block k P M)⟩,h.hN,?_,?_,h.al,h.refs,by rw[r];exact h.gl.keep s⟩,r▸s⟩
 ·rintro rfl;rcases J with O | O
  ·omega
  ·exact M O
 ·intro n G t;rw[r];by_cases m:n=l
  ·subst m;rw[upd_same]at t
   grind
  ·rw[df _ _ _ _ m]at t;obtain⟨u,B,T⟩:=h.dW n G t;refine⟨u,B,T.keep s (More.refl _) fun V c o=>f c ?_⟩;rintro rfl;exact m (h.sep n l u v c rf rf B A o x)
 ·intro a c U R d F o;rw[j]at F o;exact h.sep a c U R d F o
theorem Hp.aMt (h:Hp S w0 N blk g al w)(l:Nat)(x:Option (Bk D))(B:hot x=false)(p:∀i,x=some i->∃v,g l=some v/\zi S (bi N (upd blk l x) g) w g w0 i v):
  Hp S w0 N (upd blk l x) g al w/\Keeps (bi N blk g) w (bi N (upd blk l x) g) w:=by
 have f:∀n,hot (upd blk l x n)=true->hot (blk n)=true:=by
  intro n e;by_cases m:n=l
  ·subst m;rw[upd_same,B]at e;cases e
  ·rwa [df _ _ _ _ m]at e
 have k:Keeps (bi N blk g) w (bi N (upd blk l x) g) w:=by
  refine⟨nO _,fun b _ o=>⟨?_,rfl⟩⟩;rintro(e | ⟨n,u,C,s,A⟩)
  ·exact o (.inl e)
  ·exact o (.inr ⟨n,u,f n C,s,A⟩)
 refine⟨⟨h.below,h.hN,fun n i e=> ?_,fun a c z t d r E=>h.sep a c z t d (f a r) (f c E),h.al,h.refs,h.gl.keep k⟩,k⟩;by_cases j:n=l
 ·subst j;rw[upd_same]at e;exact p i e
 ·rw[df _ _ _ _ j]at e;obtain⟨u,q,y⟩:=h.dW n i e;exact⟨u,q,y.keep k (More.refl _) fun _ _ _=>rfl⟩
theorem Hp.move (h:Hp S w0 N blk g al w){l fr:Nat}{bk':Bk D}{v v':Value}(B:hot (blk l)=true)(r:g l=some v)(Y:¬al fr)
  (aa:w'.os=w.os) (U:w'.tape=w.tape) (O:w'.output=w.output) (H:w.heap.size<=w'.heap.size) (m:∀n,n < w.heap.size->fJ v≠some n->w'.heap[n]? =w.heap[n]?)
  (V:∀b,fJ v'=some b->fJ v=some b\/w.heap.size<=b)
  (G:∀L,Keeps (bi N blk g) w L w'->(∀c,L c->bi N blk g c\/fJ v'=some c)->zi S L w' (upd g fr (some v')) w0 bk' v'):
  Hp S w0 N (upd (upd blk l none) fr (some bk')) (upd g fr (some v')) (fun n=>al n\/n=fr) w'/\Keeps (bi N blk g) w (bi N (upd (upd blk l none) fr (some bk')) (upd g fr (some v'))) w'/\More g (upd g fr (some v')):=by
 have hgl:g fr=none:=by
  cases r:g fr with
  | none=>rfl
  | some u=>exact absurd (h.al fr u r) Y
 have T:More g (upd g fr (some v')):=fun n u d=>by
  rw[df _ _ _ _ rf];exact d
 have j:∀n,n≠fr->hot (upd (upd blk l none) fr (some bk') n)=true->n≠l/\hot (blk n)=true:=by
  intro n d i;rw[df _ _ _ _ d]at i;by_cases f:n=l
  ·subst f;rw[upd_same]at i;simp[hot]at i
  ·rw[df _ _ _ _ f]at i
   grind
 have E:∀c,bi N (upd (upd blk l none) fr (some bk')) (upd g fr (some v')) c->bi N blk g c\/fJ v'=some c:=by
  rintro c (Q | ⟨M,u,i,o,C⟩)
  ·exact .inl (.inl Q)
  ·by_cases f:M=fr
   ·subst f;rw[upd_same]at o
    grind
   ·have ab:=(j M f i).2;rw[df _ _ _ _ f]at o;exact .inl (.inr ⟨M,u,ab,o,C⟩)
 have hmv:∀b,fJ v=some b->bi N blk g b:=fun b A=> .inr ⟨l,v,B,r,A⟩
 have s:Keeps (bi N blk g) w (bi N (upd (upd blk l none) fr (some bk')) (upd g fr (some v'))) w':=by
  refine⟨H,fun b ac hmb=>⟨fun A=> ?_,m b ac fun e=>hmb (hmv b e)⟩⟩
  grind
 have Jb:∀b,fJ v=some b->w0.Mine b:=fun b A=>by
  obtain⟨bk,_,K,P⟩:=h.at B r;exact(P.lt K A).2
 refine⟨⟨⟨aa.trans h.below.os,U.trans h.below.tape,O.trans h.below.output,yI h.below.size H,fun k I hx=>(m k (Qb5 I h.below.size) ?_).trans (h.below.block k I hx)⟩,h.hN,fun n W d=> ?_,?_,?_,?_,h.gl.keep s⟩,s,T⟩
 ·intro e;rcases Jb k e with i | i
  ·omega
  ·exact hx i
 ·by_cases f:n=fr
  ·subst f;rw[upd_same]at d;injection d with d
   subst d;exact⟨v',upd_same _ _ _,G _ s E⟩
  ·rw[df _ _ _ _ f]at d⊢;have q:n≠l:=by rintro rfl;rw[upd_same]at d;cases d
   rw[df _ _ _ _ q]at d;obtain⟨u,R,Y6⟩:=h.dW n W d;refine⟨u,R,Y6.keep s T fun K b F=>m b (Y6.lt K F).1 fun e=> ?_⟩;exact q (h.sep n l u v b rf B R r F e)
 ·have old:∀n u c,n≠fr->hot (upd (upd blk l none) fr (some bk') n)=true->upd g fr (some v') n=some u->fJ u=some c->fJ v'=some c->False:=by
   intro n u c d i o C h4;obtain⟨q,i⟩:=j n d i;rw[df _ _ _ _ d]at o;rcases V c h4 with h5 | h5
   ·exact q (h.sep n l u v c i B o r C h5)
   ·have:=h.mlt (.inr ⟨n,u,i,o,C⟩);omega
  intro a b va vb c J z t y Z X;by_cases p:a=fr
  ·by_cases x:b=fr
   ·rw[p,x]
   ·subst p;rw[upd_same]at t
    grind
  ·by_cases x:b=fr
   ·subst x;rw[upd_same]at y
    grind
   ·have J:=(j a p J).2;have z:=(j b x z).2;rw[df _ _ _ _ p]at t;rw[df _ _ _ _ x]at y;exact h.sep a b va vb c J z t y Z X
 ·intro n u d;by_cases f:n=fr
  ·exact .inr f
  ·rw[df _ _ _ _ f]at d;exact .inl (h.al n u d)
 ·intro n u d;by_cases f:n=fr
  ·subst f;rw[upd_same]at d;injection d with d
   subst d;exact(G _ s E).isRef
  ·rw[df _ _ _ _ f]at d;exact h.refs n u d
end
end Go.Vc
namespace Go.Vc
open Go.RowKit
structure Ty where
 kind:Nat
 agg:Bool
 size:Nat
 bytes:Nat
 zero:List Value
 asc:List (Nat×Nat×Bool)
 elem:Option TypeId
 eqs:List Nat
 lit:Bool
 arr:Option (TypeId×Nat)
 zag:Bool
 mp:Option (TypeId×TypeId)
def JD (P:Program)(t:TypeId):Bool:=
 match P.underlying t with
 | some (.struct _)=>true
 | some (.array _ _)=>true
 | _=>false
def uH:IntKind->Nat
 | .i8=>20
 | .i16=>21
 | .i32=>22
 | .i64=>23
 | .u8=>24
 | .u16=>25
 | .u32=>26
 | .u64=>27
def apO:Nat->Option IntKind
 | 20=>some .i8
 | 21=>some .i16
 | 22=>some .i32
 | 23=>some .i64
 | 24=>some .u8
 | 25=>some .u16
 | 26=>some .u32
 | 27=>some .u64
 | _=>none
@[simp] theorem aNo (k:IntKind):(uH k=1)=False:=by cases k<;>simp[uH]
@[simp] theorem aNt (k:IntKind):(uH k=3)=False:=by cases k<;>simp[uH]
@[simp] theorem aNm (k:IntKind):(uH k=4)=False:=by cases k<;>simp[uH]
@[simp] theorem aNr (k:IntKind):(uH k=5)=False:=by cases k<;>simp[uH]
def kindOf:TypeDesc->Nat
 | .bool=>1
 | .int k=>uH k
 | .string=>3
 | .slice _=>4
 | .struct _=>5
 | .pointer _=>6
 | .func _ _ _=>7
 | _=>0
def cellsIn (P:Program)(t:TypeId):Nat:=if (P.underlying t).isSome then P.cellsOf t else 0
def PL (P:Program):TypeDesc->List (Nat×Nat×Bool)
 | .struct a=>a.toList.map fun f=>(f.offset,cellsIn P f.type,JD P f.type)
 | _=>[]
def aiL:TypeDesc->Option TypeId
 | .slice e=>some e
 | _=>none
def Yg (P:Program)(t:TypeId):Option Nat:=
 match P.underlying t with
 | some .bool=>some 1
 | some (.int _)=>some 2
 | some .string=>some 3
 | _=>none
def eqFields (P:Program):Nat->List Field->Option (List Nat)
 | _,[]=>some []
 | i,f::r=>
  match Yg P f.type,eqFields P (i+1) r with
  | some k,some ks=>if Nat.beq f.offset i && !(f.name== "_") && Nat.beq (cellsIn P f.type) 1 then some (k::ks)else none
  | _,_=>none
def ah6 (P:Program)(t:TypeId):TypeDesc->List Nat
 | .struct a=>if P.stoodInHeld t || P.eqGuardType P.depth t then[]else(match eqFields P 0 a.toList with
  | some ks=>ks
  | none=>[])
 | .array n e=>if P.eqGuardType P.depth t then[]else(match Yg P e,P.info? e with
  | some k,some i=>if Nat.beq i.size 1 then List.replicate n k else[]
  | _,_=>[])
 | _=>[]
def awR:TypeDesc->Option (TypeId×Nat)
 | .array n e=>some (e,n)
 | _=>none
def AP:Value->Bool
 | .agg _=>true
 | _=>false
def anr:TypeDesc->Option (TypeId×TypeId)
 | .map k v=>some (k,v)
 | .pointer e=>some (e,e)
 | _=>none
def aMf (P:Program)(t:TypeId):Option Ty:=
 match P.info? t,P.underlying t with
 | some i,some d=>
  match i.zero with
  | some z=>some ⟨kindOf d,JD P t,i.size,i.bytes,z.cells.toList,PL P d,aiL d,ah6 P t d,false,awR d,AP z,anr d⟩
  | none=>none
 | _,_=>none
def gW (P:Program)(t:TypeId)(a:Ty):Prop:=aMf P t=some {a with lit:=false}
def CO:IntKind->Int->Prop
 | .i8,n=> -128<=n/\n<=127
 | .i16,n=> -32768<=n/\n<=32767
 | .i32,n=> -2147483648<=n/\n<=2147483647
 | .i64,n=> -9223372036854775808<=n/\n<=9223372036854775807
 | .u8,n=>0<=n/\n<=255
 | .u16,n=>0<=n/\n<=65535
 | .u32,n=>0<=n/\n<=4294967295
 | .u64,n=>0<=n/\n<=18446744073709551615
theorem wrap_in {k:IntKind}{n:Int}(h:CO k n):k.wrap n=n:=by
 cases k<;>simp only[CO]at h<;>simp[IntKind.wrap,IntKind.bits,IntKind.signed]<;>omega
def dA (k:IntKind)(n:Int):Int:=k.wrap n
theorem dU {k:IntKind}{n:Int}(h:CO k n):dA k n=n:=wrap_in h
def uO (k:IntKind)(x y:Int):Int:=k.wrap (BitVec.ofInt k.bits x &&& BitVec.ofInt k.bits y).toNat
def orI (k:IntKind)(x y:Int):Int:=k.wrap (BitVec.ofInt k.bits x ||| BitVec.ofInt k.bits y).toNat
def ajB (k:IntKind)(x y:Int):Int:=k.wrap (BitVec.ofInt k.bits x ^^^ BitVec.ofInt k.bits y).toNat
def aKN (k:IntKind)(x y:Int):Int:=k.wrap (BitVec.ofInt k.bits x &&& ~~~BitVec.ofInt k.bits y).toNat
def Zj (k:IntKind)(x y:Int):Int:=k.wrap (x*2 ^ (min y.toNat k.bits))
def Ar (k:IntKind)(x y:Int):Int:=x.fdiv (2 ^ (min y.toNat k.bits))
def ZA:IntKind->IntKind->Bool:=fun a b=>a==b
def Pv.beq:Pv->Pv->Bool
 | .bool a, .bool b=>a==b
 | .int k a, .int c b=>ZA k c && a==b
 | .str a, .str b=>a==b
 | _,_=>false
def Pv.kind:Pv->Nat
 | .bool _=>1
 | .int k _=>uH k
 | .str _=>3
def Pv.lf {D:Type}:Pv->Lf D
 | .bool b=> .bool b
 | .int k n=> .int k n
 | .str s=> .str s
def Am {V:Type}(k:Pv):List (Pv×V)->Option V
 | []=>none
 | p::r=>if Pv.beq k p.1 then some p.2 else Am k r
def XH {V:Type}(k:Pv)(v:V):List (Pv×V)->List (Pv×V)
 | []=>[(k,v)]
 | p::r=>if Pv.beq k p.1 then(p.1,v)::r else p::XH k v r
structure aDR {D:Type}(S:Sh D)(m:Mp D):Prop where
 keys:∀p∈m.kvs,p.1.kind=m.kind
 has:∀k:Pv,k.kind=m.kind->m.has k=(Am k m.kvs).isSome
 get:∀k:Pv,k.kind=m.kind->m.get k=((Am k m.kvs).getD m.zero).map Pv.lf
 put:∀k vs,k.kind=m.kind->vs.map Pv.kind=m.zero.map Pv.kind->∃m',S.mp (m.put k vs)=some m'/\m'.kvs=XH k vs m.kvs/\m'.agg=m.agg
 len:m.len=m.kvs.length
def qW:Option Prop->Prop
 | none=>True
 | some p=>p
structure DP where
 p:Prop
 b:Bool
 h:b=true->p
@[reducible] def dp (p:Prop) [d:Decidable p]:DP:=⟨p,decide p,Eh⟩
@[reducible] def dq (p:Prop):DP:=⟨p,false,fun e=>nomatch e⟩
def nJ:Option DP->Prop
 | none=>True
 | some q=>q.p
theorem F7 {o:Option Prop}:nJ (o.map dq) ↔ qW o:=by cases o<;>exact Iff.rfl
structure Out (D:Type) where
 pre:Option DP
 val:Sl D
 blks:List (Nat×Option (Bk D))
abbrev Ct (D:Type):=List (Sl D)->List (Bk D)->Option (Option DP×Sl D×List (Nat×Bk D)×List Nat)
def zf {D:Type}:Value->Lf D
 | .int k n=> .int k n
 | .string s=>if Nat.ble s.data.size 9223372036854775807 then .str s.data.toList else .val (.string s)
 | .nilIface=> .Ze none
 | v=> .val v
def aEO {D:Type}:Value->Sl D
 | .agg cs=> .one (.agg (cs.toList.map zf))
 | v=> .one (.lf (zf v))
def bOf {D:Type}:Sl D->Option Bool
 | .one (.lf (.bool b))=>some b
 | .one (.lf (.val (.bool b)))=>some b
 | _=>none
def Lf.norm {D:Type}:Lf D->Lf D
 | .val (.bool b)=> .bool b
 | x=>x
def Sv.norm {D:Type}:Sv D->Sv D
 | .lf x=> .lf x.norm
 | .agg a=> .agg (a.map Lf.norm)
def Sl.norm {D:Type}:Sl D->Sl D
 | .one x=> .one x.norm
 | .x8 a=> .x8 (a.map Sv.norm)
def aN {D:Type}(a:Nat->Sl D):Operand->Sl D
 | .tmp t=>a t
 | .const v=>aEO v
 | .func f=> .one (.lf (.fn f []))
 | .global i=> .one (.lf (.glb i))
def Sv.cells {D:Type}:Sv D->List (Lf D)
 | .lf x=>[x]
 | .agg a=>a
def putAt {D:Type}(cs:List (Lf D))(o:Nat)(a:List (Lf D)):List (Lf D):=cs.take o++(a++cs.drop (o+a.length))
def Lf.storable {D:Type}:Lf D->Bool
 | .any=>false
 | .val (.agg _)=>false
 | .val (.tuple _)=>false
 | _=>true
def Sv.whole {D:Type}:Sv D->Bool
 | .lf x=>x.storable
 | .agg _=>true
def Dz {c:Type}:Option c->Option c->Option c
 | some a,_=>some a
 | none,b=>b
section
variable {D:Type}
def nP (a:Option DP)(x:Lf D):Option (Out D):=some ⟨a, .one (.lf x),[]⟩
def aL3 (c:BinOp)(k:IntKind)(a b:Int):Option (Out D):=
 match c with
 | .add=>nP none (.int k (dA k (a+b)))
 | .sub=>nP none (.int k (dA k (a - b)))
 | .mul=>nP none (.int k (dA k (a*b)))
 | .and=>nP none (.int k (uO k a b))
 | .or=>nP none (.int k (orI k a b))
 | .xor=>nP none (.int k (ajB k a b))
 | .andNot=>nP none (.int k (aKN k a b))
 | .quo=>nP (some (dp (b≠0))) (.int k (dA k (a.tdiv b)))
 | .rem=>nP (some (dp (b≠0))) (.int k (a.tmod b))
 | .eql=>nP none (.bool (a==b))
 | .neq=>nP none (.bool (a !=b))
 | .lss=>nP none (.bool (decide (a < b)))
 | .leq=>nP none (.bool (decide (a<=b)))
 | .gtr=>nP none (.bool (decide (b < a)))
 | .geq=>nP none (.bool (decide (b<=a)))
 | _=>none
def aNu (k:IntKind)(a b:Int):Option (Out D):=nP (some (dp (0<=b))) (.int k (Zj k a b))
def aNn (k:IntKind)(a b:Int):Option (Out D):=nP (some (dp (0<=b))) (.int k (Ar k a b))
def aJ0 (c:BinOp)(a b:List UInt8):Option (Out D):=
 match c with
 | .eql=>nP none (.bool (a==b))
 | .neq=>nP none (.bool (a !=b))
 | .lss=>nP none (.bool (Op.bytesLess a b))
 | .leq=>nP none (.bool (Op.bytesLess a b || a==b))
 | .gtr=>nP none (.bool (!(Op.bytesLess a b || a==b)))
 | .geq=>nP none (.bool (!Op.bytesLess a b))
 | .add=>nP (some (dp (a.length+b.length<=9223372036854775807))) (.str (a++b))
 | _=>none
def eq1 (k:Nat)(x y:Lf D):Option Bool:=
 match k with
 | 1=>(match x,y with
  | .bool a, .bool b=>some (a==b)
  | _,_=>none)
 | 2=>(match x,y with
  | .int k a, .int c b=>if ZA k c then some (a==b)else none
  | _,_=>none)
 | 3=>(match x,y with
  | .str a, .str b=>some (a==b)
  | _,_=>none)
 | _=>none
def wR:List Nat->List (Lf D)->List (Lf D)->Option Bool
 | [],[],[]=>some true
 | k::ks,x::b,y::a=>
  (match eq1 k x y,wR ks b a with
  | some e,some r=>some (e && r)
  | _,_=>none)
 | _,_,_=>none
def ano (T:TypeId->Option Ty)(S:Sh D)(a:BinOp)(t:TypeId)(x y:Sl D):Option (Out D):=
 match T t with
 | none=>none
 | some c=>(match c.elem,x,y with
  | some _, .one (.lf (.dat d)), .one (.lf (.val (.slice none 0 0)))=>if Nat.blt 0 (S.size d)then(match a with
   | .eql=>nP none (.unk fun b=>b=true->S.len d=0)
   | .neq=>nP none (.unk fun b=>b=false->S.len d=0)
   | _=>none)else none
  | some _, .one (.lf (.val (.slice none 0 0))), .one (.lf (.val (.slice none 0 0)))=>(match a with
   | .eql=>nP none (.val (.bool true))
   | .neq=>nP none (.val (.bool false))
   | _=>none)
  | _,_,_=>none)
def aHo (T:TypeId->Option Ty)(op:BinOp)(t:TypeId)(x y:Sl D):Option (Out D):=
 match x,y with
 | .one (.lf (.int k a)), .one (.lf (.int f b))=>(match op with
  | .shl=>aNu k a b
  | .shr=>aNn k a b
  | op=>if ZA k f then aL3 op k a b else none)
 | .one (.lf (.str a)), .one (.lf (.str b))=>aJ0 op a b
 | .one (.agg e), .one (.agg d)=>
  (match T t with
  | some c=>(match c.eqs with
   | []=>none
   | ks=>(match wR ks (e.map Lf.norm) (d.map Lf.norm),op with
    | some r, .eql=>nP none (.bool r)
    | some r, .neq=>nP none (.bool (!r))
    | _,_=>none))
  | none=>none)
 | x,y=>
  match bOf x,bOf y with
  | some a,some b=>
   (match T t with
   | some c=>if c.kind==1 then(match op with
    | .eql=>nP none (.bool (a==b))
    | .neq=>nP none (.bool (a !=b))
    | _=>none)else none
   | none=>none)
  | _,_=>none
def xUn (a:UnOp)(x:Sl D):Option (Out D):=
 match a,x with
 | .not, .one (.lf (.bool b))=>nP none (.bool (!b))
 | .not, .one (.lf (.val (.bool b)))=>nP none (.val (.bool (!b)))
 | .not, .one (.lf (.unk p))=>nP none (.unk fun b=>p (!b))
 | .neg, .one (.lf (.int k n))=>nP none (.int k (dA k (-n)))
 | .xor, .one (.lf (.int k n))=>nP none (.int k (ajB k (if k.signed then -1 else k.max) n))
 | _,_=>none
def Ec (S:Sh D)(d:D)(i:Nat):Nat->Nat->List (Lf D)
 | _,0=>[]
 | j,n+1=>S.cell d i j::Ec S d i (j+1) n
def F9 (T:TypeId->Option Ty)(S:Sh D)(b:Nat->Option (Bk D))(t:TypeId)(x:Sl D):Option (Out D):=
 match T t with
 | none=>none
 | some a=>
  match x with
  | .one (.lf (.ptr l o))=>
   match b l with
   | some (.cells cs)=>
    if a.agg then(if Nat.ble (o+a.size) cs.length then some ⟨none, .one (.agg ((cs.drop o).take a.size)),[]⟩else none)
    else(match cs[o]? with
     | some y=>nP none y
     | none=>none)
   | _=>none
  | .one (.lf (.elt d i j))=>
   if a.agg then(if Nat.ble (j+a.size) (S.size d)then some ⟨none, .one (.agg (Ec S d i j a.size)),[]⟩else none)
   else(if Nat.blt j (S.size d)then nP none (S.cell d i j)else none)
  | .one (.lf (.opt l i j c))=>
   match b l with
   | some (.row e d)=>
    if a.agg then(if Nat.ble (j+a.size) (S.size d) && Nat.beq c (S.size d)then some ⟨some (dp (i < S.len d)), .one (.agg (Ec S d i j a.size)),[]⟩else none)
    else(if Nat.blt j (S.size d) && Nat.beq c (S.size d)then nP (some (dp (i < S.len d))) (S.cell d i j)else none)
   | _=>none
  | _=>none
def J3 (T:TypeId->Option Ty)(S:Sh D)(a:Nat->Option (Bk D))(t:TypeId)(x y:Sl D):Option (Out D):=
 match T t,x,y with
 | some b, .one (.lf (.ptr l o)), .one u=>
  match a l with
  | some (.cells cs)=>
   if Nat.beq u.cells.length b.size && Nat.ble (o+u.cells.length) cs.length && u.cells.all Lf.storable then some ⟨none, .one (.lf .any),[(l,some (.cells (putAt cs o u.cells)))]⟩else none
  | _=>none
 | some b, .one (.lf (.opt l i j f)), .one u=>
  match a l with
  | some (.row e d)=>
   if Nat.beq u.cells.length b.size && Nat.ble (j+u.cells.length) (S.size d) && Nat.beq f (S.size d) && u.cells.all Lf.storable then(match S.set d i j (u.cells.map Lf.norm)with
    | some c=>some ⟨some (dp (i < S.len d)), .one (.lf .any),[(l,some (.row e c))]⟩
    | none=>none)else none
  | _=>none
 | _,_,_=>none
def ED (T:TypeId->Option Ty)(t:TypeId)(x:Sl D)(f:Nat):Option (Out D):=
 match T t with
 | none=>none
 | some c=>
  match c.asc[f]?,x with
  | some (a,b,_), .one (.lf (.ptr l o))=>if Nat.beq b 0 then none else nP none (.ptr l (o+a))
  | some (a,b,_), .one (.lf (.elt d i j))=>if Nat.beq b 0 then none else nP none (.elt d i (j+a))
  | some (a,b,_), .one (.lf (.opt l i j z))=>if Nat.beq b 0 then none else nP none (.opt l i (j+a) z)
  | _,_=>none
def anB (T:TypeId->Option Ty)(t:TypeId)(x:Sl D)(f:Nat):Option (Out D):=
 match T t with
 | none=>none
 | some c=>
  match c.asc[f]?,x with
  | some (a,b,d), .one (.agg cs)=>
   if Nat.beq b 0 then none else if d then(if Nat.ble (a+b) cs.length then some ⟨none, .one (.agg ((cs.drop a).take b)),[]⟩else none)
   else(match cs[a]? with
    | some y=>nP none y
    | none=>none)
  | _,_=>none
def Pn (T:TypeId->Option Ty)(S:Sh D)(b:Nat->Option (Bk D))(t:TypeId)(x i:Sl D):Option (Out D):=
 match T t with
 | none=>none
 | some c=>
  match c.elem with
  | none=>none
  | some e=>
   match T e with
   | none=>none
   | some a=>
    match x,i with
    | .one (.lf (.dat d)), .one (.lf (.int _ n))=>if Nat.beq a.size (S.size d) && Nat.blt 0 a.size then nP (some (dp (0<=n/\n < S.len d))) (.elt d n.toNat 0)else none
    | .one (.lf (.own l)), .one (.lf (.int _ n))=>
     match b l with
     | some (.row _ d)=>if Nat.beq a.size (S.size d) && Nat.blt 0 a.size then nP (some (dp (0<=n/\n < S.len d))) (.opt l n.toNat 0 a.size)else none
     | some (.xZ d)=>if Nat.beq a.size (S.size d) && Nat.blt 0 a.size then nP (some (dp (0<=n/\n < S.len d))) (.elt d n.toNat 0)else none
     | _=>none
    | _,_=>none
def VI (x:Sl D)(i:Nat):Option (Out D):=
 match x with
 | .x8 a=>(match a[i]? with
  | some y=>some ⟨none, .one y,[]⟩
  | none=>none)
 | _=>none
def JH (c:Ty)(a:Nat->Sl D):List (Nat×Operand)->List (Lf D)->Option (List (Lf D))
 | [],cs=>some cs
 | (f,x)::r,cs=>
  match c.asc[f]?,aN a x with
  | some (b,d,_), .one u=>if u.whole && Nat.beq u.cells.length d && Nat.ble (b+d) cs.length then JH c a r (putAt cs b u.cells)else none
  | _,_=>none
def acL (T:TypeId->Option Ty)(b:Nat->Sl D)(t:TypeId)(parts:Array (Nat×Operand)):Option (Out D):=
 match T t with
 | some a=>
  if a.kind==5 && a.asc.all (fun f=> !Nat.beq f.2.1 0)then(match JH a b parts.toList (a.zero.map zf)with
   | some cs=>some ⟨none, .one (.agg cs),[]⟩
   | none=>none)else none
 | none=>none
def zC (a:Nat)(b:Nat->Sl D):List (Nat×Operand)->List (Lf D)->Option (List (Lf D))
 | [],cs=>some cs
 | (i,x)::r,cs=>
  match aN b x with
  | .one u=>if u.whole && Nat.beq u.cells.length a && Nat.ble (i*a+a) cs.length then zC a b r (putAt cs (i*a) u.cells)else none
  | _=>none
def aDm (T:TypeId->Option Ty)(S:Sh D)(c:Nat->Sl D)(g:Nat)(t:TypeId)(b:Nat)(parts:Array (Nat×Operand)):Option (Out D):=
 match T t with
 | none=>none
 | some f=>
  match f.elem with
  | none=>none
  | some e=>
   match T e with
   | none=>none
   | some a=>
    if Nat.ble (b*a.size) 16777216 && Nat.blt 0 a.size && Nat.beq a.zero.length a.size then(match zC a.size c parts.toList ((List.range (b*a.size)).map fun k=>zf ((a.zero[k % a.size]?).getD (.bool false)))with
     | some cs=>(match S.make e b (cs.map Lf.norm)with
      | some d=>if f.lit || Nat.beq b 0 then some ⟨none, .one (.lf (.own g)),[(g,some (.row e d))]⟩else nP none (.dat d)
      | none=>none)
     | none=>none)else none
def aoA (d:Nat->Sl D)(c a b:Operand):Option (Out D):=
 match aN d c with
 | .one (.lf (.val (.bool true)))=>some ⟨none,aN d a,[]⟩
 | .one (.lf (.val (.bool false)))=>some ⟨none,aN d b,[]⟩
 | .one (.lf (.bool t))=>
  match bOf (aN d a),bOf (aN d b)with
  | some x,some y=>nP none (.bool (bif t then x else y))
  | _,_=>none
 | _=>none
def aq_ (S:Sh D)(T:TypeId->Option Ty)(b:Nat->Option (Bk D))(c:Array TypeId)(x:Sl D):Option (Out D):=
 match c[0]? with
 | none=>none
 | some t=>
  match T t with
  | none=>none
  | some a=>
   match x with
   | .one (.lf (.dat d))=>if a.kind==4 && Nat.blt 0 (S.size d)then nP none (.int .i64 (S.len d))else none
   | .one (.lf (.str s))=>if a.kind==3 then nP none (.int .i64 s.length)else none
   | .one (.lf (.own l))=>(match b l with
    | some (.row _ d)=>if a.kind==4 then nP none (.int .i64 (S.len d))else none
    | some (.xZ d)=>if a.kind==4 && Nat.blt 0 (S.size d)then nP none (.int .i64 (S.len d))else none
    | _=>none)
   | .one (.lf (.val (.slice none 0 0)))=>if a.kind==4 then nP none (.int .i64 0)else none
   | _=>none
def aBE (b:Builtin)(x y:Sl D):Option (Out D):=
 match b,x,y with
 | .min, .one (.lf (.int k a)), .one (.lf (.int _ c))=>nP none (.int k (min a c))
 | .max, .one (.lf (.int k a)), .one (.lf (.int _ c))=>nP none (.int k (max a c))
 | _,_,_=>none
def Lf.refs:Lf D->List Nat
 | .ptr l _=>[l]
 | .own l=>[l]
 | .opt l _ _ _=>[l]
 | .part l _ _ _ _=>[l]
 | .fn _ a=>a
 | _=>[]
def Sv.refs:Sv D->List Nat
 | .lf x=>x.refs
 | .agg a=>a.flatMap Lf.refs
def Sl.refs:Sl D->List Nat
 | .one x=>x.refs
 | .x8 a=>a.flatMap Sv.refs
def Bk.refs:Bk D->List Nat
 | .cells cs=>cs.flatMap Lf.refs
 | .tc _ cs=>cs.flatMap Lf.refs
 | _=>[]
def Lf.ren (f:Nat->Nat):Lf D->Lf D
 | .ptr l o=> .ptr (f l) o
 | .own l=> .own (f l)
 | .opt l i j a=> .opt (f l) i j a
 | .part l i j a h=> .part (f l) i j a h
 | .fn h b=> .fn h (b.map f)
 | x=>x
def Sv.ren (f:Nat->Nat):Sv D->Sv D
 | .lf x=> .lf (x.ren f)
 | .agg a=> .agg (a.map (Lf.ren f))
def Sl.ren (f:Nat->Nat):Sl D->Sl D
 | .one x=> .one (x.ren f)
 | .x8 a=> .x8 (a.map (Sv.ren f))
def Bk.ren (f:Nat->Nat):Bk D->Bk D
 | .cells cs=> .cells (cs.map (Lf.ren f))
 | .tc t cs=> .tc t (cs.map (Lf.ren f))
 | x=>x
def Lf.ou:Lf D->Bool
 | .dat _=>true
 | .elt _ _ _=>true
 | .xt _=>true
 | _=>false
def Sv.ou:Sv D->Bool
 | .lf x=>x.ou
 | .agg a=>a.any Lf.ou
def Sl.ou:Sl D->Bool
 | .one x=>x.ou
 | .x8 a=>a.any Sv.ou
def Bk.ou:Bk D->Bool
 | .cells cs=>cs.any Lf.ou
 | .iter _ _=>false
 | .map _=>false
 | .tc _ cs=>cs.any Lf.ou
 | _=>true
def uZ (l:Nat):List Nat->Bool
 | []=>false
 | x::r=>Nat.beq x l || uZ l r
def nM:List Nat->List Nat->List Nat
 | ids,[]=>ids
 | ids,l::r=>nM (if uZ l ids then ids else ids++[l]) r
def reach (a:Nat->Option (Bk D)):Nat->List Nat->List Nat
 | 0,ids=>ids
 | n+1,ids=>reach a n (nM ids (ids.flatMap fun l=>match a l with
  | some b=>b.refs
  | none=>[]))
def allIn (ids:List Nat):List Nat->Bool
 | []=>true
 | l::r=>uZ l ids && allIn ids r
def vJ (a:Nat->Option (Bk D)):List Nat->Option (List (Bk D))
 | []=>some []
 | l::r=>(match a l,vJ a r with
  | some b,some c=>some (b::c)
  | _,_=>none)
def jG:List Nat->Nat->Nat
 | [],_=>0
 | x::r,l=>if Nat.beq x l then 0 else jG r l+1
def backTo (ids:List Nat)(a i:Nat):Nat:=if Nat.blt i ids.length then ids.getD i 0 else a+(i - ids.length)
def Lf.view (a:Nat->Option (Bk D)):Lf D->Lf D
 | .own l=>(match a l with
  | some (.row _ d)=> .dat d
  | some (.map d)=> .dat d
  | some (.xZ d)=> .dat d
  | _=> .own l)
 | .part l i j c f=>(match a l with
  | some (.row _ d)=>(match f d with
   | some b=> .dat b
   | none=> .any)
  | some (.xZ d)=>(match f d with
   | some b=> .dat b
   | none=> .any)
  | _=> .part l i j c f)
 | x=>x
def Sv.view (a:Nat->Option (Bk D)):Sv D->Sv D
 | .lf x=> .lf (x.view a)
 | .agg b=> .agg (b.map (Lf.view a))
def Sl.view (a:Nat->Option (Bk D)):Sl D->Sl D
 | .one x=> .one (x.view a)
 | .x8 b=> .x8 (b.map (Sv.view a))
def Lf.owns:Lf D->List Nat
 | .own l=>[l]
 | .part l _ _ _ _=>[l]
 | _=>[]
def Sv.owns:Sv D->List Nat
 | .lf x=>x.owns
 | .agg a=>a.flatMap Lf.owns
def Sl.owns:Sl D->List Nat
 | .one x=>x.owns
 | .x8 a=>a.flatMap Sv.owns
def TF (k:Nat):List (Nat×Bk D)->Bool
 | []=>true
 | (i,_)::r=>Nat.blt i (k+64) && TF k r
def nodupB:List (Nat×Bk D)->Bool
 | []=>true
 | (i,_)::r=> !(r.any fun p=>Nat.beq p.1 i) && nodupB r
def lW:List (Nat×Bk D)->Nat->Option (Bk D)
 | [],_=>none
 | (k,v)::r,n=>if Nat.beq k n then some v else lW r n
def rwD:Option (Bk D)->Option D
 | some (.row _ d)=>some d
 | some (.map d)=>some d
 | _=>none
def jM (a:Nat->Option (Bk D))(l:Nat):Option (Nat×Option (Bk D)):=
 match rwD (a l)with
 | some d=>some (l,some (.xZ d))
 | none=>none
def ayC (b:List (Bk D))(i:Nat):List Nat:=
 match b[i]? with
 | some a=>a.refs
 | none=>[]
def auH (b:List (Bk D))(i:Nat):Bool:=
 match b[i]? with
 | some a=>a.ou
 | none=>false
def yE (b:List (Nat×Bk D))(a:List Nat)(d:List (Bk D))(i:Nat):Option (Bk D):=
 match lW b i with
 | some c=>some c
 | none=>if uZ i a then d[i]? else none
def DY (g:Ct D)(c:Nat->Option (Bk D))(d:Nat)(args:List (Sl D))(f:List Nat):Option (Out D):=
 let ids:=reach c 3 (nM [] (args.flatMap Sl.refs))
 match vJ c ids with
 | none=>none
 | some e=>
  if allIn ids (args.flatMap Sl.refs) && allIn ids (e.flatMap Bk.refs) && !(f.any fun l=>uZ l ids)then
   (match g (args.map (Sl.ren (jG ids))) (e.map (Bk.ren (jG ids)))with
   | some (p,r,a,b)=>
    if TF ids.length a && nodupB a && allIn (a.map (·.1)++b) (a.flatMap fun q=>q.2.refs) && allIn (a.map (·.1)++b) r.refs &&
      allIn (a.map (·.1)++b) (b.flatMap fun i=>ayC (e.map (Bk.ren (jG ids))) i) && b.all (fun i=>Nat.blt i ids.length && !uZ i (a.map (·.1)))then
     some ⟨p,r.ren (backTo ids d),((ids.filter fun l=> !uZ (jG ids l) b).map fun l=>(l,(lW a (jG ids l)).map (Bk.ren (backTo ids d))))++(a.filter fun q=> !Nat.blt q.1 ids.length).map (fun q=>(backTo ids d q.1,some (q.2.ren (backTo ids d))))++
      (if r.ou || a.any (fun q=>q.2.ou) || b.any (fun i=>auH (e.map (Bk.ren (jG ids))) i)then f.filterMap (jM c)else[])⟩
    else none
   | none=>none)
  else none
def Lr (e:FuncId->Option (Ct D))(f:FuncId)(a:Nat->Option (Bk D))(args:List (Sl D))(c:Nat):Option (Out D):=
 match e f with
 | none=>none
 | some d=>
  let b:=args.map Sl.norm
  Dz (DY d a c (b.map (Sl.view a)) (nM [] (b.flatMap Sl.owns))) (DY d a c b [])
def Fb (a:Nat->Sl D):List Operand->Option (List Nat)
 | []=>some []
 | x::r=>(match aN a x,Fb a r with
  | .one (.lf (.ptr l 0)),some b=>some (l::b)
  | _,_=>none)
def Nr (a:Nat->Option (Bk D)):Sl D->Option D
 | .one (.lf (.dat d))=>some d
 | .one (.lf (.own l))=>(match a l with
  | some (.row _ d)=>some d
  | some (.xZ d)=>some d
  | _=>none)
 | _=>none
def bZ (n bytes:Nat):Prop:=n<=1099511627776/\n*bytes<=140737488355328
instance {n b:Nat}:Decidable (bZ n b):=inferInstanceAs (Decidable (_/\_))
def GX (T:TypeId->Option Ty)(S:Sh D)(c:Nat->Option (Bk D))(b:Nat)(g:Array TypeId)(x y:Sl D):Option (Out D):=
 match g.toList with
 | [t,i]=>if Nat.beq t i then(match T t with
  | none=>none
  | some f=>(match f.elem with
   | none=>none
   | some e=>(match T e with
    | none=>none
    | some a=>(match Nr c y with
     | none=>none
     | some d2=>
      if Nat.beq a.size (S.size d2) && Nat.blt 0 a.size && Nat.beq a.zero.length a.size then(match x with
       | .one (.lf (.val (.slice none 0 0)))=>some ⟨some (dp (bZ (S.len d2) a.bytes)), .one (.lf (.own b)),[(b,some (.row e d2))]⟩
       | .one (.lf (.own l))=>(match c l with
        | some (.row h d1)=>if Nat.beq e h then(match S.cat d1 d2 with
         | some d=>some ⟨some (dp (bZ (S.len d1+S.len d2) a.bytes)), .one (.lf (.own b)),[(l,none),(b,some (.row e d))]⟩
         | none=>none)else none
        | _=>none)
       | _=>none)else none))))else none
 | _=>none
def ay3 (T:TypeId->Option Ty)(S:Sh D)(b:Nat)(t:TypeId)(x y:Sl D):Option (Out D):=
 match T t with
 | none=>none
 | some c=>(match c.elem with
  | none=>none
  | some e=>(match T e with
   | none=>none
   | some a=>(match x,y with
    | .one (.lf (.int _ n)), .one (.lf (.int _ m))=>if Nat.blt 0 a.size && Nat.beq a.zero.length a.size then(match S.zero e n.toNat (a.zero.map fun v=>(zf v).norm)with
     | some d=>some ⟨some (dp (n=m/\0<=n/\n*a.bytes<=281474976710656/\n<=1099511627776)), .one (.lf (.own b)),[(b,some (.row e d))]⟩
     | none=>none)else none
    | _,_=>none)))
def alJ (T:TypeId->Option Ty)(t:TypeId)(x i:Sl D):Option (Out D):=
 match T t with
 | none=>none
 | some a=>(match x,i with
  | .one (.lf (.str s)), .one (.lf (.int _ n))=>if a.kind==3 then nP (some (dp (0<=n/\n < s.length))) (.int .u8 (s.getD n.toNat 0).toNat)else none
  | _,_=>none)
def avo (T:TypeId->Option Ty)(src a:TypeId)(x:Sl D):Option (Out D):=
 match T src,T a,x with
 | some _,some b, .one (.lf (.int _ n))=>(match apO b.kind with
  | some k=>nP none (.int k (dA k n))
  | none=>none)
 | _,_,_=>none
def bnd (n:Nat):Option (Sl D)->Option Int
 | none=>some n
 | some (.one (.lf (.int _ i)))=>some i
 | some _=>none
def P5 (T:TypeId->Option Ty)(S:Sh D)(f:Nat->Option (Bk D))(t:TypeId)(x:Sl D)(i c:Option (Sl D)):Option (Out D):=
 match T t with
 | none=>none
 | some b=>(match bnd 0 i with
  | none=>none
  | some l=>(match x with
   | .one (.lf (.str s))=>if b.kind==3 then(match bnd s.length c with
    | some h=>nP (some (dp (0<=l/\l<=h/\h<=s.length))) (.str ((s.take h.toNat).drop l.toNat))
    | none=>none)else none
   | .one (.lf (.dat d))=>(match b.elem with
    | none=>none
    | some e=>(match T e with
     | none=>none
     | some a=>if Nat.beq a.size (S.size d) && Nat.blt 0 a.size then(match bnd (S.len d) c with
      | some h=>(match S.sub d l.toNat h.toNat with
       | some g=>nP (some (dp (0<=l/\l<=h/\h<=S.len d))) (.dat g)
       | none=>none)
      | none=>none)else none))
   | .one (.lf (.own q))=>(match b.elem with
    | none=>none
    | some e=>(match T e with
     | none=>none
     | some a=>(match f q with
      | some (.row _ d)=>(match bnd (S.len d) c with
       | some h=>nP (some (dp (0<=l/\l<=h/\h<=S.len d))) (.part q l.toNat h.toNat a.size (aa_ S a.size l.toNat h.toNat))
       | none=>none)
      | _=>none)))
   | _=>none))
def aaI (T:TypeId->Option Ty)(S:Sh D)(b:Nat->Option (Bk D))(f:Array TypeId)(x y:Sl D):Option (Out D):=
 match f.toList with
 | [t,h]=>if Nat.beq t h then(match T t with
  | none=>none
  | some c=>(match c.elem with
   | none=>none
   | some e=>(match T e with
    | none=>none
    | some a=>(match x,y with
     | .one (.lf (.own l)), .one (.lf (.dat d2))=>(match b l with
      | some (.row g d1)=>if Nat.beq e g && (Nat.beq a.size (S.size d1) && (Nat.beq a.size (S.size d2) && Nat.blt 0 a.size))then
       (match S.sub d2 0 (min (S.len d2) (S.len d1)),S.sub d1 (min (S.len d2) (S.len d1)) (S.len d1)with
       | some p,some q=>(match S.cat p q with
        | some d=>some ⟨none, .one (.lf (.int .i64 (min (S.len d2) (S.len d1):Nat))),[(l,some (.row e d))]⟩
        | none=>none)
       | _,_=>none)else none
      | _=>none)
     | _,_=>none))))else none
 | _=>none
def isCells:Option (Bk D)->Bool
 | some (.cells _)=>true
 | _=>false
def DL (T:TypeId->Option Ty)(S:Sh D)(r:FuncId->Option (Ct D))(e:Nat->Sl D)(g:Nat->Option (Bk D))(k:Nat)(o:Op):Option (Out D):=
 match o with
 | .move x=>some ⟨none,aN e x,[]⟩
 | .assign x=>some ⟨none,aN e x,[]⟩
 | .pick c a b=>aoA e c a b
 | .alloc t=>(match T t with
  | some w=>some ⟨none, .one (.lf (.ptr k 0)),[(k,some (.cells (w.zero.map zf)))]⟩
  | none=>none)
 | .box _ x=>(match aN e x with
  | .one u=>if u.whole then some ⟨none, .one (.lf (.ptr k 0)),[(k,some (.cells u.cells))]⟩else none
  | _=>none)
 | .build t parts=>acL T e t parts
 | .buildSlice t p parts=>aDm T S e k t p parts
 | .load t x=>F9 T S g t (aN e x)
 | .store t x y=>J3 T S g t (aN e x) (aN e y)
 | .nilCheck x=>(match aN e x with
  | .one (.lf (.ptr l o))=>nP none (.ptr l o)
  | .one (.lf (.elt d i j))=>nP none (.elt d i j)
  | .one (.lf (.opt l i j q))=>nP none (.opt l i j q)
  | .one (.lf (.fn f h))=>nP none (.fn f h)
  | _=>none)
 | .binOp m t x y _=>Dz (ano T S m t (aN e x) (aN e y)) (aHo T m t (aN e x) (aN e y))
 | .unOp m _ x=>xUn m (aN e x)
 | .fieldAddr t x f=>ED T t (aN e x) f
 | .field t x f=>anB T t (aN e x) f
 | .indexAddr t x i=>Pn T S g t (aN e x) (aN e i)
 | .extract x i=>VI (aN e x) i
 | .call c=>(match c.callee with
  | .builtin .len=>(match c.args.toList with
   | [x]=>aq_ S T g c.argTypes (aN e x)
   | _=>none)
  | .builtin .min=>(match c.args.toList with
   | [x,y]=>aBE .min (aN e x) (aN e y)
   | _=>none)
  | .builtin .max=>(match c.args.toList with
   | [x,y]=>aBE .max (aN e x) (aN e y)
   | _=>none)
  | .builtin .append=>(match c.args.toList with
   | [x,y]=>GX T S g k c.argTypes (aN e x) (aN e y)
   | _=>none)
  | .builtin .copy=>(match c.args.toList with
   | [x,y]=>aaI T S g c.argTypes (aN e x) (aN e y)
   | _=>none)
  | .value f=>(match aN e f with
   | .one (.lf (.fn f h))=>if h.all (fun l=>isCells (g l))then Lr r f g (c.args.toList.map (aN e)++h.map fun l=> .one (.lf (.ptr l 0))) k else none
   | _=>none)
  | _=>none)
 | .makeFunc (.func f) first h=>if first.isEmpty then(match Fb e h.toList with
  | some s=>nP none (.fn f s)
  | none=>none)else none
 | .makeSlice t x y=>ay3 T S k t (aN e x) (aN e y)
 | .index t x i=>alJ T t (aN e x) (aN e i)
 | .convert src n x=>avo T src n (aN e x)
 | .slice t x v z none=>P5 T S g t (aN e x) (v.map (aN e)) (z.map (aN e))
 | _=>none
end
end Go.Vc
